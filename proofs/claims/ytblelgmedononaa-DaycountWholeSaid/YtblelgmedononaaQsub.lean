/- Walks: rational.Sub. -/
import Derived.Test.YtblelgmedononaaQ1
namespace Go.Proofs.Ytblelgmedononaa
open Go.RowKit
end Go.Proofs.Ytblelgmedononaa
