/- Q2: Qmul Qdiv Qcompare -/
import Derived.Test.YtblelgmedononaaQ1
/- Walks: rational.Mul. -/

namespace Go.Proofs.Ytblelgmedononaa
open Go.RowKit
end Go.Proofs.Ytblelgmedononaa
/- Walks: rational.Div. -/

namespace Go.Proofs.Ytblelgmedononaa
open Go.RowKit
end Go.Proofs.Ytblelgmedononaa
/- Walks: rational.Compare. -/

namespace Go.Proofs.Ytblelgmedononaa
open Go.RowKit
end Go.Proofs.Ytblelgmedononaa
