/- Q2: Qmul Qdiv Qcompare -/
import Derived.Test.YtdjghmpaopfboaaQ1
/- Walks: rational.Mul. -/

namespace Go.Proofs.Ytdjghmpaopfboaa
open Go.RowKit
end Go.Proofs.Ytdjghmpaopfboaa
/- Walks: rational.Div. -/

namespace Go.Proofs.Ytdjghmpaopfboaa
open Go.RowKit
end Go.Proofs.Ytdjghmpaopfboaa
/- Walks: rational.Compare. -/

namespace Go.Proofs.Ytdjghmpaopfboaa
open Go.RowKit
end Go.Proofs.Ytdjghmpaopfboaa
