import Derived.Test.YtenlcakpcbmmdaaWInv
import Derived.Test.YtenlcakpcbmmdaaWFootNe
namespace Go.Proofs.YtenlcakpcbmmdaaW.PrintWords
open Go.RowKit
end Go.Proofs.YtenlcakpcbmmdaaW.PrintWords
namespace Go.Proofs.YtenlcakpcbmmdaaW.PrintLast
section
variable {ops : Array Oper} {a : Act} {o og : Oper} {g : Nat} {t : Tmp} {u : Bool}
end
end Go.Proofs.YtenlcakpcbmmdaaW.PrintLast
