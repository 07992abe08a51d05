import Derived.Test.YtgdmflmglkakgaaWInv
import Derived.Test.YtgdmflmglkakgaaWFootNe
namespace Go.Proofs.YtgdmflmglkakgaaW.PrintWords
open Go.RowKit
end Go.Proofs.YtgdmflmglkakgaaW.PrintWords
namespace Go.Proofs.YtgdmflmglkakgaaW.PrintLast
section
variable {ops : Array Oper} {a : Act} {o og : Oper} {g : Nat} {t : Tmp} {u : Bool}
end
end Go.Proofs.YtgdmflmglkakgaaW.PrintLast
