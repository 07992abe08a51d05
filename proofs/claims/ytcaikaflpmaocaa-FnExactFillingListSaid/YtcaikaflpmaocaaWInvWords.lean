import Derived.Test.YtcaikaflpmaocaaWInv
import Derived.Test.YtcaikaflpmaocaaWFootNe
namespace Go.Proofs.YtcaikaflpmaocaaW.PrintWords
open Go.RowKit
end Go.Proofs.YtcaikaflpmaocaaW.PrintWords
namespace Go.Proofs.YtcaikaflpmaocaaW.PrintLast
section
variable {ops : Array Oper} {a : Act} {o og : Oper} {g : Nat} {t : Tmp} {u : Bool}
end
end Go.Proofs.YtcaikaflpmaocaaW.PrintLast
