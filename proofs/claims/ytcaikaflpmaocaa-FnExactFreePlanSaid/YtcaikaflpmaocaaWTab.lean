import Derived.Test.YtcaikaflpmaocaaWLast
import Derived.Test.YtcaikaflpmaocaaWWords
namespace Go.Proofs.YtcaikaflpmaocaaW.PrintLast
open Go.Proofs.YtcaikaflpmaocaaW.PrintWords (Aside0)
section
variable {md : Region.Mode} {ops : Array Oper} {T : Bool × List (List Nat × List Nat)} {l l' li lj lk : Array Bool} {ds : List Nat} {i j k : Nat}
end
end Go.Proofs.YtcaikaflpmaocaaW.PrintLast
