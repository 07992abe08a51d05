import Derived.Test.YtnjmgmdpkogocaaWInv
import Derived.Test.YtnjmgmdpkogocaaWFootNe
namespace Go.Proofs.YtnjmgmdpkogocaaW.PrintWords
open Go.RowKit
end Go.Proofs.YtnjmgmdpkogocaaW.PrintWords
namespace Go.Proofs.YtnjmgmdpkogocaaW.PrintLast
section
variable {ops : Array Oper} {a : Act} {o og : Oper} {g : Nat} {t : Tmp} {u : Bool}
end
end Go.Proofs.YtnjmgmdpkogocaaW.PrintLast
