import Derived.Test.YtikbfbangjjfkaaWInv
import Derived.Test.YtikbfbangjjfkaaWFootNe
namespace Go.Proofs.YtikbfbangjjfkaaW.PrintWords
open Go.RowKit
end Go.Proofs.YtikbfbangjjfkaaW.PrintWords
namespace Go.Proofs.YtikbfbangjjfkaaW.PrintLast
section
variable {ops : Array Oper} {a : Act} {o og : Oper} {g : Nat} {t : Tmp} {u : Bool}
end
end Go.Proofs.YtikbfbangjjfkaaW.PrintLast

