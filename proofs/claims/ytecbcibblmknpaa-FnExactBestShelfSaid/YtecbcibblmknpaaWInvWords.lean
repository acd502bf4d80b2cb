import Derived.Test.YtecbcibblmknpaaWInv
import Derived.Test.YtecbcibblmknpaaWFootNe
namespace Go.Proofs.YtecbcibblmknpaaW.PrintWords
open Go.RowKit
end Go.Proofs.YtecbcibblmknpaaW.PrintWords
namespace Go.Proofs.YtecbcibblmknpaaW.PrintLast
section
variable {ops : Array Oper} {a : Act} {o og : Oper} {g : Nat} {t : Tmp} {u : Bool}
end
end Go.Proofs.YtecbcibblmknpaaW.PrintLast

