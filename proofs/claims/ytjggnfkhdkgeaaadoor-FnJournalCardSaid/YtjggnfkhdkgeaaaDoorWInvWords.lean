import Derived.Test.YtjggnfkhdkgeaaaDoorWInv
import Derived.Test.YtjggnfkhdkgeaaaDoorWFootNe
namespace Go.Proofs.YtjggnfkhdkgeaaaDoorW.PrintWords
open Go.RowKit
end Go.Proofs.YtjggnfkhdkgeaaaDoorW.PrintWords
namespace Go.Proofs.YtjggnfkhdkgeaaaDoorW.PrintLast
section
variable {ops : Array Oper} {a : Act} {o og : Oper} {g : Nat} {t : Tmp} {u : Bool}
end
end Go.Proofs.YtjggnfkhdkgeaaaDoorW.PrintLast

