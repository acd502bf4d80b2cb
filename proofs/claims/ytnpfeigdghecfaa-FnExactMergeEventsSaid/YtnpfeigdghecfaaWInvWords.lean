import Derived.Test.YtnpfeigdghecfaaWInv
import Derived.Test.YtnpfeigdghecfaaWFootNe
namespace Go.Proofs.YtnpfeigdghecfaaW.PrintWords
open Go.RowKit
end Go.Proofs.YtnpfeigdghecfaaW.PrintWords
namespace Go.Proofs.YtnpfeigdghecfaaW.PrintLast
section
variable {ops : Array Oper} {a : Act} {o og : Oper} {g : Nat} {t : Tmp} {u : Bool}
end
end Go.Proofs.YtnpfeigdghecfaaW.PrintLast

