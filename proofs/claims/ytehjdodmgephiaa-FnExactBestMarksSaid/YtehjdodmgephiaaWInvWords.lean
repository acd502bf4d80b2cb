import Derived.Test.YtehjdodmgephiaaWInv
import Derived.Test.YtehjdodmgephiaaWFootNe
namespace Go.Proofs.YtehjdodmgephiaaW.PrintWords
open Go.RowKit
end Go.Proofs.YtehjdodmgephiaaW.PrintWords
namespace Go.Proofs.YtehjdodmgephiaaW.PrintLast
section
variable {ops : Array Oper} {a : Act} {o og : Oper} {g : Nat} {t : Tmp} {u : Bool}
end
end Go.Proofs.YtehjdodmgephiaaW.PrintLast

