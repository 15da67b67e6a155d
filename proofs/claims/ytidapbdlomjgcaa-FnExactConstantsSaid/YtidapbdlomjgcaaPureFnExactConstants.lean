/- The constants of the program are those of the reference: the call answers true; no condition. -/
import Derived.Test.YtidapbdlomjgcaaPFnExactConstantsx1
namespace Go.Proofs.Ytidapbdlomjgcaa.Pure
open Go.RowKit Go.Proofs.Ytidapbdlomjgcaa.PFnExactConstants Go.Proofs.YtidapbdlomjgcaaW.PrintWords Go.Proofs.YtidapbdlomjgcaaW.PrintLast

theorem FnExactConstants : laws_FnExactConstants.Pure := rfl

end Go.Proofs.Ytidapbdlomjgcaa.Pure
