/- The program's constants are the document's. Conditions: none. -/
import Derived.Test.YtaaedcmbpnpbkaaPFnExactConstantsx1
namespace Go.Proofs.Ytaaedcmbpnpbkaa.Pure
open Go.RowKit Go.Proofs.Ytaaedcmbpnpbkaa.PFnExactConstants Go.Proofs.YtaaedcmbpnpbkaaW.PrintWords Go.Proofs.YtaaedcmbpnpbkaaW.PrintLast

theorem FnExactConstants : laws_FnExactConstants.Pure := rfl

end Go.Proofs.Ytaaedcmbpnpbkaa.Pure
