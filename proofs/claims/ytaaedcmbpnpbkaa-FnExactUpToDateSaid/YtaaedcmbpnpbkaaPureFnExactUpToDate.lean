/- UpToDate: the program's function and the reference's tell the same at all arguments. Conditions: none beyond the statement's own. -/
import Derived.Test.YtaaedcmbpnpbkaaPFnExactUpToDatex1
namespace Go.Proofs.Ytaaedcmbpnpbkaa.Pure
open Go.RowKit Go.Proofs.Ytaaedcmbpnpbkaa.PFnExactUpToDate Go.Proofs.YtaaedcmbpnpbkaaW.PrintWords Go.Proofs.YtaaedcmbpnpbkaaW.PrintLast

theorem FnExactUpToDate : laws_FnExactUpToDate.Pure := by
  intro a0 a1 a2 a3 _ _ _ _
  unfold laws_FnExactUpToDate.f spec_UpToDate.f impl_UpToDate.f
  by_cases h : a2 = a0
  · subst h; simp
  · by_cases g : a2 > a0 <;> simp [h, g]

end Go.Proofs.Ytaaedcmbpnpbkaa.Pure
