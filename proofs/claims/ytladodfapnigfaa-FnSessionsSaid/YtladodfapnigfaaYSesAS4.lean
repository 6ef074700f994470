/- AS4 -/
import Derived.Test.YtladodfapnigfaaYSesx0
import Derived.Test.YtladodfapnigfaaYSesx1
import Derived.Test.YtladodfapnigfaaYSesx2
import Derived.Test.YtladodfapnigfaaYSesx3
import Derived.Test.YtladodfapnigfaaYSesx4
import Derived.Test.YtladodfapnigfaaYSesx5
import Derived.Test.YtladodfapnigfaaYSesx6
import Derived.Test.YtladodfapnigfaaYSesx7
import Derived.Test.YtladodfapnigfaaYSesx8
import Derived.Deep.RegionHeld3
import Derived.Test.YtladodfapnigfaaYSesAS3
namespace Go.Proofs.Ytladodfapnigfaa.YSes
open Go.RowKit Go.Proofs.YtladodfapnigfaaW.PrintWords Go.Proofs.YtladodfapnigfaaW.PrintLast Go.Proofs.YtladodfapnigfaaW.PrintMore
attribute [local go_sem] max2_int min2_int max_two min_two max_three min_three max_four min_four
set_option linter.unusedVariables false
set_option linter.unusedSimpArgs false
set_option maxHeartbeats 8000000 in
set_option maxRecDepth 100000 in
theorem lawSessions.long (A0 : Option Addr) (c0 : Nat) (l0 : List Int) (w : World) (hbig : 1048576 < l0.length) : Calls Try.prog 7 #[.slice A0 l0.length c0] w fun e w' => e = .returned (.bool true) ∧ Below w.heap.size w w' := by
  have tbig : decide ((1048576 : Int) < (l0.length : Int)) = true := decide_eq_true (by omega)
  have tbig2 : decide (1048576 < l0.length) = true := decide_eq_true hbig
  clear hbig
  go_enter Try.func7, Try.ntmps7
  go_wp2
  go_ret
  exact ⟨rfl, Below.refl _ _⟩
namespace Pure
theorem FnSessions (A0 : Option Addr) (c0 : Nat) (l0 : List Int) (w : World) (hr0 : Kd.C (Kd.int .u8) w A0 l0.length l0) (hc0 : l0.length ≤ c0)
    (_ : l0.length ≤ 9223372036854775807) (_ : ∀ b ∈ l0, (Lit.int .u8 b).wf = true) :
    Calls Try.prog 7 #[.slice A0 l0.length c0] w fun e w' => e = .returned (.bool true) ∧ Below w.heap.size w w' := by
  by_cases c : 1048576 < l0.length
  · exact lawSessions.long A0 c0 l0 w c
  · exact lawSessions.calls A0 c0 l0 Plain.SInv w hr0 hc0 (Plain.pure_ok l0 (by omega))
end Pure

end Go.Proofs.Ytladodfapnigfaa.YSes
