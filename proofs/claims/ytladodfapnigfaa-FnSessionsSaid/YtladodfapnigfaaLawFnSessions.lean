/- The law FnSessions: its row, out of the pure statement and the law's contract. Conditions: none. -/
import Derived.Test.YtladodfapnigfaaRows
import Derived.Test.YtladodfapnigfaaYSesAS4
import Derived.Test.YtladodfapnigfaaOpens
import Derived.WalkKit
import Derived.ProofKit
import Derived.OpenShut
import Derived.ShutString
import Derived.ChangeOld
import Derived.Below
import Derived.SizedLaws
namespace Go.Proofs.Ytladodfapnigfaa.fnSessions
open Go.ChangeShapes Go.WideShapes Go.ChangeAt Go.RowKit Go.Proofs.YtladodfapnigfaaW.PrintWords Go.Proofs.Ytladodfapnigfaa.Opens Go.Proofs.Ytladodfapnigfaa.YSes
set_option linter.unusedVariables false
theorem own : ownKnob Try.prog.godebug = none := by kernel_rfl
theorem laidOut : laidOutB Try.prog = true := by kernel_rfl
theorem opens0 {H : Type} (enc : TypeId × Value → H) (w : World) : Opens enc Try.prog w (Kd.slice 5 (Kd.int .u8)) 22 (fun y => ∀ b ∈ y, (Lit.int .u8 b).wf = true) := by
  exact opens_mono (opens_slice Try.underlying22 (by kernel_rfl) (opens_int Try.underlying5)) (fun y h => h)
set_option maxRecDepth 100000 in
theorem lifted (os : Os) (started : os.Started) (H : Type) (enc : TypeId × Value → H) :
    ReturnsInHanded {} Try.checked os 7 .any (Rows.fnSessionsSpec.pre6 enc Try.prog Try.f7 Rows.fnSessionsRow.domain false) (Rows.fnSessionsSpec.post enc Try.prog Try.f7 false true false false) := by
  refine returnsInHanded_of_change_sized (C := Try.checked) own started (by kernel_rfl) Try.func7
    (ChangeSpec.witness6 (enc := enc) (C := Try.checked) false ⟨#[], #[.slice none 0 0], []⟩ 8 (by kernel_rfl) (by kernel_rfl) (by kernel_rfl) (by kernel_rfl)) ?_
  intro W base args ds gs before hval0 hW hcnd hsz0 _
  have hval : ∀ (j : Nat) t v, Try.f7.params[j]? = some t → args[j]? = some v → Value.okWide Try.prog W .any base t v := hval0
  have hW' := hW
  obtain ⟨p, q, hA0, hV, rfl, hfz, hnd⟩ := hW
  have hA : DataW.TrodAll enc Try.prog W 0 (fun _ => true) true Try.f7.params.toList args.toList ds p := hA0
  rw [Try.params7] at hA hval
  obtain ⟨v0, vs0, d0, ds0, p0, q0, hargs, rfl, rfl, h0, r0⟩ := trodAll_cons hA
  obtain ⟨rfl, rfl, rfl⟩ := trodAll_nil r0
  obtain rfl : args = #[v0] := by cases args; simp_all
  obtain ⟨rfl, rfl⟩ := trodVars_none hV
  have k0_ := h0
  have lt0 : ∀ x ∈ p0, x.block < W.heap.size := by obtain ⟨m, hm⟩ := k0_; exact DataW.trod_lt m _ _ _ hm
  obtain ⟨sa0, sl0, sc0, rfl⟩ := okWide_slice Try.underlying22 (hval 0 22 v0 rfl rfl)
  obtain ⟨fu0, fd0⟩ := h0
  obtain ⟨y0, hk0, hg0⟩ := opens0 enc W fu0 _ _ fd0
  obtain ⟨A0_0, c0_0, e0, le0_0, C0_0⟩ := hk0
  obtain ⟨rfl, rfl, rfl⟩ : A0_0 = sa0 ∧ y0.length = sl0 ∧ c0_0 = sc0 := by simp [Value.cells] at e0; exact ⟨e0.1.symm, e0.2.1.symm, e0.2.2.symm⟩
  have g0_0 := hg0
  clear hA0 hval0 hsz0
  refine (Pure.FnSessions A0_0 c0_0 y0 W C0_0 le0_0 C0_0.2.1 g0_0).mono fun e W' ⟨he, bel⟩ => ?_
  subst he
  exact ⟨_, rfl, _, _, _, [], _, [], hW', trodAll_mk1 (shut_bool Try.underlying4 _), (trodAll_cons_mk (Below.trod laidOut (by kernel_rfl) (of_decide_eq_true (by kernel_rfl)) k0_ bel lt0) trodAll_mk0), rfl, bel.frame _, fun h => by cases h⟩
theorem over : Rows.fnSessionsRow.holds Try.pinned (OpenSpec.ofChange Rows.fnSessionsSpec) :=
  OpenClaim.holds_of_wide 7 Try.f7 rfl rfl rfl rfl rfl rfl rfl ⟨rfl, rfl, rfl, rfl, rfl⟩ rfl rfl rfl rfl rfl (by kernel_rfl) Try.func7 (by kernel_rfl)
    (of_decide_eq_true (by kernel_rfl)) (by unfold Func.isWrapper; first | (rw [if_pos (by decide +kernel)]; kernel_rfl) | (rw [if_neg (by decide +kernel)]; exact ⟨rfl, rfl⟩))
    (fun os started H enc _ => lifted os started H enc)
theorem proved : Rows.FnSessionsSaid := over
#print axioms proved
end Go.Proofs.Ytladodfapnigfaa.fnSessions
namespace Go.Proofs.Ytladodfapnigfaa
/-- The row, under a short name, for the claim. -/
theorem fnSessions_holds : Rows.FnSessionsSaid := fnSessions.proved
end Go.Proofs.Ytladodfapnigfaa
