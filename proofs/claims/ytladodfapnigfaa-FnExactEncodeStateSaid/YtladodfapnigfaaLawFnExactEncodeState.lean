/- The law FnExactEncodeState: its row, out of the pure statement and the law's contract. Conditions: none. -/
import Derived.Test.YtladodfapnigfaaRows
import Derived.Test.YtladodfapnigfaaXFnExactEncodeStatex10
import Derived.Test.YtladodfapnigfaaPureFnExactEncodeState
import Derived.Test.YtladodfapnigfaaOpens
import Derived.WalkKit
import Derived.ProofKit
import Derived.OpenShut
import Derived.ShutString
import Derived.ChangeOld
import Derived.Below
import Derived.SizedLaws
namespace Go.Proofs.Ytladodfapnigfaa.fnExactEncodeState
open Go.ChangeShapes Go.WideShapes Go.ChangeAt Go.RowKit Go.Proofs.YtladodfapnigfaaW.PrintWords Go.Proofs.Ytladodfapnigfaa.Opens Go.Proofs.Ytladodfapnigfaa.XFnExactEncodeState
set_option linter.unusedVariables false
theorem own : ownKnob Try.prog.godebug = none := by kernel_rfl
theorem laidOut : laidOutB Try.prog = true := by kernel_rfl
theorem opens0 {H : Type} (enc : TypeId × Value → H) (w : World) : Opens enc Try.prog w (Kd.pair (Kd.int .i64) (Kd.pair (Kd.slice 33 k33) (Kd.slice 96 k96))) 42 (fun y => ((Lit.int .i64 y.1).wf = true) ∧ (∀ x ∈ y.2.1, ((Lit.int .i64 x.f0).wf = true) ∧ ((Lit.int .i64 x.f1).wf = true) ∧ ((x.f2.length ≤ 9223372036854775807 ∧ ∀ b ∈ x.f2, (Lit.int .u8 b).wf = true))) ∧ (∀ x ∈ y.2.2, ((Lit.int .i64 x.f0).wf = true) ∧ ((Lit.int .i64 x.f1).wf = true) ∧ ((Lit.int .i64 x.f2).wf = true) ∧ ((x.f3.length ≤ 9223372036854775807 ∧ ∀ b ∈ x.f3, (Lit.int .u8 b).wf = true)))) := by
  exact opens_mono (opens_struct Try.underlying42 (by kernel_rfl) (fields_cons (opens_int Try.underlying3) rfl (by kernel_rfl) (fields_cons (opens_slice Try.underlying39 (by kernel_rfl) (opens_iso (opens_struct Try.underlying33 (by kernel_rfl) (fields_cons (opens_int Try.underlying3) rfl (by kernel_rfl) (fields_cons (opens_int Try.underlying3) rfl (by kernel_rfl) (fields_one (opens_sliceL Try.underlying22 (by kernel_rfl) (opens_int Try.underlying5)) rfl (by kernel_rfl))))) _ (fun y => (⟨y.1, y.2.1, y.2.2⟩ : S33)) (fun _ => rfl))) rfl (by kernel_rfl) (fields_one (opens_slice Try.underlying40 (by kernel_rfl) (opens_iso (opens_struct Try.underlying96 (by kernel_rfl) (fields_cons (opens_int Try.underlying3) rfl (by kernel_rfl) (fields_cons (opens_int Try.underlying3) rfl (by kernel_rfl) (fields_cons (opens_int Try.underlying3) rfl (by kernel_rfl) (fields_one (opens_sliceL Try.underlying22 (by kernel_rfl) (opens_int Try.underlying5)) rfl (by kernel_rfl)))))) _ (fun y => (⟨y.1, y.2.1, y.2.2.1, y.2.2.2⟩ : S96)) (fun _ => rfl))) rfl (by kernel_rfl))))) (fun y h => h)
set_option maxRecDepth 100000 in
theorem lifted (os : Os) (started : os.Started) (H : Type) (enc : TypeId × Value → H) :
    ReturnsInHanded {} Try.checked os 5 .any (Rows.fnExactEncodeStateSpec.pre6 enc Try.prog Try.f5 Rows.fnExactEncodeStateRow.domain false) (Rows.fnExactEncodeStateSpec.post enc Try.prog Try.f5 false true false false) := by
  refine returnsInHanded_of_change_sized (C := Try.checked) own started (by kernel_rfl) Try.func5
    (ChangeSpec.witness6 (enc := enc) (C := Try.checked) false ⟨#[], #[.agg #[.int .i64 0, .slice none 0 0, .slice none 0 0]], []⟩ 8 (by kernel_rfl) (by kernel_rfl) (by kernel_rfl) (by kernel_rfl)) ?_
  intro W base args ds gs before hval0 hW hcnd hsz0 _
  have hval : ∀ (j : Nat) t v, Try.f5.params[j]? = some t → args[j]? = some v → Value.okWide Try.prog W .any base t v := hval0
  have hW' := hW
  obtain ⟨p, q, hA0, hV, rfl, hfz, hnd⟩ := hW
  have hA : DataW.TrodAll enc Try.prog W 0 (fun _ => true) true Try.f5.params.toList args.toList ds p := hA0
  rw [Try.params5] at hA hval
  obtain ⟨v0, vs0, d0, ds0, p0, q0, hargs, rfl, rfl, h0, r0⟩ := trodAll_cons hA
  obtain ⟨rfl, rfl, rfl⟩ := trodAll_nil r0
  obtain rfl : args = #[v0] := by cases args; simp_all
  obtain ⟨rfl, rfl⟩ := trodVars_none hV
  have k0_ := h0
  have lt0 : ∀ x ∈ p0, x.block < W.heap.size := by obtain ⟨m, hm⟩ := k0_; exact DataW.trod_lt m _ _ _ hm
  obtain ⟨cs0, rfl, hz0⟩ := okWide_struct Try.underlying42 (hval 0 42 v0 rfl rfl)
  obtain ⟨fu0, fd0⟩ := h0
  obtain ⟨y0, hk0, hg0⟩ := opens0 enc W fu0 _ _ fd0
  obtain ⟨_, _, e0, rfl, ⟨_, _, rfl, ⟨A0_1, c0_1, rfl, le0_1, C0_1⟩, ⟨A0_2, c0_2, rfl, le0_2, C0_2⟩⟩⟩ := hk0
  obtain rfl : cs0 = #[.int .i64 y0.1, .slice A0_1 y0.2.1.length c0_1, .slice A0_2 y0.2.2.length c0_2] := Array.toList_inj.1 e0
  obtain ⟨g0_0, g0_1, g0_2⟩ := hg0
  clear hA0 hval0 hsz0
  refine (Pure.FnExactEncodeState y0.1 A0_1 c0_1 y0.2.1 A0_2 c0_2 y0.2.2 W C0_1 le0_1 C0_2 le0_2 g0_0 C0_1.2.1 g0_1 C0_2.2.1 g0_2).mono fun e W' ⟨he, bel⟩ => ?_
  subst he
  exact ⟨_, rfl, _, _, _, [], _, [], hW', trodAll_mk1 (shut_bool Try.underlying4 _), (trodAll_cons_mk (Below.trod laidOut (by kernel_rfl) (of_decide_eq_true (by kernel_rfl)) k0_ bel lt0) trodAll_mk0), rfl, bel.frame _, fun h => by cases h⟩
theorem over : Rows.fnExactEncodeStateRow.holds Try.pinned (OpenSpec.ofChange Rows.fnExactEncodeStateSpec) :=
  OpenClaim.holds_of_wide 5 Try.f5 rfl rfl rfl rfl rfl rfl rfl ⟨rfl, rfl, rfl, rfl, rfl⟩ rfl rfl rfl rfl rfl (by kernel_rfl) Try.func5 (by kernel_rfl)
    (of_decide_eq_true (by kernel_rfl)) (by unfold Func.isWrapper; first | (rw [if_pos (by decide +kernel)]; kernel_rfl) | (rw [if_neg (by decide +kernel)]; exact ⟨rfl, rfl⟩))
    (fun os started H enc _ => lifted os started H enc)
theorem proved : Rows.FnExactEncodeStateSaid := over
#print axioms proved
end Go.Proofs.Ytladodfapnigfaa.fnExactEncodeState
namespace Go.Proofs.Ytladodfapnigfaa
/-- The row, under a short name, for the claim. -/
theorem fnExactEncodeState_holds : Rows.FnExactEncodeStateSaid := fnExactEncodeState.proved
end Go.Proofs.Ytladodfapnigfaa
