/- The law FnExactEncodeItem: its row, out of the pure statement and the law's contract. Conditions: none. -/
import Derived.Test.YtladodfapnigfaaRows
import Derived.Test.YtladodfapnigfaaXFnExactEncodeItemx3
import Derived.Test.YtladodfapnigfaaPureFnExactEncodeItem
import Derived.Test.YtladodfapnigfaaOpens
import Derived.WalkKit
import Derived.ProofKit
import Derived.OpenShut
import Derived.ShutString
import Derived.ChangeOld
import Derived.Below
import Derived.SizedLaws
namespace Go.Proofs.Ytladodfapnigfaa.fnExactEncodeItem
open Go.ChangeShapes Go.WideShapes Go.ChangeAt Go.RowKit Go.Proofs.YtladodfapnigfaaW.PrintWords Go.Proofs.Ytladodfapnigfaa.Opens Go.Proofs.Ytladodfapnigfaa.XFnExactEncodeItem
set_option linter.unusedVariables false
theorem own : ownKnob Try.prog.godebug = none := by kernel_rfl
theorem laidOut : laidOutB Try.prog = true := by kernel_rfl
theorem opens0 {H : Type} (enc : TypeId × Value → H) (w : World) : Opens enc Try.prog w (Kd.pair (Kd.int .i64) (Kd.pair (Kd.int .i64) (Kd.slice 5 (Kd.int .u8)))) 33 (fun y => ((Lit.int .i64 y.1).wf = true) ∧ ((Lit.int .i64 y.2.1).wf = true) ∧ (∀ x ∈ y.2.2, (Lit.int .u8 x).wf = true)) := by
  exact opens_mono (opens_struct Try.underlying33 (by kernel_rfl) (fields_cons (opens_int Try.underlying3) rfl (by kernel_rfl) (fields_cons (opens_int Try.underlying3) rfl (by kernel_rfl) (fields_one (opens_slice Try.underlying22 (by kernel_rfl) (opens_int Try.underlying5)) rfl (by kernel_rfl))))) (fun y h => h)
set_option maxRecDepth 100000 in
theorem lifted (os : Os) (started : os.Started) (H : Type) (enc : TypeId × Value → H) :
    ReturnsInHanded {} Try.checked os 4 .any (Rows.fnExactEncodeItemSpec.pre6 enc Try.prog Try.f4 Rows.fnExactEncodeItemRow.domain false) (Rows.fnExactEncodeItemSpec.post enc Try.prog Try.f4 false true false false) := by
  refine returnsInHanded_of_change_sized (C := Try.checked) own started (by kernel_rfl) Try.func4
    (ChangeSpec.witness6 (enc := enc) (C := Try.checked) false ⟨#[], #[.agg #[.int .i64 0, .int .i64 0, .slice none 0 0]], []⟩ 8 (by kernel_rfl) (by kernel_rfl) (by kernel_rfl) (by kernel_rfl)) ?_
  intro W base args ds gs before hval0 hW hcnd hsz0 _
  have hval : ∀ (j : Nat) t v, Try.f4.params[j]? = some t → args[j]? = some v → Value.okWide Try.prog W .any base t v := hval0
  have hW' := hW
  obtain ⟨p, q, hA0, hV, rfl, hfz, hnd⟩ := hW
  have hA : DataW.TrodAll enc Try.prog W 0 (fun _ => true) true Try.f4.params.toList args.toList ds p := hA0
  rw [Try.params4] at hA hval
  obtain ⟨v0, vs0, d0, ds0, p0, q0, hargs, rfl, rfl, h0, r0⟩ := trodAll_cons hA
  obtain ⟨rfl, rfl, rfl⟩ := trodAll_nil r0
  obtain rfl : args = #[v0] := by cases args; simp_all
  obtain ⟨rfl, rfl⟩ := trodVars_none hV
  have k0_ := h0
  have lt0 : ∀ x ∈ p0, x.block < W.heap.size := by obtain ⟨m, hm⟩ := k0_; exact DataW.trod_lt m _ _ _ hm
  obtain ⟨cs0, rfl, hz0⟩ := okWide_struct Try.underlying33 (hval 0 33 v0 rfl rfl)
  obtain ⟨fu0, fd0⟩ := h0
  obtain ⟨y0, hk0, hg0⟩ := opens0 enc W fu0 _ _ fd0
  obtain ⟨_, _, e0, rfl, ⟨_, _, rfl, rfl, ⟨A0_2, c0_2, rfl, le0_2, C0_2⟩⟩⟩ := hk0
  obtain rfl : cs0 = #[.int .i64 y0.1, .int .i64 y0.2.1, .slice A0_2 y0.2.2.length c0_2] := Array.toList_inj.1 e0
  obtain ⟨g0_0, g0_1, g0_2⟩ := hg0
  clear hA0 hval0 hsz0
  obtain ⟨k, hp⟩ := Pure.FnExactEncodeItem y0.1 g0_0 y0.2.1 g0_1 y0.2.2 C0_2.2.1 g0_2
  refine (laws_FnExactEncodeItem.calls k y0.1 y0.2.1 A0_2 c0_2 y0.2.2 true W C0_2 le0_2 hp).mono fun e W' ⟨he, bel⟩ => ?_
  subst he
  exact ⟨_, rfl, _, _, _, [], _, [], hW', trodAll_mk1 (shut_bool Try.underlying4 _), (trodAll_cons_mk (Below.trod laidOut (by kernel_rfl) (of_decide_eq_true (by kernel_rfl)) k0_ bel lt0) trodAll_mk0), rfl, bel.frame _, fun h => by cases h⟩
theorem over : Rows.fnExactEncodeItemRow.holds Try.pinned (OpenSpec.ofChange Rows.fnExactEncodeItemSpec) :=
  OpenClaim.holds_of_wide 4 Try.f4 rfl rfl rfl rfl rfl rfl rfl ⟨rfl, rfl, rfl, rfl, rfl⟩ rfl rfl rfl rfl rfl (by kernel_rfl) Try.func4 (by kernel_rfl)
    (of_decide_eq_true (by kernel_rfl)) (by unfold Func.isWrapper; first | (rw [if_pos (by decide +kernel)]; kernel_rfl) | (rw [if_neg (by decide +kernel)]; exact ⟨rfl, rfl⟩))
    (fun os started H enc _ => lifted os started H enc)
theorem proved : Rows.FnExactEncodeItemSaid := over
#print axioms proved
end Go.Proofs.Ytladodfapnigfaa.fnExactEncodeItem
namespace Go.Proofs.Ytladodfapnigfaa
/-- The row, under a short name, for the claim. -/
theorem fnExactEncodeItem_holds : Rows.FnExactEncodeItemSaid := fnExactEncodeItem.proved
end Go.Proofs.Ytladodfapnigfaa
