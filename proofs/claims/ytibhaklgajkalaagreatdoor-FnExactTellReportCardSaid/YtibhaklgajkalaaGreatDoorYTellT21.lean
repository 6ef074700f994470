/- T21 -/
import Derived.Test.YtibhaklgajkalaaGreatDoorYTellx0
import Derived.Test.YtibhaklgajkalaaGreatDoorOpens
import Derived.Test.YtibhaklgajkalaaGreatDoorYTellT20
namespace Go.Proofs.YtibhaklgajkalaaGreatDoor.YTell
open Go.RowKit Go.Proofs.YtibhaklgajkalaaGreatDoorW.PrintWords Go.Proofs.YtibhaklgajkalaaGreatDoorW.PrintLast Go.Proofs.YtibhaklgajkalaaGreatDoorW.PrintMore
attribute [local go_sem] max2_int min2_int max_two min_two max_three min_three max_four min_four
set_option linter.unusedVariables false
set_option linter.unusedSimpArgs false
open Go.Proofs.YtibhaklgajkalaaGreatDoor.Num Go.Proofs.YtibhaklgajkalaaGreatDoor.Opens
section
variable {H : Type} {enc : TypeId × Value → H} {w : World}
def WfI (n : Int) : Prop := (Lit.int .i64 n).wf = true
def WfB (l : List Int) : Prop := l.length ≤ 9223372036854775807 ∧ ∀ b ∈ l, (Lit.int .u8 b).wf = true
def G74 (x : S74) : Prop := WfI x.f0 ∧ WfI x.f1 ∧ WfB x.f2
theorem opens74 : Opens enc Tryz.prog w k74 74 G74 :=
  opens_mono (opens_iso (opens_struct Tryz.underlying74 (by kernel_rfl) (fields_cons (opens_int Tryz.underlying3) rfl (by kernel_rfl) (fields_cons (opens_int Tryz.underlying3) rfl (by kernel_rfl) (fields_one (opens_sliceL Tryz.underlying26 (by kernel_rfl) (opens_int Tryz.underlying5)) rfl (by kernel_rfl))))) _ (fun y => (⟨y.1, y.2.1, y.2.2⟩ : S74)) (fun _ => rfl)) (fun y h => h)
def G160 (x : S160) : Prop := WfI x.f0 ∧ WfI x.f1 ∧ WfI x.f2 ∧ WfB x.f3
theorem opens160 : Opens enc Tryz.prog w k160 160 G160 :=
  opens_mono (opens_iso (opens_struct Tryz.underlying160 (by kernel_rfl) (fields_cons (opens_int Tryz.underlying3) rfl (by kernel_rfl) (fields_cons (opens_int Tryz.underlying3) rfl (by kernel_rfl) (fields_cons (opens_int Tryz.underlying3) rfl (by kernel_rfl) (fields_one (opens_sliceL Tryz.underlying26 (by kernel_rfl) (opens_int Tryz.underlying5)) rfl (by kernel_rfl)))))) _ (fun y => (⟨y.1, y.2.1, y.2.2.1, y.2.2.2⟩ : S160)) (fun _ => rfl)) (fun y h => h)
def G78 (x : S78) : Prop := WfI x.f0 ∧ (x.f1.length ≤ 9223372036854775807 ∧ ∀ z ∈ x.f1, G74 z) ∧ (x.f2.length ≤ 9223372036854775807 ∧ ∀ z ∈ x.f2, G160 z)
theorem opens78 : Opens enc Tryz.prog w k78 78 G78 :=
  opens_mono (opens_iso (opens_struct Tryz.underlying78 (by kernel_rfl) (fields_cons (opens_int Tryz.underlying3) rfl (by kernel_rfl) (fields_cons (opens_sliceL Tryz.underlying75 (by kernel_rfl) opens74) rfl (by kernel_rfl) (fields_one (opens_sliceL Tryz.underlying76 (by kernel_rfl) opens160) rfl (by kernel_rfl))))) _ (fun y => (⟨y.1, y.2.1, y.2.2⟩ : S78)) (fun _ => rfl)) (fun y h => h)
def G140 (x : S140) : Prop := WfI x.f0 ∧ WfI x.f1 ∧ WfI x.f2 ∧ WfI x.f3 ∧ WfI x.f4
theorem opens140 : Opens enc Tryz.prog w k140 140 G140 :=
  opens_mono (opens_iso (opens_struct Tryz.underlying140 (by kernel_rfl) (fields_cons (opens_int Tryz.underlying3) rfl (by kernel_rfl) (fields_cons (opens_int Tryz.underlying3) rfl (by kernel_rfl) (fields_cons (opens_int Tryz.underlying3) rfl (by kernel_rfl) (fields_cons (opens_int Tryz.underlying3) rfl (by kernel_rfl) (fields_one (opens_int Tryz.underlying3) rfl (by kernel_rfl))))))) _ (fun y => (⟨y.1, y.2.1, y.2.2.1, y.2.2.2.1, y.2.2.2.2⟩ : S140)) (fun _ => rfl)) (fun y h => h)
def G173 (x : S173) : Prop := WfI x.f0 ∧ WfB x.f1
theorem opens173 : Opens enc Tryz.prog w k173 173 G173 :=
  opens_mono (opens_iso (opens_struct Tryz.underlying173 (by kernel_rfl) (fields_cons (opens_int Tryz.underlying3) rfl (by kernel_rfl) (fields_one (opens_sliceL Tryz.underlying26 (by kernel_rfl) (opens_int Tryz.underlying5)) rfl (by kernel_rfl)))) _ (fun y => (⟨y.1, y.2⟩ : S173)) (fun _ => rfl)) (fun y h => h)
def G136 (x : S136) : Prop := WfI x.f0 ∧ WfI x.f1 ∧ WfI x.f2 ∧ WfI x.f3 ∧ WfI x.f4 ∧ WfI x.f5 ∧ WfI x.f6 ∧ True ∧ (x.f8.length ≤ 9223372036854775807 ∧ ∀ z ∈ x.f8, G173 z) ∧ WfB x.f9
theorem opens136 : Opens enc Tryz.prog w k136 136 G136 :=
  opens_mono (opens_iso (opens_struct Tryz.underlying136 (by kernel_rfl) (fields_cons (opens_int Tryz.underlying3) rfl (by kernel_rfl) (fields_cons (opens_int Tryz.underlying3) rfl (by kernel_rfl) (fields_cons (opens_int Tryz.underlying3) rfl (by kernel_rfl) (fields_cons (opens_int Tryz.underlying3) rfl (by kernel_rfl) (fields_cons (opens_int Tryz.underlying3) rfl (by kernel_rfl) (fields_cons (opens_int Tryz.underlying3) rfl (by kernel_rfl) (fields_cons (opens_int Tryz.underlying3) rfl (by kernel_rfl) (fields_cons (opens_bool Tryz.underlying4) rfl (by kernel_rfl) (fields_cons (opens_sliceL Tryz.underlying134 (by kernel_rfl) opens173) rfl (by kernel_rfl) (fields_one (opens_sliceL Tryz.underlying26 (by kernel_rfl) (opens_int Tryz.underlying5)) rfl (by kernel_rfl)))))))))))) _ (fun y => (⟨y.1, y.2.1, y.2.2.1, y.2.2.2.1, y.2.2.2.2.1, y.2.2.2.2.2.1, y.2.2.2.2.2.2.1, y.2.2.2.2.2.2.2.1, y.2.2.2.2.2.2.2.2.1, y.2.2.2.2.2.2.2.2.2⟩ : S136)) (fun _ => rfl)) (fun y h => h)
def G81 (x : S81) : Prop := WfI x.f0 ∧ WfI x.f1 ∧ WfI x.f2 ∧ WfI x.f3 ∧ WfI x.f4 ∧ WfI x.f5 ∧ WfI x.f6 ∧ WfI x.f7
theorem opens81 : Opens enc Tryz.prog w k81 81 G81 :=
  opens_mono (opens_iso (opens_struct Tryz.underlying81 (by kernel_rfl) (fields_cons (opens_int Tryz.underlying3) rfl (by kernel_rfl) (fields_cons (opens_int Tryz.underlying3) rfl (by kernel_rfl) (fields_cons (opens_int Tryz.underlying3) rfl (by kernel_rfl) (fields_cons (opens_int Tryz.underlying3) rfl (by kernel_rfl) (fields_cons (opens_int Tryz.underlying3) rfl (by kernel_rfl) (fields_cons (opens_int Tryz.underlying3) rfl (by kernel_rfl) (fields_cons (opens_int Tryz.underlying3) rfl (by kernel_rfl) (fields_one (opens_int Tryz.underlying3) rfl (by kernel_rfl)))))))))) _ (fun y => (⟨y.1, y.2.1, y.2.2.1, y.2.2.2.1, y.2.2.2.2.1, y.2.2.2.2.2.1, y.2.2.2.2.2.2.1, y.2.2.2.2.2.2.2⟩ : S81)) (fun _ => rfl)) (fun y h => h)
def G83 (x : S83) : Prop := WfI x.f0 ∧ WfI x.f1 ∧ G74 x.f2 ∧ G78 x.f3 ∧ (x.f4.length ≤ 9223372036854775807 ∧ ∀ z ∈ x.f4, G140 z) ∧ (x.f5.length ≤ 9223372036854775807 ∧ ∀ z ∈ x.f5, G136 z) ∧ G81 x.f6
theorem opens83 : Opens enc Tryz.prog w k83 83 G83 :=
  opens_mono (opens_iso (opens_struct Tryz.underlying83 (by kernel_rfl) (fields_cons (opens_int Tryz.underlying3) rfl (by kernel_rfl) (fields_cons (opens_int Tryz.underlying3) rfl (by kernel_rfl) (fields_cons opens74 rfl (by kernel_rfl) (fields_cons opens78 rfl (by kernel_rfl) (fields_cons (opens_sliceL Tryz.underlying79 (by kernel_rfl) opens140) rfl (by kernel_rfl) (fields_cons (opens_sliceL Tryz.underlying80 (by kernel_rfl) opens136) rfl (by kernel_rfl) (fields_one opens81 rfl (by kernel_rfl))))))))) _ (fun y => (⟨y.1, y.2.1, y.2.2.1, y.2.2.2.1, y.2.2.2.2.1, y.2.2.2.2.2.1, y.2.2.2.2.2.2⟩ : S83)) (fun _ => rfl)) (fun y h => h)
theorem opens24 : Opens enc Tryz.prog w (Kd.pair (Kd.int .i64) (Kd.slice 83 k83)) 24 (fun y => WfI y.1 ∧ y.2.length ≤ 9223372036854775807 ∧ ∀ z ∈ y.2, G83 z) :=
  opens_mono (opens_struct Tryz.underlying24 (by kernel_rfl) (fields_cons (opens_int Tryz.underlying3) rfl (by kernel_rfl) (fields_one (opens_sliceL Tryz.underlying22 (by kernel_rfl) opens83) rfl (by kernel_rfl)))) (fun y h => h)
end
theorem wfi {n : Int} (h : WfI n) : IntOk n := by
  have := bounds_i64 h
  unfold IntOk
  omega
theorem item_wf (y : S74) (h : G74 y) : ItemWf y := ⟨wfi h.1, wfi h.2.1, bytes_of h.2.2.2⟩
theorem fit_of (o : S83) (h : G83 o) : ObsFit o := by
  obtain ⟨h0, h1, h2, h3, h4, h5, h6⟩ := h
  exact ⟨h2.2.2.1, ⟨⟨h3.2.1.1, fun y hy => (h3.2.1.2 y hy).2.2.1⟩, ⟨h3.2.2.1, fun y hy => (h3.2.2.2 y hy).2.2.2.1⟩⟩, h4.1, ⟨h5.1, fun y hy => by
    obtain ⟨_, _, _, _, _, _, _, _, g8, g9⟩ := h5.2 y hy
    exact ⟨⟨g8.1, fun z hz => (g8.2 z hz).2.1⟩, g9.1⟩⟩⟩
theorem wf_of (o : S83) (h : G83 o) : ObsWf o := by
  obtain ⟨h0, h1, h2, h3, h4, h5, h6⟩ := h
  obtain ⟨a0, a1, a2, a3, a4, a5, a6, a7⟩ := h6
  refine ⟨fun n hn => ?_, fun a ha n hn => ?_, item_wf _ h2, wfi h3.1, fun y hy => item_wf y (h3.2.1.2 y hy)⟩
  · simp only [List.mem_cons, List.mem_nil_iff, or_false] at hn
    rcases hn with rfl | rfl | rfl | rfl | rfl | rfl | rfl | rfl | rfl | rfl
    all_goals (apply wfi; assumption)
  · obtain ⟨b0, b1, b2, b3, b4⟩ := h4.2 a ha
    simp only [List.mem_cons, List.mem_nil_iff, or_false] at hn
    rcases hn with rfl | rfl | rfl | rfl | rfl
    all_goals (apply wfi; assumption)

end Go.Proofs.YtibhaklgajkalaaGreatDoor.YTell
