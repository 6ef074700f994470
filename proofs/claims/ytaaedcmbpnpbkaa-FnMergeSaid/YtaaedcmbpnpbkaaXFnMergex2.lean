/- Contracts of the functions that FnMerge comes to, each proved over the translation. Written by this session's program xprint.py; the parts between 'BY HAND' rows are typed by hand. Conditions: each theorem's own hypotheses. -/
import Derived.Test.YtaaedcmbpnpbkaaXFnMergex0
import Derived.Test.YtaaedcmbpnpbkaaXFnMergex1
namespace Go.Proofs.Ytaaedcmbpnpbkaa.XFnMerge
open Go.RowKit Go.Proofs.YtaaedcmbpnpbkaaW.PrintWords Go.Proofs.YtaaedcmbpnpbkaaW.PrintLast Go.Proofs.YtaaedcmbpnpbkaaW.PrintMore
attribute [local go_sem] max2_int min2_int max_two min_two max_three min_three max_four min_four   -- for this text's walks alone
set_option linter.unusedVariables false
set_option linter.unusedSimpArgs false

/-! ### spec_DrawMergePoint: function 13 -/
mutual
def spec_DrawMergePoint.j3 : Nat → Int → List Int → Int → List Int → List Int → Int → Int → Option (Int × List Int × Int × List Int)
  | 0, _, _, _, _, _, _, _ => none
  | k + 1, x7, x8, x9, x10, x136000, x136001, x136002 => (spec_l1Src_One.f x136000 x136001 x136002 12).bind fun bt186 => (if bt186.1 = true then ((spec_l1Src_Wild.f x136000 bt186.2.1 bt186.2.2).bind fun bt189 => ((some (([(-1), 1000001, bt189.1] : List Int) : List Int)).bind fun y192 => ((spec_l1Src_N.f x136000 bt189.2.1 bt189.2.2 3).bind fun bt195 => (if 0 ≤ bt195.1 then (if bt195.1 < (y192.length : Int) then (spec_DrawMergePoint.j4 k (rd y192 bt195.1) x8 x9 x10 x136000 bt195.2.1 bt195.2.2) else (none)) else (none))))) else (spec_DrawMergePoint.j4 k x7 x8 x9 x10 x136000 bt186.2.1 bt186.2.2))
def spec_DrawMergePoint.j4 : Nat → Int → List Int → Int → List Int → List Int → Int → Int → Option (Int × List Int × Int × List Int)
  | 0, _, _, _, _, _, _, _ => none
  | k + 1, x7, x8, x9, x10, x136000, x136001, x136002 => (spec_l1Src_One.f x136000 x136001 x136002 12).bind fun bt199 => (if bt199.1 = true then ((spec_l1Src_Wild.f x136000 bt199.2.1 bt199.2.2).bind fun bt202 => ((some (([(-1), 1000001, bt202.1] : List Int) : List Int)).bind fun y205 => ((spec_l1Src_N.f x136000 bt202.2.1 bt202.2.2 3).bind fun bt208 => (if 0 ≤ bt208.1 then (if bt208.1 < (y205.length : Int) then (some (x7, x8, rd y205 bt208.1, x10)) else (none)) else (none))))) else (some (x7, x8, x9, x10)))
def spec_DrawMergePoint.l0 : Nat → Int → List Int → Int → List Int → Int → List Int → Int → Int → Option (Int × List Int × Int × List Int)
  | 0, _, _, _, _, _, _, _, _ => none
  | k + 1, x7, x8, x9, x10, x11, x136000, x136001, x136002 => if x11 < (wrap64 (x9 + 8)) then (spec_DrawMergePoint.j1 k x7 x8 x9 x10 x11 (decide ((wrap64 (x11 - x7)) < (x8.length : Int))) x136000 x136001 x136002) else (spec_DrawMergePoint.j1 k x7 x8 x9 x10 x11 false x136000 x136001 x136002)
def spec_DrawMergePoint.j1 : Nat → Int → List Int → Int → List Int → Int → Bool → List Int → Int → Int → Option (Int × List Int × Int × List Int)
  | 0, _, _, _, _, _, _, _, _, _ => none
  | k + 1, x7, x8, x9, x10, x11, x49, x136000, x136001, x136002 => if x49 = true then (if x11 ≥ x7 then (if 0 ≤ (wrap64 (x11 - x7)) then (if (wrap64 (x11 - x7)) < (x8.length : Int) then (if x10.length < 17592186044416 then (spec_DrawMergePoint.l0 k x7 x8 x9 (x10 ++ [rd x8 (wrap64 (x11 - x7))]) (wrap64 (x11 + 1)) x136000 x136001 x136002) else (none)) else (none)) else (none)) else (if x10.length < 17592186044416 then (spec_DrawMergePoint.l0 k x7 x8 x9 (x10 ++ [0]) (wrap64 (x11 + 1)) x136000 x136001 x136002) else (none))) else ((spec_l1Src_N.f x136000 x136001 x136002 4).bind fun bt169 => (spec_DrawMergePoint.l1 k x7 x8 x9 x10 bt169.1 x136000 bt169.2.1 bt169.2.2))
def spec_DrawMergePoint.l1 : Nat → Int → List Int → Int → List Int → Int → List Int → Int → Int → Option (Int × List Int × Int × List Int)
  | 0, _, _, _, _, _, _, _, _ => none
  | k + 1, x7, x8, x9, x10, x12, x136000, x136001, x136002 => if x12 > 0 then ((spec_l1Src_N.f x136000 x136001 x136002 4).bind fun bt172 => (if x10.length < 17592186044416 then (spec_DrawMergePoint.l1 k x7 x8 x9 (x10 ++ [bt172.1]) (wrap64 (x12 - 1)) x136000 bt172.2.1 bt172.2.2) else (none))) else (if (x10.length : Int) > 0 then ((spec_l1Src_One.f x136000 x136001 x136002 3).bind fun bt178 => (if bt178.1 = true then ((spec_l1Src_N.f x136000 bt178.2.1 bt178.2.2 (x10.length : Int)).bind fun bt181 => (if 0 ≤ bt181.1 then (if bt181.1 < (x10.length : Int) then (spec_DrawMergePoint.j3 k x7 x8 x9 (x10.set (bt181.1 : Int).toNat (wrap64 ((rd x10 bt181.1) + 1))) x136000 bt181.2.1 bt181.2.2) else (none)) else (none))) else (spec_DrawMergePoint.j3 k x7 x8 x9 x10 x136000 bt178.2.1 bt178.2.2))) else (spec_DrawMergePoint.j3 k x7 x8 x9 x10 x136000 x136001 x136002))
end
def spec_DrawMergePoint.f (k : Nat) (l0 : List Int) : Option (Int × List Int × Int × List Int) := (spec_L1Draw.f l0).bind fun bt132 => ((spec_l1Src_N.f bt132.1 bt132.2.1 bt132.2.2 5).bind fun bt136 => ((spec_L1Size.f l0 20).bind fun t139 => ((spec_l1Src_N.f bt132.1 bt136.2.1 bt136.2.2 t139).bind fun bt140 => ((spec_l5Terms.f k bt132.1 bt140.2.1 bt140.2.2 bt140.1).bind fun bt143 => ((spec_l1Src_N.f bt132.1 bt143.2.1 bt143.2.2 (wrap64 ((wrap64 (bt136.1 + (bt143.1.length : Int))) + 2))).bind fun bt148 => ((spec_l1Src_N.f bt132.1 bt148.2.1 bt148.2.2 9).bind fun bt151 => ((spec_l5Terms.f k bt132.1 bt151.2.1 bt151.2.2 bt151.1).bind fun bt154 => ((spec_l1Src_N.f bt132.1 bt154.2.1 bt154.2.2 3).bind fun bt159 => (if bt159.1 > 0 then (spec_DrawMergePoint.l0 k bt136.1 bt143.1 bt148.1 ([] : List Int) bt148.1 bt132.1 bt159.2.1 bt159.2.2) else (spec_DrawMergePoint.j3 k bt136.1 bt143.1 bt148.1 bt154.1 bt132.1 bt159.2.1 bt159.2.2))))))))))
theorem spec_DrawMergePoint.mono_l : ∀ k, (∀ y0 y1 y2 y3 y4 y5 y6, LeO (spec_DrawMergePoint.j3 k y0 y1 y2 y3 y4 y5 y6) (spec_DrawMergePoint.j3 (k + 1) y0 y1 y2 y3 y4 y5 y6)) ∧ (∀ y0 y1 y2 y3 y4 y5 y6, LeO (spec_DrawMergePoint.j4 k y0 y1 y2 y3 y4 y5 y6) (spec_DrawMergePoint.j4 (k + 1) y0 y1 y2 y3 y4 y5 y6)) ∧ (∀ y0 y1 y2 y3 y4 y5 y6 y7, LeO (spec_DrawMergePoint.l0 k y0 y1 y2 y3 y4 y5 y6 y7) (spec_DrawMergePoint.l0 (k + 1) y0 y1 y2 y3 y4 y5 y6 y7)) ∧ (∀ y0 y1 y2 y3 y4 y5 y6 y7 y8, LeO (spec_DrawMergePoint.j1 k y0 y1 y2 y3 y4 y5 y6 y7 y8) (spec_DrawMergePoint.j1 (k + 1) y0 y1 y2 y3 y4 y5 y6 y7 y8)) ∧ (∀ y0 y1 y2 y3 y4 y5 y6 y7, LeO (spec_DrawMergePoint.l1 k y0 y1 y2 y3 y4 y5 y6 y7) (spec_DrawMergePoint.l1 (k + 1) y0 y1 y2 y3 y4 y5 y6 y7))
  | 0 => ⟨fun _ _ _ _ _ _ _ r h => by simp [spec_DrawMergePoint.j3] at h, fun _ _ _ _ _ _ _ r h => by simp [spec_DrawMergePoint.j4] at h, fun _ _ _ _ _ _ _ _ r h => by simp [spec_DrawMergePoint.l0] at h, fun _ _ _ _ _ _ _ _ _ r h => by simp [spec_DrawMergePoint.j1] at h, fun _ _ _ _ _ _ _ _ r h => by simp [spec_DrawMergePoint.l1] at h⟩
  | k + 1 => by
    obtain ⟨ih0, ih1, ih2, ih3, ih4⟩ := spec_DrawMergePoint.mono_l k
    refine ⟨?_, ?_, ?_, ?_, ?_⟩
    · intro y0 y1 y2 y3 y4 y5 y6
      unfold spec_DrawMergePoint.j3
      repeat' first
      | (with_reducible exact ih0 _ _ _ _ _ _ _)
      | (with_reducible exact ih1 _ _ _ _ _ _ _)
      | (with_reducible exact ih2 _ _ _ _ _ _ _ _)
      | (with_reducible exact ih3 _ _ _ _ _ _ _ _ _)
      | (with_reducible exact ih4 _ _ _ _ _ _ _ _)
      | (with_reducible exact spec_l5Terms.mono _ _ _ _ _)
      | (with_reducible exact LeO.refl _)
      | (with_reducible exact LeO.none _)
      | (with_reducible refine LeO.ite ?_ ?_)
      | (with_reducible refine LeO.bind ?_ (fun _ => ?_))
      | exact ih0 _ _ _ _ _ _ _
      | exact ih1 _ _ _ _ _ _ _
      | exact ih2 _ _ _ _ _ _ _ _
      | exact ih3 _ _ _ _ _ _ _ _ _
      | exact ih4 _ _ _ _ _ _ _ _
      | exact spec_l5Terms.mono _ _ _ _ _
      | exact LeO.none _
      | refine LeO.ite ?_ ?_
      | refine LeO.bind ?_ (fun _ => ?_)
    · intro y0 y1 y2 y3 y4 y5 y6
      unfold spec_DrawMergePoint.j4
      repeat' first
      | (with_reducible exact ih0 _ _ _ _ _ _ _)
      | (with_reducible exact ih1 _ _ _ _ _ _ _)
      | (with_reducible exact ih2 _ _ _ _ _ _ _ _)
      | (with_reducible exact ih3 _ _ _ _ _ _ _ _ _)
      | (with_reducible exact ih4 _ _ _ _ _ _ _ _)
      | (with_reducible exact spec_l5Terms.mono _ _ _ _ _)
      | (with_reducible exact LeO.refl _)
      | (with_reducible exact LeO.none _)
      | (with_reducible refine LeO.ite ?_ ?_)
      | (with_reducible refine LeO.bind ?_ (fun _ => ?_))
      | exact ih0 _ _ _ _ _ _ _
      | exact ih1 _ _ _ _ _ _ _
      | exact ih2 _ _ _ _ _ _ _ _
      | exact ih3 _ _ _ _ _ _ _ _ _
      | exact ih4 _ _ _ _ _ _ _ _
      | exact spec_l5Terms.mono _ _ _ _ _
      | exact LeO.none _
      | refine LeO.ite ?_ ?_
      | refine LeO.bind ?_ (fun _ => ?_)
    · intro y0 y1 y2 y3 y4 y5 y6 y7
      unfold spec_DrawMergePoint.l0
      repeat' first
      | (with_reducible exact ih0 _ _ _ _ _ _ _)
      | (with_reducible exact ih1 _ _ _ _ _ _ _)
      | (with_reducible exact ih2 _ _ _ _ _ _ _ _)
      | (with_reducible exact ih3 _ _ _ _ _ _ _ _ _)
      | (with_reducible exact ih4 _ _ _ _ _ _ _ _)
      | (with_reducible exact spec_l5Terms.mono _ _ _ _ _)
      | (with_reducible exact LeO.refl _)
      | (with_reducible exact LeO.none _)
      | (with_reducible refine LeO.ite ?_ ?_)
      | (with_reducible refine LeO.bind ?_ (fun _ => ?_))
      | exact ih0 _ _ _ _ _ _ _
      | exact ih1 _ _ _ _ _ _ _
      | exact ih2 _ _ _ _ _ _ _ _
      | exact ih3 _ _ _ _ _ _ _ _ _
      | exact ih4 _ _ _ _ _ _ _ _
      | exact spec_l5Terms.mono _ _ _ _ _
      | exact LeO.none _
      | refine LeO.ite ?_ ?_
      | refine LeO.bind ?_ (fun _ => ?_)
    · intro y0 y1 y2 y3 y4 y5 y6 y7 y8
      unfold spec_DrawMergePoint.j1
      repeat' first
      | (with_reducible exact ih0 _ _ _ _ _ _ _)
      | (with_reducible exact ih1 _ _ _ _ _ _ _)
      | (with_reducible exact ih2 _ _ _ _ _ _ _ _)
      | (with_reducible exact ih3 _ _ _ _ _ _ _ _ _)
      | (with_reducible exact ih4 _ _ _ _ _ _ _ _)
      | (with_reducible exact spec_l5Terms.mono _ _ _ _ _)
      | (with_reducible exact LeO.refl _)
      | (with_reducible exact LeO.none _)
      | (with_reducible refine LeO.ite ?_ ?_)
      | (with_reducible refine LeO.bind ?_ (fun _ => ?_))
      | exact ih0 _ _ _ _ _ _ _
      | exact ih1 _ _ _ _ _ _ _
      | exact ih2 _ _ _ _ _ _ _ _
      | exact ih3 _ _ _ _ _ _ _ _ _
      | exact ih4 _ _ _ _ _ _ _ _
      | exact spec_l5Terms.mono _ _ _ _ _
      | exact LeO.none _
      | refine LeO.ite ?_ ?_
      | refine LeO.bind ?_ (fun _ => ?_)
    · intro y0 y1 y2 y3 y4 y5 y6 y7
      unfold spec_DrawMergePoint.l1
      repeat' first
      | (with_reducible exact ih0 _ _ _ _ _ _ _)
      | (with_reducible exact ih1 _ _ _ _ _ _ _)
      | (with_reducible exact ih2 _ _ _ _ _ _ _ _)
      | (with_reducible exact ih3 _ _ _ _ _ _ _ _ _)
      | (with_reducible exact ih4 _ _ _ _ _ _ _ _)
      | (with_reducible exact spec_l5Terms.mono _ _ _ _ _)
      | (with_reducible exact LeO.refl _)
      | (with_reducible exact LeO.none _)
      | (with_reducible refine LeO.ite ?_ ?_)
      | (with_reducible refine LeO.bind ?_ (fun _ => ?_))
      | exact ih0 _ _ _ _ _ _ _
      | exact ih1 _ _ _ _ _ _ _
      | exact ih2 _ _ _ _ _ _ _ _
      | exact ih3 _ _ _ _ _ _ _ _ _
      | exact ih4 _ _ _ _ _ _ _ _
      | exact spec_l5Terms.mono _ _ _ _ _
      | exact LeO.none _
      | refine LeO.ite ?_ ?_
      | refine LeO.bind ?_ (fun _ => ?_)
theorem spec_DrawMergePoint.mono : ∀ a0 k, LeO (spec_DrawMergePoint.f k a0) (spec_DrawMergePoint.f (k + 1) a0) := by
  intro a0 k
  obtain ⟨ih0, ih1, ih2, ih3, ih4⟩ := spec_DrawMergePoint.mono_l k
  unfold spec_DrawMergePoint.f
  repeat' first
      | (with_reducible exact ih0 _ _ _ _ _ _ _)
      | (with_reducible exact ih1 _ _ _ _ _ _ _)
      | (with_reducible exact ih2 _ _ _ _ _ _ _ _)
      | (with_reducible exact ih3 _ _ _ _ _ _ _ _ _)
      | (with_reducible exact ih4 _ _ _ _ _ _ _ _)
      | (with_reducible exact spec_l5Terms.mono _ _ _ _ _)
      | (with_reducible exact LeO.refl _)
      | (with_reducible exact LeO.none _)
      | (with_reducible refine LeO.ite ?_ ?_)
      | (with_reducible refine LeO.bind ?_ (fun _ => ?_))
      | exact ih0 _ _ _ _ _ _ _
      | exact ih1 _ _ _ _ _ _ _
      | exact ih2 _ _ _ _ _ _ _ _
      | exact ih3 _ _ _ _ _ _ _ _ _
      | exact ih4 _ _ _ _ _ _ _ _
      | exact spec_l5Terms.mono _ _ _ _ _
      | exact LeO.none _
      | refine LeO.ite ?_ ?_
      | refine LeO.bind ?_ (fun _ => ?_)
set_option maxHeartbeats 8000000 in
set_option maxRecDepth 100000 in
theorem spec_DrawMergePoint.calls (k : Nat) (A0 : Option Addr) (c0 : Nat) (l0 : List Int) (r1 : Int) (r2 : List Int) (r3 : Int) (r4 : List Int) (w : World) (hr0 : Kd.C (Kd.int .u8) w A0 l0.length l0) (hc0 : l0.length ≤ c0) (h : spec_DrawMergePoint.f k l0 = some (r1, r2, r3, r4)) :
    Calls Try.prog 13 #[.slice A0 l0.length c0] w fun e w' => ∃ v1_ v3_ : Value, e = .returned (.tuple #[.int .i64 r1, v1_, .int .i64 r3, v3_]) ∧ Kd.R (Kd.int .i64) 3 w' w.heap.size (fun k_ => some k_ ≠ (v3_ : Value).ownBlock) v1_ r2 ∧ Kd.R (Kd.int .i64) 3 w' w.heap.size (fun k_ => some k_ ≠ (v1_ : Value).ownBlock) v3_ r4 ∧ Below w.heap.size w w' := by
  have HR0 := Aside0.mk hr0
  have HC0 := Aside0.mk hc0
  clear hr0 hc0
  have HB := Aside0.mk (Below.refl w.heap.size w)
  have H : ((spec_L1Draw.f l0).bind fun bt132 => ((spec_l1Src_N.f bt132.1 bt132.2.1 bt132.2.2 5).bind fun bt136 => ((spec_L1Size.f l0 20).bind fun t139 => ((spec_l1Src_N.f bt132.1 bt136.2.1 bt136.2.2 t139).bind fun bt140 => ((spec_l5Terms.f k bt132.1 bt140.2.1 bt140.2.2 bt140.1).bind fun bt143 => ((spec_l1Src_N.f bt132.1 bt143.2.1 bt143.2.2 (wrap64 ((wrap64 (bt136.1 + (bt143.1.length : Int))) + 2))).bind fun bt148 => ((spec_l1Src_N.f bt132.1 bt148.2.1 bt148.2.2 9).bind fun bt151 => ((spec_l5Terms.f k bt132.1 bt151.2.1 bt151.2.2 bt151.1).bind fun bt154 => ((spec_l1Src_N.f bt132.1 bt154.2.1 bt154.2.2 3).bind fun bt159 => (if bt159.1 > 0 then (spec_DrawMergePoint.l0 k bt136.1 bt143.1 bt148.1 ([] : List Int) bt148.1 bt132.1 bt159.2.1 bt159.2.2) else (spec_DrawMergePoint.j3 k bt136.1 bt143.1 bt148.1 bt154.1 bt132.1 bt159.2.1 bt159.2.2))))))))))) = some (r1, r2, r3, r4) := h
  clear h
  replace H := Option.bind_eq_some_iff.mp H
  obtain ⟨⟨t132, t133, t134⟩, A20, H⟩ := H
  replace H : ((spec_l1Src_N.f t132 t133 t134 5).bind fun bt136 => ((spec_L1Size.f l0 20).bind fun t139 => ((spec_l1Src_N.f t132 bt136.2.1 bt136.2.2 t139).bind fun bt140 => ((spec_l5Terms.f k t132 bt140.2.1 bt140.2.2 bt140.1).bind fun bt143 => ((spec_l1Src_N.f t132 bt143.2.1 bt143.2.2 (wrap64 ((wrap64 (bt136.1 + (bt143.1.length : Int))) + 2))).bind fun bt148 => ((spec_l1Src_N.f t132 bt148.2.1 bt148.2.2 9).bind fun bt151 => ((spec_l5Terms.f k t132 bt151.2.1 bt151.2.2 bt151.1).bind fun bt154 => ((spec_l1Src_N.f t132 bt154.2.1 bt154.2.2 3).bind fun bt159 => (if bt159.1 > 0 then (spec_DrawMergePoint.l0 k bt136.1 bt143.1 bt148.1 ([] : List Int) bt148.1 t132 bt159.2.1 bt159.2.2) else (spec_DrawMergePoint.j3 k bt136.1 bt143.1 bt148.1 bt154.1 t132 bt159.2.1 bt159.2.2)))))))))) = some (r1, r2, r3, r4) := H
  have A2 := Aside0.mk A20
  clear A20
  replace H := Option.bind_eq_some_iff.mp H
  obtain ⟨⟨t136, t137, t138⟩, A30, H⟩ := H
  replace H : ((spec_L1Size.f l0 20).bind fun t139 => ((spec_l1Src_N.f t132 t137 t138 t139).bind fun bt140 => ((spec_l5Terms.f k t132 bt140.2.1 bt140.2.2 bt140.1).bind fun bt143 => ((spec_l1Src_N.f t132 bt143.2.1 bt143.2.2 (wrap64 ((wrap64 (t136 + (bt143.1.length : Int))) + 2))).bind fun bt148 => ((spec_l1Src_N.f t132 bt148.2.1 bt148.2.2 9).bind fun bt151 => ((spec_l5Terms.f k t132 bt151.2.1 bt151.2.2 bt151.1).bind fun bt154 => ((spec_l1Src_N.f t132 bt154.2.1 bt154.2.2 3).bind fun bt159 => (if bt159.1 > 0 then (spec_DrawMergePoint.l0 k t136 bt143.1 bt148.1 ([] : List Int) bt148.1 t132 bt159.2.1 bt159.2.2) else (spec_DrawMergePoint.j3 k t136 bt143.1 bt148.1 bt154.1 t132 bt159.2.1 bt159.2.2))))))))) = some (r1, r2, r3, r4) := H
  have A3 := Aside0.mk A30
  clear A30
  replace H := Option.bind_eq_some_iff.mp H
  obtain ⟨t139, A40, H⟩ := H
  replace H : ((spec_l1Src_N.f t132 t137 t138 t139).bind fun bt140 => ((spec_l5Terms.f k t132 bt140.2.1 bt140.2.2 bt140.1).bind fun bt143 => ((spec_l1Src_N.f t132 bt143.2.1 bt143.2.2 (wrap64 ((wrap64 (t136 + (bt143.1.length : Int))) + 2))).bind fun bt148 => ((spec_l1Src_N.f t132 bt148.2.1 bt148.2.2 9).bind fun bt151 => ((spec_l5Terms.f k t132 bt151.2.1 bt151.2.2 bt151.1).bind fun bt154 => ((spec_l1Src_N.f t132 bt154.2.1 bt154.2.2 3).bind fun bt159 => (if bt159.1 > 0 then (spec_DrawMergePoint.l0 k t136 bt143.1 bt148.1 ([] : List Int) bt148.1 t132 bt159.2.1 bt159.2.2) else (spec_DrawMergePoint.j3 k t136 bt143.1 bt148.1 bt154.1 t132 bt159.2.1 bt159.2.2)))))))) = some (r1, r2, r3, r4) := H
  have A4 := Aside0.mk A40
  clear A40
  replace H := Option.bind_eq_some_iff.mp H
  obtain ⟨⟨t140, t141, t142⟩, A50, H⟩ := H
  replace H : ((spec_l5Terms.f k t132 t141 t142 t140).bind fun bt143 => ((spec_l1Src_N.f t132 bt143.2.1 bt143.2.2 (wrap64 ((wrap64 (t136 + (bt143.1.length : Int))) + 2))).bind fun bt148 => ((spec_l1Src_N.f t132 bt148.2.1 bt148.2.2 9).bind fun bt151 => ((spec_l5Terms.f k t132 bt151.2.1 bt151.2.2 bt151.1).bind fun bt154 => ((spec_l1Src_N.f t132 bt154.2.1 bt154.2.2 3).bind fun bt159 => (if bt159.1 > 0 then (spec_DrawMergePoint.l0 k t136 bt143.1 bt148.1 ([] : List Int) bt148.1 t132 bt159.2.1 bt159.2.2) else (spec_DrawMergePoint.j3 k t136 bt143.1 bt148.1 bt154.1 t132 bt159.2.1 bt159.2.2))))))) = some (r1, r2, r3, r4) := H
  have A5 := Aside0.mk A50
  clear A50
  replace H := Option.bind_eq_some_iff.mp H
  obtain ⟨⟨t143, t146, t147⟩, A60, H⟩ := H
  replace H : ((spec_l1Src_N.f t132 t146 t147 (wrap64 ((wrap64 (t136 + (t143.length : Int))) + 2))).bind fun bt148 => ((spec_l1Src_N.f t132 bt148.2.1 bt148.2.2 9).bind fun bt151 => ((spec_l5Terms.f k t132 bt151.2.1 bt151.2.2 bt151.1).bind fun bt154 => ((spec_l1Src_N.f t132 bt154.2.1 bt154.2.2 3).bind fun bt159 => (if bt159.1 > 0 then (spec_DrawMergePoint.l0 k t136 t143 bt148.1 ([] : List Int) bt148.1 t132 bt159.2.1 bt159.2.2) else (spec_DrawMergePoint.j3 k t136 t143 bt148.1 bt154.1 t132 bt159.2.1 bt159.2.2)))))) = some (r1, r2, r3, r4) := H
  have A6 := Aside0.mk A60
  clear A60
  replace H := Option.bind_eq_some_iff.mp H
  obtain ⟨⟨t148, t149, t150⟩, A70, H⟩ := H
  replace H : ((spec_l1Src_N.f t132 t149 t150 9).bind fun bt151 => ((spec_l5Terms.f k t132 bt151.2.1 bt151.2.2 bt151.1).bind fun bt154 => ((spec_l1Src_N.f t132 bt154.2.1 bt154.2.2 3).bind fun bt159 => (if bt159.1 > 0 then (spec_DrawMergePoint.l0 k t136 t143 t148 ([] : List Int) t148 t132 bt159.2.1 bt159.2.2) else (spec_DrawMergePoint.j3 k t136 t143 t148 bt154.1 t132 bt159.2.1 bt159.2.2))))) = some (r1, r2, r3, r4) := H
  have A7 := Aside0.mk A70
  clear A70
  replace H := Option.bind_eq_some_iff.mp H
  obtain ⟨⟨t151, t152, t153⟩, A80, H⟩ := H
  replace H : ((spec_l5Terms.f k t132 t152 t153 t151).bind fun bt154 => ((spec_l1Src_N.f t132 bt154.2.1 bt154.2.2 3).bind fun bt159 => (if bt159.1 > 0 then (spec_DrawMergePoint.l0 k t136 t143 t148 ([] : List Int) t148 t132 bt159.2.1 bt159.2.2) else (spec_DrawMergePoint.j3 k t136 t143 t148 bt154.1 t132 bt159.2.1 bt159.2.2)))) = some (r1, r2, r3, r4) := H
  have A8 := Aside0.mk A80
  clear A80
  replace H := Option.bind_eq_some_iff.mp H
  obtain ⟨⟨t154, t157, t158⟩, A90, H⟩ := H
  replace H : ((spec_l1Src_N.f t132 t157 t158 3).bind fun bt159 => (if bt159.1 > 0 then (spec_DrawMergePoint.l0 k t136 t143 t148 ([] : List Int) t148 t132 bt159.2.1 bt159.2.2) else (spec_DrawMergePoint.j3 k t136 t143 t148 t154 t132 bt159.2.1 bt159.2.2))) = some (r1, r2, r3, r4) := H
  have A9 := Aside0.mk A90
  clear A90
  replace H := Option.bind_eq_some_iff.mp H
  obtain ⟨⟨t159, t160, t161⟩, A100, H⟩ := H
  replace H : (if t159 > 0 then (spec_DrawMergePoint.l0 k t136 t143 t148 ([] : List Int) t148 t132 t160 t161) else (spec_DrawMergePoint.j3 k t136 t143 t148 t154 t132 t160 t161)) = some (r1, r2, r3, r4) := H
  have A10 := Aside0.mk A100
  clear A100
  have HC11 := Aside0.mk H
  clear H
  go_enter Try.func13, Try.ntmps13
  go_upto_if 36 with (first | ((with_reducible refine gate_callee (f := 14) rfl ?_); refine goesL_ (some 14) rfl rfl Try.func14 (by kernel_rfl) rfl #[.slice A0 l0.length c0] rfl (by (try simp only [List.map_toArray, List.map_cons, List.map_nil]); first | done | rfl | (simp only [List.length_drop, List.length_take]; rfl)) ?_; (with_reducible refine (spec_L1Draw.calls _ _ l0 t132 t133 t134 w _ ?side1 ?side2 ?side3 A2.out).mono ?_); (case side1 => repeat (first | (with_reducible first | exact HB.out | apply below_alloc | apply pw_below_drewN | apply below_drew1) | exact HB.out)); (case side2 => exact HR0.out); (case side3 => exact HC0.out); rintro e w12 ⟨g135, rfl, hi, hb, hb2⟩; refine ⟨_, rfl, ?_⟩; have n0_ := Aside0.mk (hb); have n1_ := Aside0.mk (hi); clear HB; have HB := n0_; have HI135 := n1_; clear n0_ n1_; (try clear hb); (try clear hb2); (try clear hk); (try clear hi)) | ((with_reducible refine gate_callee (f := 15) rfl ?_); refine goesL_ (some 16) rfl rfl Try.func15 (by kernel_rfl) rfl #[.pointer (some ⟨g135, 0, none⟩), .int .i64 5] rfl (by (try simp only [List.map_toArray, List.map_cons, List.map_nil]); first | done | rfl | (simp only [List.length_drop, List.length_take]; rfl)) ?_; (with_reducible refine (spec_l1Src_N.calls g135 t132 t133 t134 5 t136 t137 t138 w _ ?side1 ?side2 A3.out).mono ?_); (case side1 => repeat (first | (with_reducible first | exact HI135.out | apply IsS43.alloc | apply IsS43.drewN | apply IsS43.drew | apply IsS43.set_1 | apply IsS43.set_2) | exact HI135.out)); (case side2 => repeat (first | (with_reducible first | exact HB.out | apply below_alloc | apply pw_below_drewN | apply below_drew1 | refine below_set ?_ (IsS43.ge HI135.out)) | exact HB.out)); rintro e w13 ⟨rfl, hi, hb, hk⟩; refine ⟨_, rfl, ?_⟩; have n0_ := Aside0.mk (hb); have n1_ := Aside0.mk (hi); clear HB; clear HI135; have HB := n0_; have HI135 := n1_; clear n0_ n1_; (try clear hb); (try clear hb2); (try clear hk); (try clear hi)) | ((with_reducible refine gate_callee (f := 17) rfl ?_); refine goesL_ (some 20) rfl rfl Try.func17 (by kernel_rfl) rfl #[.slice A0 l0.length c0, .int .i64 20] rfl (by (try simp only [List.map_toArray, List.map_cons, List.map_nil]); first | done | rfl | (simp only [List.length_drop, List.length_take]; rfl)) ?_; (with_reducible refine (spec_L1Size.calls _ _ l0 20 t139 _ ?side1 ?side2 A4.out).mono ?_); (case side1 => repeat (first | exact (Kd.C_below HR0.out HB.out) | (with_reducible refine Kd.C_alloc ?_ _) | (with_reducible refine Kd.C_drewN ?_ _) | (with_reducible refine Kd.C_drew ?_))); (case side2 => exact HC0.out); rintro e w' ⟨rfl, ⟨nd, rfl⟩⟩; refine ⟨_, rfl, ?_⟩) | ((with_reducible refine gate_callee (f := 15) rfl ?_); refine goesL_ (some 21) rfl rfl Try.func15 (by kernel_rfl) rfl #[.pointer (some ⟨g135, 0, none⟩), .int .i64 t139] rfl (by (try simp only [List.map_toArray, List.map_cons, List.map_nil]); first | done | rfl | (simp only [List.length_drop, List.length_take]; rfl)) ?_; (with_reducible refine (spec_l1Src_N.calls g135 t132 t137 t138 t139 t140 t141 t142 w _ ?side1 ?side2 A5.out).mono ?_); (case side1 => repeat (first | (with_reducible first | exact HI135.out | apply IsS43.alloc | apply IsS43.drewN | apply IsS43.drew | apply IsS43.set_1 | apply IsS43.set_2) | exact HI135.out)); (case side2 => repeat (first | (with_reducible first | exact HB.out | apply below_alloc | apply pw_below_drewN | apply below_drew1 | refine below_set ?_ (IsS43.ge HI135.out)) | exact HB.out)); rintro e w14 ⟨rfl, hi, hb, hk⟩; refine ⟨_, rfl, ?_⟩; have n0_ := Aside0.mk (hb); have n1_ := Aside0.mk (hi); clear HB; clear HI135; have HB := n0_; have HI135 := n1_; clear n0_ n1_; (try clear hb); (try clear hb2); (try clear hk); (try clear hi)) | ((with_reducible refine gate_callee (f := 16) rfl ?_); refine goesL_ (some 22) rfl rfl Try.func16 (by kernel_rfl) rfl #[.pointer (some ⟨g135, 0, none⟩), .int .i64 t140] rfl (by (try simp only [List.map_toArray, List.map_cons, List.map_nil]); first | done | rfl | (simp only [List.length_drop, List.length_take]; rfl)) ?_; (with_reducible refine (spec_l5Terms.calls k g135 t132 t141 t142 t140 t143 t146 t147 w _ ?side1 ?side2 A6.out).mono ?_); (case side1 => repeat (first | (with_reducible first | exact HI135.out | apply IsS43.alloc | apply IsS43.drewN | apply IsS43.drew | apply IsS43.set_1 | apply IsS43.set_2) | exact HI135.out)); (case side2 => repeat (first | (with_reducible first | exact HB.out | apply below_alloc | apply pw_below_drewN | apply below_drew1 | refine below_set ?_ (IsS43.ge HI135.out)) | exact HB.out)); rintro e w15 ⟨v144, rfl, ho0, hi, hb, hk⟩; refine ⟨_, rfl, ?_⟩; have n0_ := Aside0.mk (Kd.R_lower ho0 (below_size (by repeat (first | (with_reducible first | exact HB.out | apply below_alloc | apply pw_below_drewN | apply below_drew1 | refine below_set ?_ (IsS43.ge HI135.out)) | exact HB.out)))); have n1_ := Aside0.mk (hb); have n2_ := Aside0.mk (hi); clear HB; clear HI135; have HO145 := n0_; have HB := n1_; have HI135 := n2_; clear n0_ n1_ n2_; (try clear hb); (try clear hb2); (try clear hk); (try clear hi); (try clear ho0); obtain ⟨Ao16, co16, eo16⟩ := Kd.R_slice HO145.out; subst eo16) | ((with_reducible refine gate_callee (f := 15) rfl ?_); refine goesL_ (some 29) rfl rfl Try.func15 (by kernel_rfl) rfl #[.pointer (some ⟨g135, 0, none⟩), .int .i64 (wrap64 ((wrap64 (t136 + (t143.length : Int))) + 2))] rfl (by (try simp only [List.map_toArray, List.map_cons, List.map_nil]); first | done | rfl | (simp only [List.length_drop, List.length_take]; rfl)) ?_; (with_reducible refine (spec_l1Src_N.calls g135 t132 t146 t147 (wrap64 ((wrap64 (t136 + (t143.length : Int))) + 2)) t148 t149 t150 w _ ?side1 ?side2 A7.out).mono ?_); (case side1 => repeat (first | (with_reducible first | exact HI135.out | apply IsS43.alloc | apply IsS43.drewN | apply IsS43.drew | apply IsS43.set_1 | apply IsS43.set_2) | exact HI135.out)); (case side2 => repeat (first | (with_reducible first | exact HB.out | apply below_alloc | apply pw_below_drewN | apply below_drew1 | refine below_set ?_ (IsS43.ge HI135.out)) | exact HB.out)); rintro e w17 ⟨rfl, hi, hb, hk⟩; refine ⟨_, rfl, ?_⟩; have n0_ := Aside0.mk (Kd.R_mono (Kd.R_keep (IsS43.apart (show IsS43 w _ g135 t132 t146 t147 from by repeat (first | (with_reducible first | exact HI135.out | apply IsS43.alloc | apply IsS43.drewN | apply IsS43.drew | apply IsS43.set_1 | apply IsS43.set_2) | exact HI135.out)) (by (with_reducible repeat (first | apply Kd.R_alloc | apply Kd.R_drewN | apply Kd.R_drew)); exact HO145.out) (by decide)) hk (fun _ h => h.2)) (fun _ h => h.1)); have n1_ := Aside0.mk (hb); have n2_ := Aside0.mk (hi); clear HO145; clear HB; clear HI135; have HO145 := n0_; have HB := n1_; have HI135 := n2_; clear n0_ n1_ n2_; (try clear hb); (try clear hb2); (try clear hk); (try clear hi)) | ((with_reducible refine gate_callee (f := 15) rfl ?_); refine goesL_ (some 32) rfl rfl Try.func15 (by kernel_rfl) rfl #[.pointer (some ⟨g135, 0, none⟩), .int .i64 9] rfl (by (try simp only [List.map_toArray, List.map_cons, List.map_nil]); first | done | rfl | (simp only [List.length_drop, List.length_take]; rfl)) ?_; (with_reducible refine (spec_l1Src_N.calls g135 t132 t149 t150 9 t151 t152 t153 w _ ?side1 ?side2 A8.out).mono ?_); (case side1 => repeat (first | (with_reducible first | exact HI135.out | apply IsS43.alloc | apply IsS43.drewN | apply IsS43.drew | apply IsS43.set_1 | apply IsS43.set_2) | exact HI135.out)); (case side2 => repeat (first | (with_reducible first | exact HB.out | apply below_alloc | apply pw_below_drewN | apply below_drew1 | refine below_set ?_ (IsS43.ge HI135.out)) | exact HB.out)); rintro e w18 ⟨rfl, hi, hb, hk⟩; refine ⟨_, rfl, ?_⟩; have n0_ := Aside0.mk (Kd.R_mono (Kd.R_keep (IsS43.apart (show IsS43 w _ g135 t132 t149 t150 from by repeat (first | (with_reducible first | exact HI135.out | apply IsS43.alloc | apply IsS43.drewN | apply IsS43.drew | apply IsS43.set_1 | apply IsS43.set_2) | exact HI135.out)) (by (with_reducible repeat (first | apply Kd.R_alloc | apply Kd.R_drewN | apply Kd.R_drew)); exact HO145.out) (by decide)) hk (fun _ h => h.2)) (fun _ h => h.1)); have n1_ := Aside0.mk (hb); have n2_ := Aside0.mk (hi); clear HO145; clear HB; clear HI135; have HO145 := n0_; have HB := n1_; have HI135 := n2_; clear n0_ n1_ n2_; (try clear hb); (try clear hb2); (try clear hk); (try clear hi)) | ((with_reducible refine gate_callee (f := 16) rfl ?_); refine goesL_ (some 33) rfl rfl Try.func16 (by kernel_rfl) rfl #[.pointer (some ⟨g135, 0, none⟩), .int .i64 t151] rfl (by (try simp only [List.map_toArray, List.map_cons, List.map_nil]); first | done | rfl | (simp only [List.length_drop, List.length_take]; rfl)) ?_; (with_reducible refine (spec_l5Terms.calls k g135 t132 t152 t153 t151 t154 t157 t158 w _ ?side1 ?side2 A9.out).mono ?_); (case side1 => repeat (first | (with_reducible first | exact HI135.out | apply IsS43.alloc | apply IsS43.drewN | apply IsS43.drew | apply IsS43.set_1 | apply IsS43.set_2) | exact HI135.out)); (case side2 => repeat (first | (with_reducible first | exact HB.out | apply below_alloc | apply pw_below_drewN | apply below_drew1 | refine below_set ?_ (IsS43.ge HI135.out)) | exact HB.out)); rintro e w19 ⟨v155, rfl, ho0, hi, hb, hk⟩; refine ⟨_, rfl, ?_⟩; have n0_ := Aside0.mk (Kd.R_mono (Kd.R_told (Kd.R_oldK (IsS43.apart (show IsS43 w _ g135 t132 t152 t153 from by repeat (first | (with_reducible first | exact HI135.out | apply IsS43.alloc | apply IsS43.drewN | apply IsS43.drew | apply IsS43.set_1 | apply IsS43.set_2) | exact HI135.out)) (by (with_reducible repeat (first | apply Kd.R_alloc | apply Kd.R_drewN | apply Kd.R_drew)); exact HO145.out) (by decide)) hk) (Kd.R_base ho0)) (fun _ h_ => h_.1)); have n1_ := Aside0.mk (Kd.R_lower (Kd.R_new' ho0 (Kd.R_lt (by (with_reducible repeat (first | apply Kd.R_alloc | apply Kd.R_drewN | apply Kd.R_drew)); exact HO145.out))) (below_size (by repeat (first | (with_reducible first | exact HB.out | apply below_alloc | apply pw_below_drewN | apply below_drew1 | refine below_set ?_ (IsS43.ge HI135.out)) | exact HB.out)))); have n2_ := Aside0.mk (hb); have n3_ := Aside0.mk (hi); clear HO145; clear HB; clear HI135; have HO145 := n0_; have HO156 := n1_; have HB := n2_; have HI135 := n3_; clear n0_ n1_ n2_ n3_; (try clear hb); (try clear hb2); (try clear hk); (try clear hi); (try clear ho0)) | ((with_reducible refine gate_callee (f := 15) rfl ?_); refine goesL_ (some 35) rfl rfl Try.func15 (by kernel_rfl) rfl #[.pointer (some ⟨g135, 0, none⟩), .int .i64 3] rfl (by (try simp only [List.map_toArray, List.map_cons, List.map_nil]); first | done | rfl | (simp only [List.length_drop, List.length_take]; rfl)) ?_; (with_reducible refine (spec_l1Src_N.calls g135 t132 t157 t158 3 t159 t160 t161 w _ ?side1 ?side2 A10.out).mono ?_); (case side1 => repeat (first | (with_reducible first | exact HI135.out | apply IsS43.alloc | apply IsS43.drewN | apply IsS43.drew | apply IsS43.set_1 | apply IsS43.set_2) | exact HI135.out)); (case side2 => repeat (first | (with_reducible first | exact HB.out | apply below_alloc | apply pw_below_drewN | apply below_drew1 | refine below_set ?_ (IsS43.ge HI135.out)) | exact HB.out)); rintro e w20 ⟨rfl, hi, hb, hk⟩; refine ⟨_, rfl, ?_⟩; have n0_ := Aside0.mk (Kd.R_mono (Kd.R_keep (IsS43.apart (show IsS43 w _ g135 t132 t157 t158 from by repeat (first | (with_reducible first | exact HI135.out | apply IsS43.alloc | apply IsS43.drewN | apply IsS43.drew | apply IsS43.set_1 | apply IsS43.set_2) | exact HI135.out)) (by (with_reducible repeat (first | apply Kd.R_alloc | apply Kd.R_drewN | apply Kd.R_drew)); exact HO145.out) (by decide)) hk (fun _ h => h.2)) (fun _ h => h.1)); have n1_ := Aside0.mk (Kd.R_mono (Kd.R_keep (IsS43.apart (show IsS43 w _ g135 t132 t157 t158 from by repeat (first | (with_reducible first | exact HI135.out | apply IsS43.alloc | apply IsS43.drewN | apply IsS43.drew | apply IsS43.set_1 | apply IsS43.set_2) | exact HI135.out)) (by (with_reducible repeat (first | apply Kd.R_alloc | apply Kd.R_drewN | apply Kd.R_drew)); exact HO156.out) (by decide)) hk (fun _ h => h.2)) (fun _ h => h.1)); have n2_ := Aside0.mk (hb); have n3_ := Aside0.mk (hi); clear HO145; clear HO156; clear HB; clear HI135; have HO145 := n0_; have HO156 := n1_; have HB := n2_; have HI135 := n3_; clear n0_ n1_ n2_ n3_; (try clear hb); (try clear hb2); (try clear hk); (try clear hi)))
  (try simp only [Act.put, List.setIfInBounds_toArray, List.set_cons_zero, List.set_cons_succ])
  go_cut [10] (fun v10 wc => ∃ (kq : Nat) (x8_10 : List Int) (x10_10 : List Int) (x136001_10 : Int) (x136002_10 : Int), Aside0 (spec_DrawMergePoint.j3 kq t136 x8_10 t148 x10_10 t132 x136001_10 x136002_10 = some (r1, r2, r3, r4)) ∧ Aside0 (kq ≤ k) ∧ Aside0 (Kd.R (Kd.int .i64) 3 wc w.heap.size (fun k_ => some k_ ≠ (v10 : Value).ownBlock) (.slice Ao16 t143.length co16) x8_10) ∧ Aside0 (Kd.R (Kd.int .i64) 3 wc w.heap.size (fun k_ => some k_ ≠ ((.slice Ao16 t143.length co16) : Value).ownBlock) v10 x10_10) ∧ Aside0 (IsS43 w wc g135 t132 x136001_10 x136002_10) ∧ Aside0 (Below w.heap.size w wc))
  case first =>
    have H := HC11.out
    clear HC11
    by_cases c21 : t159 > 0
    · rw [if_pos c21] at H
      have c21b0 : decide (0 < t159) = true := decide_eq_true c21
      clear c21
      (first | rw [c21b0] | (simp only [i64_w, i32_w]; rw [c21b0]) | skip)
      have H' := Aside0.mk H
      clear H
      go_wp2
      go_loopg [10, 11] k (fun kq v10 v11 w' => ∃ (x10_1 : List Int) (x11_1 : Int), v11 = .int .i64 x11_1 ∧ Aside0 (spec_DrawMergePoint.l0 kq t136 t143 t148 x10_1 x11_1 t132 t160 t161 = some (r1, r2, r3, r4)) ∧ Aside0 (kq ≤ k) ∧ Aside0 (Kd.R (Kd.int .i64) 3 w' w.heap.size (fun k_ => some k_ ≠ (v10 : Value).ownBlock) (.slice Ao16 t143.length co16) t143) ∧ Aside0 (Kd.R (Kd.int .i64) 3 w' w.heap.size (fun k_ => some k_ ≠ ((.slice Ao16 t143.length co16) : Value).ownBlock) v10 x10_1) ∧ Aside0 (IsS43 w w' g135 t132 t160 t161) ∧ Aside0 (Below w.heap.size w w'))
      case atStart => exact ⟨(([] : List Int)), (t148), (by first | rfl | (simp; done) | (simp [*]; done)), H', ⟨Nat.le_refl _⟩, ⟨by (with_reducible repeat (first | apply Kd.R_alloc | apply Kd.R_drewN | apply Kd.R_drew)); exact Kd.R_mono HO145.out (fun _ hk => (by simp [Value.ownBlock]))⟩, ⟨by first | exact Kd.R_nil _ _ _ _ _ | exact Kd.N_nil _ _ _ _ _ | exact Kd.V_nil _ _ _ _ _ | exact Kd.Q_nil _ _ _ _ _ | exact Kd.S_nil _ _ _ _ _⟩, ⟨by repeat (first | (with_reducible first | exact HI135.out | apply IsS43.alloc | apply IsS43.drewN | apply IsS43.drew | apply IsS43.set_1 | apply IsS43.set_2) | exact HI135.out)⟩, ⟨by repeat (first | (with_reducible first | exact HB.out | apply below_alloc | apply pw_below_drewN | apply below_drew1 | refine below_set ?_ (IsS43.ge HI135.out)) | exact HB.out)⟩⟩
      case round =>
        clear H'
        try clear c1
        try clear c2
        try clear p2
        try clear p6
        try clear c13
        try clear c14
        try clear c15
        try clear c16
        try clear c17
        try clear c21
        try clear c21b0
        obtain ⟨x10_1, x11_1, rfl, HA, HK1, HO_8, HO_10, HI135, HB⟩ := hrel
        cases gk with
        | zero => exact absurd HA.out (by simp [spec_DrawMergePoint.l0])
        | succ k1 =>
          have H := HA.out
          clear HA
          simp only [spec_DrawMergePoint.l0] at H
          have HC22 := Aside0.mk H
          clear H
          go_upto_region 9 with (fail)
          go_cut [49] (fun v49 wc => ∃ (kq : Nat) (x49_21 : Bool), v49 = .bool x49_21 ∧ Aside0 (spec_DrawMergePoint.j1 kq t136 t143 t148 x10_1 x11_1 x49_21 t132 t160 t161 = some (r1, r2, r3, r4)) ∧ Aside0 (kq ≤ k1) ∧ Aside0 (Kd.R (Kd.int .i64) 3 wc w.heap.size (fun k_ => some k_ ≠ (u10 : Value).ownBlock) (.slice Ao16 t143.length co16) t143) ∧ Aside0 (Kd.R (Kd.int .i64) 3 wc w.heap.size (fun k_ => some k_ ≠ ((.slice Ao16 t143.length co16) : Value).ownBlock) u10 x10_1) ∧ Aside0 (IsS43 w wc g135 t132 t160 t161) ∧ Aside0 (Below w.heap.size w wc))
          case first =>
            have H := HC22.out
            clear HC22
            by_cases c23 : x11_1 < (wrap64 (t148 + 8))
            · rw [if_pos c23] at H
              have c23b0 : decide (x11_1 < (wrap64 (t148 + 8))) = true := decide_eq_true c23
              clear c23
              (first | rw [c23b0] | (simp only [i64_w, i32_w]; rw [c23b0]) | skip)
              have H' := Aside0.mk H
              clear H
              go_wp2
              go_meet
              case rel => exact ⟨_, (decide ((wrap64 (x11_1 - t136)) < (t143.length : Int))), (by first | rfl | (simp; done) | (simp [*]; done)), H', ⟨by have := HK1.out; first | omega | exact Nat.le_refl _⟩, ⟨by (with_reducible repeat (first | apply Kd.R_alloc | apply Kd.R_drewN | apply Kd.R_drew)); exact HO_8.out⟩, ⟨by (with_reducible repeat (first | apply Kd.R_alloc | apply Kd.R_drewN | apply Kd.R_drew)); exact HO_10.out⟩, ⟨by repeat (first | (with_reducible first | exact HI135.out | apply IsS43.alloc | apply IsS43.drewN | apply IsS43.drew | apply IsS43.set_1 | apply IsS43.set_2) | exact HI135.out)⟩, ⟨by repeat (first | (with_reducible first | exact HB.out | apply below_alloc | apply pw_below_drewN | apply below_drew1 | refine below_set ?_ (IsS43.ge HI135.out)) | exact HB.out)⟩⟩
            · rw [if_neg c23] at H
              have c23b0 : decide (x11_1 < (wrap64 (t148 + 8))) = false := decide_eq_false c23
              clear c23
              (first | rw [c23b0] | (simp only [i64_w, i32_w]; rw [c23b0]) | skip)
              have H' := Aside0.mk H
              clear H
              go_wp2
              go_meet
              case rel => exact ⟨_, (false), (by first | rfl | (simp; done) | (simp [*]; done)), H', ⟨by have := HK1.out; first | omega | exact Nat.le_refl _⟩, ⟨by (with_reducible repeat (first | apply Kd.R_alloc | apply Kd.R_drewN | apply Kd.R_drew)); exact HO_8.out⟩, ⟨by (with_reducible repeat (first | apply Kd.R_alloc | apply Kd.R_drewN | apply Kd.R_drew)); exact HO_10.out⟩, ⟨by repeat (first | (with_reducible first | exact HI135.out | apply IsS43.alloc | apply IsS43.drewN | apply IsS43.drew | apply IsS43.set_1 | apply IsS43.set_2) | exact HI135.out)⟩, ⟨by repeat (first | (with_reducible first | exact HB.out | apply below_alloc | apply pw_below_drewN | apply below_drew1 | refine below_set ?_ (IsS43.ge HI135.out)) | exact HB.out)⟩⟩
          case rest =>
            clear HC22
            try clear c1
            try clear c2
            try clear p2
            try clear p6
            try clear c13
            try clear c14
            try clear c15
            try clear c16
            try clear c17
            try clear c21
            try clear c21b0
            try clear c23
            try clear c23b0
            try clear p2
            try clear p6
            obtain ⟨kq, x49_21, rfl, HA, HJ21, HO_8, HO_10, HI135, HB⟩ := hcut
            cases kq with
            | zero => exact absurd HA.out (by simp [spec_DrawMergePoint.j1])
            | succ kj21 =>
              have H := HA.out
              clear HA
              simp only [spec_DrawMergePoint.j1] at H
              by_cases c24 : x49_21 = true
              · subst c24
                have H1 : (if x11_1 ≥ t136 then (if 0 ≤ (wrap64 (x11_1 - t136)) then (if (wrap64 (x11_1 - t136)) < (t143.length : Int) then (if x10_1.length < 17592186044416 then (spec_DrawMergePoint.l0 kj21 t136 t143 t148 (x10_1 ++ [rd t143 (wrap64 (x11_1 - t136))]) (wrap64 (x11_1 + 1)) t132 t160 t161) else (none)) else (none)) else (none)) else (if x10_1.length < 17592186044416 then (spec_DrawMergePoint.l0 kj21 t136 t143 t148 (x10_1 ++ [0]) (wrap64 (x11_1 + 1)) t132 t160 t161) else (none))) = some (r1, r2, r3, r4) := by rw [if_pos rfl] at H; exact H
                clear H
                have H := H1
                clear H1
                by_cases c25 : x11_1 ≥ t136
                · rw [if_pos c25] at H
                  have c25b0 : decide (t136 ≤ x11_1) = true := decide_eq_true c25
                  clear c25
                  obtain ⟨ji26, hji26⟩ : ∃ j_ : Int, (wrap64 (x11_1 - t136)) = j_ := ⟨_, rfl⟩
                  replace H : (if 0 ≤ (ji26) then (if (ji26) < (t143.length : Int) then (if x10_1.length < 17592186044416 then (spec_DrawMergePoint.l0 kj21 t136 t143 t148 (x10_1 ++ [rd t143 (ji26)]) (wrap64 (x11_1 + 1)) t132 t160 t161) else (none)) else (none)) else (none)) = some (r1, r2, r3, r4) := by first | (rw [hji26] at H; exact H) | (simp only [hji26] at H ⊢; exact H)
                  have hji26w : (IntKind.i64.wrap (x11_1 - t136)) = ji26 := (i64_w _).trans hji26
                  by_cases c27 : 0 ≤ (ji26)
                  · rw [if_pos c27] at H
                    have c27b0 : decide (0 ≤ (ji26)) = true := decide_eq_true c27
                    clear c27
                    by_cases c28 : (ji26) < (t143.length : Int)
                    · rw [if_pos c28] at H
                      have c28b0 : decide ((ji26) < (t143.length : Int)) = true := decide_eq_true c28
                      clear c28
                      by_cases c29 : x10_1.length < 17592186044416
                      · rw [if_pos c29] at H
                        have LMc29 := Aside0.mk c29
                        clear c29
                        obtain ⟨y163, hy163⟩ : ∃ y_ : List Int, y_ = (x10_1 ++ [rd t143 (ji26)]) := ⟨_, rfl⟩
                        replace H : (spec_DrawMergePoint.l0 kj21 t136 t143 t148 y163 (wrap64 (x11_1 + 1)) t132 t160 t161) = some (r1, r2, r3, r4) := by first | (rw [hy163]; with_reducible exact H) | (have H2_ := (Option.bind_some _ _).symm.trans H; rw [hy163]; with_reducible exact H2_) | (have H2_ := (Option.bind_some _ _).symm.trans H; with_reducible exact H2_) | with_reducible exact H | (rw [hy163]; exact H) | exact H
                        have Ny163 := Aside0.mk hy163
                        clear hy163
                        have H' := Aside0.mk H
                        clear H
                        have p162 : 0 ≤ ((ji26) : Int) := of_decide_eq_true (by first | (with_reducible assumption) | assumption)
                        have q162 : (ji26) < (t143.length : Int) := of_decide_eq_true (by first | (with_reducible assumption) | assumption)
                        obtain ⟨ad162, e162, hx162_0⟩ := Kd.at_int (Kd.R_reads' HO_8.out).2.2 (ji26) p162 q162
                        cases e162
                        replace p162 := eq_true p162
                        replace q162 := eq_true q162
                        go_wp2_with (first | ((with_reducible refine gate_builtin (b := .append) (xs := #[.tmp 55, .tmp 62]) rfl ?_); (try (refine gate_guard (by rfl) ?_; dsimp only)); at_builtin; refine Kd.R_append (Kd.int .i64) (w0 := w) w.heap.size rfl (.tmp 55) (.tmp 62) 24 3 (.int .i64 0) 8 rfl Try.underlying24 info3 rfl (by decide) (by omega) u10 x10_1 (rd t143 (ji26)) [.int .i64 (rd t143 (ji26))] (fun k_ => some k_ ≠ (.slice (some ad162) t143.length co16 : Value).ownBlock) (fun _ => False) rfl rfl ?aP (fun _ hk => hk.elim) ?aF ?aO ?aB ?aS ?aL ?_; (case aP => exact rfl); (case aB => exact (by repeat (first | (with_reducible first | exact HB.out | apply below_alloc | apply pw_below_drewN | apply below_drew1 | refine below_set ?_ (IsS43.ge HI135.out)) | exact HB.out))); (case aF => exact (fun k_ hk => Kd.fresh' (Kd.R_lt (by (with_reducible repeat (first | apply Kd.R_alloc | apply Kd.R_drewN | apply Kd.R_drew)); exact HO_8.out)) k_ hk)); (case aO => exact (by (with_reducible repeat (first | apply Kd.R_alloc | apply Kd.R_drewN | apply Kd.R_drew)); exact HO_10.out)); (case aS => exact (below_size (by repeat (first | (with_reducible first | exact HB.out | apply below_alloc | apply pw_below_drewN | apply below_drew1 | refine below_set ?_ (IsS43.ge HI135.out)) | exact HB.out)))); (case aL => have := LMc29.out; omega); intro v164 w30 ho hb hg hat; rw [← Ny163.out] at ho; have n0_ := Aside0.mk (Kd.R_after (ok := (fun _ => True)) (by (with_reducible repeat (first | apply Kd.R_alloc | apply Kd.R_drewN | apply Kd.R_drew)); exact Kd.R_mono HO_8.out (fun _ hk => ⟨trivial, hk⟩)) hg hat); have n1_ := Aside0.mk (IsS43.grown (by repeat (first | (with_reducible first | exact HI135.out | apply IsS43.alloc | apply IsS43.drewN | apply IsS43.drew | apply IsS43.set_1 | apply IsS43.set_2) | exact HI135.out)) hg (IsS43.own_ne HI135.out HO_10.out (by decide))); have n2_ := Aside0.mk (hb); have n3_ := Aside0.mk (ho); clear HO_8; clear HI135; clear HB; clear HO_10; have HO_8 := n0_; have HI135 := n1_; have HB := n2_; have HO165 := n3_; clear n0_ n1_ n2_ n3_; clear ho hb hg hat))
                        go_roundg kj21
                        case measure => have := HK1.out; have := HJ21.out; omega
                        case rel => exact ⟨(y163), (wrap64 (x11_1 + 1)), (by first | rfl | (simp; done) | (simp [*]; done)), H', ⟨by have := HK1.out; have := HJ21.out; omega⟩, ⟨by (with_reducible repeat (first | apply Kd.R_alloc | apply Kd.R_drewN | apply Kd.R_drew)); exact Kd.R_mono HO_8.out (fun _ hk => hk.2)⟩, ⟨by (with_reducible repeat (first | apply Kd.R_alloc | apply Kd.R_drewN | apply Kd.R_drew)); exact HO165.out⟩, ⟨by repeat (first | (with_reducible first | exact HI135.out | apply IsS43.alloc | apply IsS43.drewN | apply IsS43.drew | apply IsS43.set_1 | apply IsS43.set_2) | exact HI135.out)⟩, ⟨by repeat (first | (with_reducible first | exact HB.out | apply below_alloc | apply pw_below_drewN | apply below_drew1 | refine below_set ?_ (IsS43.ge HI135.out)) | exact HB.out)⟩⟩
                      · rw [if_neg c29] at H
                        exact absurd H (by simp)
                    · rw [if_neg c28] at H
                      exact absurd H (by simp)
                  · rw [if_neg c27] at H
                    exact absurd H (by simp)
                · rw [if_neg c25] at H
                  have c25b0 : decide (t136 ≤ x11_1) = false := decide_eq_false c25
                  clear c25
                  by_cases c31 : x10_1.length < 17592186044416
                  · rw [if_pos c31] at H
                    have LMc31 := Aside0.mk c31
                    clear c31
                    obtain ⟨y166, hy166⟩ : ∃ y_ : List Int, y_ = (x10_1 ++ [0]) := ⟨_, rfl⟩
                    replace H : (spec_DrawMergePoint.l0 kj21 t136 t143 t148 y166 (wrap64 (x11_1 + 1)) t132 t160 t161) = some (r1, r2, r3, r4) := by first | (rw [hy166]; with_reducible exact H) | (have H2_ := (Option.bind_some _ _).symm.trans H; rw [hy166]; with_reducible exact H2_) | (have H2_ := (Option.bind_some _ _).symm.trans H; with_reducible exact H2_) | with_reducible exact H | (rw [hy166]; exact H) | exact H
                    have Ny166 := Aside0.mk hy166
                    clear hy166
                    have H' := Aside0.mk H
                    clear H
                    go_wp2_with (first | ((with_reducible refine gate_builtin (b := .append) (xs := #[.tmp 64, .tmp 65]) rfl ?_); (try (refine gate_guard (by rfl) ?_; dsimp only)); at_builtin; refine Kd.R_append (Kd.int .i64) (w0 := w) w.heap.size rfl (.tmp 64) (.tmp 65) 24 3 (.int .i64 0) 8 rfl Try.underlying24 info3 rfl (by decide) (by omega) u10 x10_1 0 [.int .i64 0] (fun k_ => some k_ ≠ (.slice Ao16 t143.length co16 : Value).ownBlock) (fun _ => False) rfl rfl ?aP (fun _ hk => hk.elim) ?aF ?aO ?aB ?aS ?aL ?_; (case aP => exact rfl); (case aB => exact (by repeat (first | (with_reducible first | exact HB.out | apply below_alloc | apply pw_below_drewN | apply below_drew1 | refine below_set ?_ (IsS43.ge HI135.out)) | exact HB.out))); (case aF => exact (fun k_ hk => Kd.fresh' (Kd.R_lt (by (with_reducible repeat (first | apply Kd.R_alloc | apply Kd.R_drewN | apply Kd.R_drew)); exact HO_8.out)) k_ hk)); (case aO => exact (by (with_reducible repeat (first | apply Kd.R_alloc | apply Kd.R_drewN | apply Kd.R_drew)); exact HO_10.out)); (case aS => exact (below_size (by repeat (first | (with_reducible first | exact HB.out | apply below_alloc | apply pw_below_drewN | apply below_drew1 | refine below_set ?_ (IsS43.ge HI135.out)) | exact HB.out)))); (case aL => have := LMc31.out; omega); intro v167 w32 ho hb hg hat; rw [← Ny166.out] at ho; have n0_ := Aside0.mk (Kd.R_after (ok := (fun _ => True)) (by (with_reducible repeat (first | apply Kd.R_alloc | apply Kd.R_drewN | apply Kd.R_drew)); exact Kd.R_mono HO_8.out (fun _ hk => ⟨trivial, hk⟩)) hg hat); have n1_ := Aside0.mk (IsS43.grown (by repeat (first | (with_reducible first | exact HI135.out | apply IsS43.alloc | apply IsS43.drewN | apply IsS43.drew | apply IsS43.set_1 | apply IsS43.set_2) | exact HI135.out)) hg (IsS43.own_ne HI135.out HO_10.out (by decide))); have n2_ := Aside0.mk (hb); have n3_ := Aside0.mk (ho); clear HO_8; clear HI135; clear HB; clear HO_10; have HO_8 := n0_; have HI135 := n1_; have HB := n2_; have HO168 := n3_; clear n0_ n1_ n2_ n3_; clear ho hb hg hat))
                    go_roundg kj21
                    case measure => have := HK1.out; have := HJ21.out; omega
                    case rel => exact ⟨(y166), (wrap64 (x11_1 + 1)), (by first | rfl | (simp; done) | (simp [*]; done)), H', ⟨by have := HK1.out; have := HJ21.out; omega⟩, ⟨by (with_reducible repeat (first | apply Kd.R_alloc | apply Kd.R_drewN | apply Kd.R_drew)); exact Kd.R_mono HO_8.out (fun _ hk => hk.2)⟩, ⟨by (with_reducible repeat (first | apply Kd.R_alloc | apply Kd.R_drewN | apply Kd.R_drew)); exact HO168.out⟩, ⟨by repeat (first | (with_reducible first | exact HI135.out | apply IsS43.alloc | apply IsS43.drewN | apply IsS43.drew | apply IsS43.set_1 | apply IsS43.set_2) | exact HI135.out)⟩, ⟨by repeat (first | (with_reducible first | exact HB.out | apply below_alloc | apply pw_below_drewN | apply below_drew1 | refine below_set ?_ (IsS43.ge HI135.out)) | exact HB.out)⟩⟩
                  · rw [if_neg c31] at H
                    exact absurd H (by simp)
              · replace c24 := Bool.eq_false_iff.mpr c24
                subst c24
                have H1 : ((spec_l1Src_N.f t132 t160 t161 4).bind fun bt169 => (spec_DrawMergePoint.l1 kj21 t136 t143 t148 x10_1 bt169.1 t132 bt169.2.1 bt169.2.2)) = some (r1, r2, r3, r4) := by rw [if_neg (show ¬ (false = true) by decide)] at H; exact H
                clear H
                have H := H1
                clear H1
                replace H := Option.bind_eq_some_iff.mp H
                obtain ⟨⟨t169, t170, t171⟩, A330, H⟩ := H
                replace H : (spec_DrawMergePoint.l1 kj21 t136 t143 t148 x10_1 t169 t132 t170 t171) = some (r1, r2, r3, r4) := H
                have A33 := Aside0.mk A330
                clear A330
                have H' := Aside0.mk H
                clear H
                go_wp2_with (first | ((with_reducible refine gate_callee (f := 15) rfl ?_); refine goesL_ (some 68) rfl rfl Try.func15 (by kernel_rfl) rfl #[.pointer (some ⟨g135, 0, none⟩), .int .i64 4] rfl (by (try simp only [List.map_toArray, List.map_cons, List.map_nil]); first | done | rfl | (simp only [List.length_drop, List.length_take]; rfl)) ?_; (with_reducible refine (spec_l1Src_N.calls g135 t132 t160 t161 4 t169 t170 t171 w _ ?side1 ?side2 A33.out).mono ?_); (case side1 => repeat (first | (with_reducible first | exact HI135.out | apply IsS43.alloc | apply IsS43.drewN | apply IsS43.drew | apply IsS43.set_1 | apply IsS43.set_2) | exact HI135.out)); (case side2 => repeat (first | (with_reducible first | exact HB.out | apply below_alloc | apply pw_below_drewN | apply below_drew1 | refine below_set ?_ (IsS43.ge HI135.out)) | exact HB.out)); rintro e w34 ⟨rfl, hi, hb, hk⟩; refine ⟨_, rfl, ?_⟩; have n0_ := Aside0.mk (Kd.R_mono (Kd.R_keep (IsS43.apart (show IsS43 w _ g135 t132 t160 t161 from by repeat (first | (with_reducible first | exact HI135.out | apply IsS43.alloc | apply IsS43.drewN | apply IsS43.drew | apply IsS43.set_1 | apply IsS43.set_2) | exact HI135.out)) (by (with_reducible repeat (first | apply Kd.R_alloc | apply Kd.R_drewN | apply Kd.R_drew)); exact HO_8.out) (by decide)) hk (fun _ h => h.2)) (fun _ h => h.1)); have n1_ := Aside0.mk (Kd.R_mono (Kd.R_keep (IsS43.apart (show IsS43 w _ g135 t132 t160 t161 from by repeat (first | (with_reducible first | exact HI135.out | apply IsS43.alloc | apply IsS43.drewN | apply IsS43.drew | apply IsS43.set_1 | apply IsS43.set_2) | exact HI135.out)) (by (with_reducible repeat (first | apply Kd.R_alloc | apply Kd.R_drewN | apply Kd.R_drew)); exact HO_10.out) (by decide)) hk (fun _ h => h.2)) (fun _ h => h.1)); have n2_ := Aside0.mk (hb); have n3_ := Aside0.mk (hi); clear HO_8; clear HO_10; clear HB; clear HI135; have HO_8 := n0_; have HO_10 := n1_; have HB := n2_; have HI135 := n3_; clear n0_ n1_ n2_ n3_; (try clear hb); (try clear hb2); (try clear hk); (try clear hi)))
                go_loopg [10, 12] kj21 (fun kq v10 v12 w' => ∃ (x10_3 : List Int) (x12_3 : Int) (x136001_3 : Int) (x136002_3 : Int), v12 = .int .i64 x12_3 ∧ Aside0 (spec_DrawMergePoint.l1 kq t136 t143 t148 x10_3 x12_3 t132 x136001_3 x136002_3 = some (r1, r2, r3, r4)) ∧ Aside0 (kq ≤ kj21) ∧ Aside0 (Kd.R (Kd.int .i64) 3 w' w.heap.size (fun k_ => some k_ ≠ (v10 : Value).ownBlock) (.slice Ao16 t143.length co16) t143) ∧ Aside0 (Kd.R (Kd.int .i64) 3 w' w.heap.size (fun k_ => some k_ ≠ ((.slice Ao16 t143.length co16) : Value).ownBlock) v10 x10_3) ∧ Aside0 (IsS43 w w' g135 t132 x136001_3 x136002_3) ∧ Aside0 (Below w.heap.size w w'))
                case atStart => exact ⟨(x10_1), (t169), (t170), (t171), (by first | rfl | (simp; done) | (simp [*]; done)), H', ⟨Nat.le_refl _⟩, ⟨by (with_reducible repeat (first | apply Kd.R_alloc | apply Kd.R_drewN | apply Kd.R_drew)); exact HO_8.out⟩, ⟨by (with_reducible repeat (first | apply Kd.R_alloc | apply Kd.R_drewN | apply Kd.R_drew)); exact HO_10.out⟩, ⟨by repeat (first | (with_reducible first | exact HI135.out | apply IsS43.alloc | apply IsS43.drewN | apply IsS43.drew | apply IsS43.set_1 | apply IsS43.set_2) | exact HI135.out)⟩, ⟨by repeat (first | (with_reducible first | exact HB.out | apply below_alloc | apply pw_below_drewN | apply below_drew1 | refine below_set ?_ (IsS43.ge HI135.out)) | exact HB.out)⟩⟩
                case round =>
                  clear H'
                  try clear c1
                  try clear p1
                  try clear q1
                  try clear hx1
                  try clear c2
                  try clear p2
                  try clear c3
                  try clear p6
                  try clear c13
                  try clear c14
                  try clear c15
                  try clear c16
                  try clear p16
                  try clear q16
                  try clear hx16
                  try clear c17
                  try clear c21
                  try clear c21b0
                  try clear c23
                  try clear c23b0
                  try clear c24
                  try clear c25
                  try clear c25b0
                  try clear c27
                  try clear c27b0
                  try clear c28
                  try clear c28b0
                  try clear c29
                  try clear c31
                  try clear hx162_0
                  try clear p162
                  try clear p2
                  try clear p6
                  try clear q162
                  obtain ⟨x10_3, x12_3, x136001_3, x136002_3, rfl, HA, HK3, HO_8, HO_10, HI135, HB⟩ := hrel
                  cases gk with
                  | zero => exact absurd HA.out (by simp [spec_DrawMergePoint.l1])
                  | succ k3 =>
                    have H := HA.out
                    clear HA
                    simp only [spec_DrawMergePoint.l1] at H
                    by_cases c35 : x12_3 > 0
                    · rw [if_pos c35] at H
                      have c35b0 : decide (0 < x12_3) = true := decide_eq_true c35
                      clear c35
                      replace H := Option.bind_eq_some_iff.mp H
                      obtain ⟨⟨t172, t173, t174⟩, A360, H⟩ := H
                      replace H : (if x10_3.length < 17592186044416 then (spec_DrawMergePoint.l1 k3 t136 t143 t148 (x10_3 ++ [t172]) (wrap64 (x12_3 - 1)) t132 t173 t174) else (none)) = some (r1, r2, r3, r4) := H
                      have A36 := Aside0.mk A360
                      clear A360
                      by_cases c37 : x10_3.length < 17592186044416
                      · rw [if_pos c37] at H
                        have LMc37 := Aside0.mk c37
                        clear c37
                        obtain ⟨y175, hy175⟩ : ∃ y_ : List Int, y_ = (x10_3 ++ [t172]) := ⟨_, rfl⟩
                        replace H : (spec_DrawMergePoint.l1 k3 t136 t143 t148 y175 (wrap64 (x12_3 - 1)) t132 t173 t174) = some (r1, r2, r3, r4) := by first | (rw [hy175]; with_reducible exact H) | (have H2_ := (Option.bind_some _ _).symm.trans H; rw [hy175]; with_reducible exact H2_) | (have H2_ := (Option.bind_some _ _).symm.trans H; with_reducible exact H2_) | with_reducible exact H | (rw [hy175]; exact H) | exact H
                        have Ny175 := Aside0.mk hy175
                        clear hy175
                        have H' := Aside0.mk H
                        clear H
                        go_wp2_with (first | ((with_reducible refine gate_callee (f := 15) rfl ?_); refine goesL_ (some 75) rfl rfl Try.func15 (by kernel_rfl) rfl #[.pointer (some ⟨g135, 0, none⟩), .int .i64 4] rfl (by (try simp only [List.map_toArray, List.map_cons, List.map_nil]); first | done | rfl | (simp only [List.length_drop, List.length_take]; rfl)) ?_; (with_reducible refine (spec_l1Src_N.calls g135 t132 x136001_3 x136002_3 4 t172 t173 t174 w _ ?side1 ?side2 A36.out).mono ?_); (case side1 => repeat (first | (with_reducible first | exact HI135.out | apply IsS43.alloc | apply IsS43.drewN | apply IsS43.drew | apply IsS43.set_1 | apply IsS43.set_2) | exact HI135.out)); (case side2 => repeat (first | (with_reducible first | exact HB.out | apply below_alloc | apply pw_below_drewN | apply below_drew1 | refine below_set ?_ (IsS43.ge HI135.out)) | exact HB.out)); rintro e w38 ⟨rfl, hi, hb, hk⟩; refine ⟨_, rfl, ?_⟩; have n0_ := Aside0.mk (Kd.R_mono (Kd.R_keep (IsS43.apart (show IsS43 w _ g135 t132 x136001_3 x136002_3 from by repeat (first | (with_reducible first | exact HI135.out | apply IsS43.alloc | apply IsS43.drewN | apply IsS43.drew | apply IsS43.set_1 | apply IsS43.set_2) | exact HI135.out)) (by (with_reducible repeat (first | apply Kd.R_alloc | apply Kd.R_drewN | apply Kd.R_drew)); exact HO_8.out) (by decide)) hk (fun _ h => h.2)) (fun _ h => h.1)); have n1_ := Aside0.mk (Kd.R_mono (Kd.R_keep (IsS43.apart (show IsS43 w _ g135 t132 x136001_3 x136002_3 from by repeat (first | (with_reducible first | exact HI135.out | apply IsS43.alloc | apply IsS43.drewN | apply IsS43.drew | apply IsS43.set_1 | apply IsS43.set_2) | exact HI135.out)) (by (with_reducible repeat (first | apply Kd.R_alloc | apply Kd.R_drewN | apply Kd.R_drew)); exact HO_10.out) (by decide)) hk (fun _ h => h.2)) (fun _ h => h.1)); have n2_ := Aside0.mk (hb); have n3_ := Aside0.mk (hi); clear HO_8; clear HO_10; clear HB; clear HI135; have HO_8 := n0_; have HO_10 := n1_; have HB := n2_; have HI135 := n3_; clear n0_ n1_ n2_ n3_; (try clear hb); (try clear hb2); (try clear hk); (try clear hi)) | ((with_reducible refine gate_builtin (b := .append) (xs := #[.tmp 73, .tmp 76]) rfl ?_); (try (refine gate_guard (by rfl) ?_; dsimp only)); at_builtin; refine Kd.R_append (Kd.int .i64) (w0 := w) w.heap.size rfl (.tmp 73) (.tmp 76) 24 3 (.int .i64 0) 8 rfl Try.underlying24 info3 rfl (by decide) (by omega) u10 x10_3 t172 [.int .i64 t172] (fun k_ => some k_ ≠ (.slice Ao16 t143.length co16 : Value).ownBlock) (fun _ => False) rfl rfl ?aP (fun _ hk => hk.elim) ?aF ?aO ?aB ?aS ?aL ?_; (case aP => exact rfl); (case aB => exact (by repeat (first | (with_reducible first | exact HB.out | apply below_alloc | apply pw_below_drewN | apply below_drew1 | refine below_set ?_ (IsS43.ge HI135.out)) | exact HB.out))); (case aF => exact (fun k_ hk => Kd.fresh' (Kd.R_lt (by (with_reducible repeat (first | apply Kd.R_alloc | apply Kd.R_drewN | apply Kd.R_drew)); exact HO_8.out)) k_ hk)); (case aO => exact (by (with_reducible repeat (first | apply Kd.R_alloc | apply Kd.R_drewN | apply Kd.R_drew)); exact HO_10.out)); (case aS => exact (below_size (by repeat (first | (with_reducible first | exact HB.out | apply below_alloc | apply pw_below_drewN | apply below_drew1 | refine below_set ?_ (IsS43.ge HI135.out)) | exact HB.out)))); (case aL => have := LMc37.out; omega); intro v176 w39 ho hb hg hat; rw [← Ny175.out] at ho; have n0_ := Aside0.mk (Kd.R_after (ok := (fun _ => True)) (by (with_reducible repeat (first | apply Kd.R_alloc | apply Kd.R_drewN | apply Kd.R_drew)); exact Kd.R_mono HO_8.out (fun _ hk => ⟨trivial, hk⟩)) hg hat); have n1_ := Aside0.mk (IsS43.grown (by repeat (first | (with_reducible first | exact HI135.out | apply IsS43.alloc | apply IsS43.drewN | apply IsS43.drew | apply IsS43.set_1 | apply IsS43.set_2) | exact HI135.out)) hg (IsS43.own_ne HI135.out HO_10.out (by decide))); have n2_ := Aside0.mk (hb); have n3_ := Aside0.mk (ho); clear HO_8; clear HI135; clear HB; clear HO_10; have HO_8 := n0_; have HI135 := n1_; have HB := n2_; have HO177 := n3_; clear n0_ n1_ n2_ n3_; clear ho hb hg hat))
                        go_roundg k3
                        case measure => have := HK1.out; have := HJ21.out; have := HK3.out; omega
                        case rel => exact ⟨(y175), (wrap64 (x12_3 - 1)), (t173), (t174), (by first | rfl | (simp; done) | (simp [*]; done)), H', ⟨by have := HK1.out; have := HJ21.out; have := HK3.out; omega⟩, ⟨by (with_reducible repeat (first | apply Kd.R_alloc | apply Kd.R_drewN | apply Kd.R_drew)); exact Kd.R_mono HO_8.out (fun _ hk => hk.2)⟩, ⟨by (with_reducible repeat (first | apply Kd.R_alloc | apply Kd.R_drewN | apply Kd.R_drew)); exact HO177.out⟩, ⟨by repeat (first | (with_reducible first | exact HI135.out | apply IsS43.alloc | apply IsS43.drewN | apply IsS43.drew | apply IsS43.set_1 | apply IsS43.set_2) | exact HI135.out)⟩, ⟨by repeat (first | (with_reducible first | exact HB.out | apply below_alloc | apply pw_below_drewN | apply below_drew1 | refine below_set ?_ (IsS43.ge HI135.out)) | exact HB.out)⟩⟩
                      · rw [if_neg c37] at H
                        exact absurd H (by simp)
                    · rw [if_neg c35] at H
                      have c35b0 : decide (0 < x12_3) = false := decide_eq_false c35
                      clear c35
                      by_cases c40 : (x10_3.length : Int) > 0
                      · rw [if_pos c40] at H
                        have c40b0 : decide (0 < (x10_3.length : Int)) = true := decide_eq_true c40
                        have c40b1 : decide (0 < x10_3.length) = true := decide_eq_true (by omega)
                        clear c40
                        replace H := Option.bind_eq_some_iff.mp H
                        obtain ⟨⟨t178, t179, t180⟩, A410, H⟩ := H
                        replace H : (if t178 = true then ((spec_l1Src_N.f t132 t179 t180 (x10_3.length : Int)).bind fun bt181 => (if 0 ≤ bt181.1 then (if bt181.1 < (x10_3.length : Int) then (spec_DrawMergePoint.j3 k3 t136 t143 t148 (x10_3.set (bt181.1 : Int).toNat (wrap64 ((rd x10_3 bt181.1) + 1))) t132 bt181.2.1 bt181.2.2) else (none)) else (none))) else (spec_DrawMergePoint.j3 k3 t136 t143 t148 x10_3 t132 t179 t180)) = some (r1, r2, r3, r4) := H
                        have A41 := Aside0.mk A410
                        clear A410
                        by_cases c42 : t178 = true
                        · subst c42
                          have H1 : ((spec_l1Src_N.f t132 t179 t180 (x10_3.length : Int)).bind fun bt181 => (if 0 ≤ bt181.1 then (if bt181.1 < (x10_3.length : Int) then (spec_DrawMergePoint.j3 k3 t136 t143 t148 (x10_3.set (bt181.1 : Int).toNat (wrap64 ((rd x10_3 bt181.1) + 1))) t132 bt181.2.1 bt181.2.2) else (none)) else (none))) = some (r1, r2, r3, r4) := by rw [if_pos rfl] at H; exact H
                          clear H
                          have H := H1
                          clear H1
                          replace H := Option.bind_eq_some_iff.mp H
                          obtain ⟨⟨t181, t182, t183⟩, A430, H⟩ := H
                          replace H : (if 0 ≤ t181 then (if t181 < (x10_3.length : Int) then (spec_DrawMergePoint.j3 k3 t136 t143 t148 (x10_3.set (t181 : Int).toNat (wrap64 ((rd x10_3 t181) + 1))) t132 t182 t183) else (none)) else (none)) = some (r1, r2, r3, r4) := H
                          have A43 := Aside0.mk A430
                          clear A430
                          by_cases c44 : 0 ≤ t181
                          · rw [if_pos c44] at H
                            have c44b0 : decide (0 ≤ t181) = true := decide_eq_true c44
                            clear c44
                            by_cases c45 : t181 < (x10_3.length : Int)
                            · rw [if_pos c45] at H
                              have c45b0 : decide (t181 < (x10_3.length : Int)) = true := decide_eq_true c45
                              clear c45
                              obtain ⟨y185, hy185⟩ : ∃ y_ : List Int, y_ = (x10_3.set (t181 : Int).toNat (wrap64 ((rd x10_3 t181) + 1))) := ⟨_, rfl⟩
                              replace H : (spec_DrawMergePoint.j3 k3 t136 t143 t148 y185 t132 t182 t183) = some (r1, r2, r3, r4) := by first | (rw [hy185]; with_reducible exact H) | (have H2_ := (Option.bind_some _ _).symm.trans H; rw [hy185]; with_reducible exact H2_) | (have H2_ := (Option.bind_some _ _).symm.trans H; with_reducible exact H2_) | with_reducible exact H | (rw [hy185]; exact H) | exact H
                              have Ny185 := Aside0.mk hy185
                              clear hy185
                              have H' := Aside0.mk H
                              clear H
                              obtain ⟨Ao47, co47, eo47⟩ := Kd.R_slice HO_10.out
                              subst eo47
                              go_wp2_with (first | (go_at_call 18; (with_reducible refine (spec_l1Src_One.calls g135 t132 x136001_3 x136002_3 3 true t179 t180 w _ ?side1 ?side2 A41.out).mono ?_); (case side1 => repeat (first | (with_reducible first | exact HI135.out | apply IsS43.alloc | apply IsS43.drewN | apply IsS43.drew | apply IsS43.set_1 | apply IsS43.set_2) | exact HI135.out)); (case side2 => repeat (first | (with_reducible first | exact HB.out | apply below_alloc | apply pw_below_drewN | apply below_drew1 | refine below_set ?_ (IsS43.ge HI135.out)) | exact HB.out)); rintro e w48 ⟨rfl, hi, hb, hk⟩; have n0_ := Aside0.mk (Kd.R_mono (Kd.R_keep (IsS43.apart (show IsS43 w _ g135 t132 x136001_3 x136002_3 from by repeat (first | (with_reducible first | exact HI135.out | apply IsS43.alloc | apply IsS43.drewN | apply IsS43.drew | apply IsS43.set_1 | apply IsS43.set_2) | exact HI135.out)) (by (with_reducible repeat (first | apply Kd.R_alloc | apply Kd.R_drewN | apply Kd.R_drew)); exact HO_8.out) (by decide)) hk (fun _ h => h.2)) (fun _ h => h.1)); have n1_ := Aside0.mk (Kd.R_mono (Kd.R_keep (IsS43.apart (show IsS43 w _ g135 t132 x136001_3 x136002_3 from by repeat (first | (with_reducible first | exact HI135.out | apply IsS43.alloc | apply IsS43.drewN | apply IsS43.drew | apply IsS43.set_1 | apply IsS43.set_2) | exact HI135.out)) (by (with_reducible repeat (first | apply Kd.R_alloc | apply Kd.R_drewN | apply Kd.R_drew)); exact HO_10.out) (by decide)) hk (fun _ h => h.2)) (fun _ h => h.1)); have n2_ := Aside0.mk (hb); have n3_ := Aside0.mk (hi); clear HO_8; clear HO_10; clear HB; clear HI135; have HO_8 := n0_; have HO_10 := n1_; have HB := n2_; have HI135 := n3_; clear n0_ n1_ n2_ n3_; (try clear hb); (try clear hb2); (try clear hk); (try clear hi)) | ((with_reducible refine gate_callee (f := 15) rfl ?_); refine goesL_ (some 89) rfl rfl Try.func15 (by kernel_rfl) rfl #[.pointer (some ⟨g135, 0, none⟩), .int .i64 (x10_3.length : Int)] rfl (by (try simp only [List.map_toArray, List.map_cons, List.map_nil]); first | done | rfl | (simp only [List.length_drop, List.length_take]; rfl)) ?_; (with_reducible refine (spec_l1Src_N.calls g135 t132 t179 t180 (x10_3.length : Int) t181 t182 t183 w _ ?side1 ?side2 A43.out).mono ?_); (case side1 => repeat (first | (with_reducible first | exact HI135.out | apply IsS43.alloc | apply IsS43.drewN | apply IsS43.drew | apply IsS43.set_1 | apply IsS43.set_2) | exact HI135.out)); (case side2 => repeat (first | (with_reducible first | exact HB.out | apply below_alloc | apply pw_below_drewN | apply below_drew1 | refine below_set ?_ (IsS43.ge HI135.out)) | exact HB.out)); rintro e w49 ⟨rfl, hi, hb, hk⟩; refine ⟨_, rfl, ?_⟩; have n0_ := Aside0.mk (Kd.R_mono (Kd.R_keep (IsS43.apart (show IsS43 w _ g135 t132 t179 t180 from by repeat (first | (with_reducible first | exact HI135.out | apply IsS43.alloc | apply IsS43.drewN | apply IsS43.drew | apply IsS43.set_1 | apply IsS43.set_2) | exact HI135.out)) (by (with_reducible repeat (first | apply Kd.R_alloc | apply Kd.R_drewN | apply Kd.R_drew)); exact HO_8.out) (by decide)) hk (fun _ h => h.2)) (fun _ h => h.1)); have n1_ := Aside0.mk (Kd.R_mono (Kd.R_keep (IsS43.apart (show IsS43 w _ g135 t132 t179 t180 from by repeat (first | (with_reducible first | exact HI135.out | apply IsS43.alloc | apply IsS43.drewN | apply IsS43.drew | apply IsS43.set_1 | apply IsS43.set_2) | exact HI135.out)) (by (with_reducible repeat (first | apply Kd.R_alloc | apply Kd.R_drewN | apply Kd.R_drew)); exact HO_10.out) (by decide)) hk (fun _ h => h.2)) (fun _ h => h.1)); have n2_ := Aside0.mk (hb); have n3_ := Aside0.mk (hi); clear HO_8; clear HO_10; clear HB; clear HI135; have HO_8 := n0_; have HO_10 := n1_; have HB := n2_; have HI135 := n3_; clear n0_ n1_ n2_ n3_; (try clear hb); (try clear hb2); (try clear hk); (try clear hi); have p184 : 0 ≤ (t181 : Int) := of_decide_eq_true (by first | (with_reducible assumption) | assumption); have q184 : t181 < (x10_3.length : Int) := of_decide_eq_true (by first | (with_reducible assumption) | assumption); obtain ⟨ad184, e184, hx184_0⟩ := Kd.at_int (Kd.R_reads' HO_10.out).2.2 t181 p184 q184; cases e184; replace p184 := eq_true p184; replace q184 := eq_true q184; have p46 : 0 ≤ (t181 : Int) := of_decide_eq_true (by first | (with_reducible assumption) | assumption); have q46 : (t181 : Int) < ((x10_3.length : Int) : Int) := of_decide_eq_true (by first | (with_reducible assumption) | assumption); obtain ⟨go46, co46, eo46, gb46, gl46, cl46, HG46⟩ := Kd.R_form HO_10.out (by omega); (first | cases eo46 | (injection eo46 with ea_ en_ ec_; (first | subst ea_ | (injection ea_ with ea_; subst ea_)); subst ec_; clear en_)); have GB46 := Aside0.mk gb46; have GG46 := Aside0.mk HG46; clear gb46 gl46 HG46; (first | simp only [add_plain] at hx184_0 | skip); obtain ⟨hx46_0, hf46_0⟩ := Kd.R_celln 0 HO_10.out (t181 : Int) p46 q46; replace p46 := eq_true p46; replace q46 := eq_true q46; obtain ⟨hy50_, hz50_⟩ := Kd.R_celln 0 HO_10.out (t181 : Int) (of_decide_eq_true (by first | (with_reducible assumption) | assumption)) (of_decide_eq_true (by first | (with_reducible assumption) | assumption)); have HP50 := Kd.R_putg HO_10.out (t181 : Int) (wrap64 ((rd x10_3 t181) + 1))) | ((with_reducible refine gate_store (t := 3) (p := 93) rfl ?_); refine store_event (t := 3) (p := 93) (v := ?vo_w51) (w1 := (w49.setCell ⟨go46, (t181 : Int).toNat, none⟩ (.int .i64 (wrap64 ((rd x10_3 t181) + 1))))) ?hg ?ho ?hn ?hr ?_; (case ho => rfl); (case hg => rfl); (case hn => rfl); (case hr => first | (go_simp; done) | (go_simp; rfl)); intro w51 hw; have hg : w49.grownBy w51 (some go46) := (by rw [hw]; exact HP50.2); have hp_ : Kd.R (Kd.int .i64) 3 w51 w.heap.size (fun k_ => some k_ ≠ (.slice Ao16 t143.length co16 : Value).ownBlock) (.slice (some ⟨go46, 0, none⟩) x10_3.length co47) y185 := (by rw [hw, Ny185.out]; exact HP50.1); clear HP50; have n0_ := Aside0.mk (Kd.R_after (v := (.slice (some ⟨go46, 0, none⟩) x10_3.length co47)) (v1 := (.slice (some ⟨go46, 0, none⟩) x10_3.length co47)) (ok := (fun _ => True)) (by (with_reducible repeat (first | apply Kd.R_alloc | apply Kd.R_drewN | apply Kd.R_drew)); exact Kd.R_mono HO_8.out (fun _ hk => ⟨trivial, hk⟩)) hg (.inl rfl)); have n1_ := Aside0.mk (hp_); have n2_ := Aside0.mk (IsS43.grown (by repeat (first | (with_reducible first | exact HI135.out | apply IsS43.alloc | apply IsS43.drewN | apply IsS43.drew | apply IsS43.set_1 | apply IsS43.set_2) | exact HI135.out)) hg (IsS43.own_ne HI135.out HO_10.out (by decide))); have n3_ := Aside0.mk ((by rw [hw]; exact below_set (HB.out) GB46.out : Below w.heap.size w w51)); clear HO_8; clear HO_10; clear HI135; clear HB; have HO_8 := n0_; have HO_10 := n1_; have HI135 := n2_; have HB := n3_; clear n0_ n1_ n2_ n3_; clear hg hw hp_))
                              go_meet
                              case rel => exact ⟨_, (t143), (y185), (t182), (t183), H', ⟨by have := HK1.out; have := HJ21.out; have := HK3.out; first | omega | exact Nat.le_refl _⟩, ⟨by (with_reducible repeat (first | apply Kd.R_alloc | apply Kd.R_drewN | apply Kd.R_drew)); exact Kd.R_mono HO_8.out (fun _ hk => hk.2)⟩, ⟨by (with_reducible repeat (first | apply Kd.R_alloc | apply Kd.R_drewN | apply Kd.R_drew)); exact HO_10.out⟩, ⟨by repeat (first | (with_reducible first | exact HI135.out | apply IsS43.alloc | apply IsS43.drewN | apply IsS43.drew | apply IsS43.set_1 | apply IsS43.set_2) | exact HI135.out)⟩, ⟨by repeat (first | (with_reducible first | exact HB.out | apply below_alloc | apply pw_below_drewN | apply below_drew1 | refine below_set ?_ (IsS43.ge HI135.out)) | exact HB.out)⟩⟩
                            · rw [if_neg c45] at H
                              exact absurd H (by simp)
                          · rw [if_neg c44] at H
                            exact absurd H (by simp)
                        · replace c42 := Bool.eq_false_iff.mpr c42
                          subst c42
                          have H1 : (spec_DrawMergePoint.j3 k3 t136 t143 t148 x10_3 t132 t179 t180) = some (r1, r2, r3, r4) := by rw [if_neg (show ¬ (false = true) by decide)] at H; exact H
                          clear H
                          have H := H1
                          clear H1
                          have H' := Aside0.mk H
                          clear H
                          obtain ⟨Ao52, co52, eo52⟩ := Kd.R_slice HO_10.out
                          subst eo52
                          go_wp2_with (first | (go_at_call 18; (with_reducible refine (spec_l1Src_One.calls g135 t132 x136001_3 x136002_3 3 false t179 t180 w _ ?side1 ?side2 A41.out).mono ?_); (case side1 => repeat (first | (with_reducible first | exact HI135.out | apply IsS43.alloc | apply IsS43.drewN | apply IsS43.drew | apply IsS43.set_1 | apply IsS43.set_2) | exact HI135.out)); (case side2 => repeat (first | (with_reducible first | exact HB.out | apply below_alloc | apply pw_below_drewN | apply below_drew1 | refine below_set ?_ (IsS43.ge HI135.out)) | exact HB.out)); rintro e w53 ⟨rfl, hi, hb, hk⟩; have n0_ := Aside0.mk (Kd.R_mono (Kd.R_keep (IsS43.apart (show IsS43 w _ g135 t132 x136001_3 x136002_3 from by repeat (first | (with_reducible first | exact HI135.out | apply IsS43.alloc | apply IsS43.drewN | apply IsS43.drew | apply IsS43.set_1 | apply IsS43.set_2) | exact HI135.out)) (by (with_reducible repeat (first | apply Kd.R_alloc | apply Kd.R_drewN | apply Kd.R_drew)); exact HO_8.out) (by decide)) hk (fun _ h => h.2)) (fun _ h => h.1)); have n1_ := Aside0.mk (Kd.R_mono (Kd.R_keep (IsS43.apart (show IsS43 w _ g135 t132 x136001_3 x136002_3 from by repeat (first | (with_reducible first | exact HI135.out | apply IsS43.alloc | apply IsS43.drewN | apply IsS43.drew | apply IsS43.set_1 | apply IsS43.set_2) | exact HI135.out)) (by (with_reducible repeat (first | apply Kd.R_alloc | apply Kd.R_drewN | apply Kd.R_drew)); exact HO_10.out) (by decide)) hk (fun _ h => h.2)) (fun _ h => h.1)); have n2_ := Aside0.mk (hb); have n3_ := Aside0.mk (hi); clear HO_8; clear HO_10; clear HB; clear HI135; have HO_8 := n0_; have HO_10 := n1_; have HB := n2_; have HI135 := n3_; clear n0_ n1_ n2_ n3_; (try clear hb); (try clear hb2); (try clear hk); (try clear hi)))
                          go_meet
                          case rel => exact ⟨_, (t143), (x10_3), (t179), (t180), H', ⟨by have := HK1.out; have := HJ21.out; have := HK3.out; first | omega | exact Nat.le_refl _⟩, ⟨by (with_reducible repeat (first | apply Kd.R_alloc | apply Kd.R_drewN | apply Kd.R_drew)); exact HO_8.out⟩, ⟨by (with_reducible repeat (first | apply Kd.R_alloc | apply Kd.R_drewN | apply Kd.R_drew)); exact HO_10.out⟩, ⟨by repeat (first | (with_reducible first | exact HI135.out | apply IsS43.alloc | apply IsS43.drewN | apply IsS43.drew | apply IsS43.set_1 | apply IsS43.set_2) | exact HI135.out)⟩, ⟨by repeat (first | (with_reducible first | exact HB.out | apply below_alloc | apply pw_below_drewN | apply below_drew1 | refine below_set ?_ (IsS43.ge HI135.out)) | exact HB.out)⟩⟩
                      · rw [if_neg c40] at H
                        have c40b0 : decide (0 < (x10_3.length : Int)) = false := decide_eq_false c40
                        have c40b1 : decide (0 < x10_3.length) = false := decide_eq_false (by omega)
                        clear c40
                        have H' := Aside0.mk H
                        clear H
                        obtain ⟨Ao54, co54, eo54⟩ := Kd.R_slice HO_10.out
                        subst eo54
                        go_wp2
                        go_meet
                        case rel => exact ⟨_, (t143), (x10_3), (x136001_3), (x136002_3), H', ⟨by have := HK1.out; have := HJ21.out; have := HK3.out; first | omega | exact Nat.le_refl _⟩, ⟨by (with_reducible repeat (first | apply Kd.R_alloc | apply Kd.R_drewN | apply Kd.R_drew)); exact HO_8.out⟩, ⟨by (with_reducible repeat (first | apply Kd.R_alloc | apply Kd.R_drewN | apply Kd.R_drew)); exact HO_10.out⟩, ⟨by repeat (first | (with_reducible first | exact HI135.out | apply IsS43.alloc | apply IsS43.drewN | apply IsS43.drew | apply IsS43.set_1 | apply IsS43.set_2) | exact HI135.out)⟩, ⟨by repeat (first | (with_reducible first | exact HB.out | apply below_alloc | apply pw_below_drewN | apply below_drew1 | refine below_set ?_ (IsS43.ge HI135.out)) | exact HB.out)⟩⟩
    · rw [if_neg c21] at H
      have c21b0 : decide (0 < t159) = false := decide_eq_false c21
      clear c21
      (first | rw [c21b0] | (simp only [i64_w, i32_w]; rw [c21b0]) | skip)
      have H' := Aside0.mk H
      clear H
      go_wp2
      go_meet
      case rel => exact ⟨_, (t143), (t154), (t160), (t161), H', ⟨by first | omega | exact Nat.le_refl _⟩, ⟨by (with_reducible repeat (first | apply Kd.R_alloc | apply Kd.R_drewN | apply Kd.R_drew)); exact Kd.R_mono HO145.out (fun _ hk => hk.2)⟩, ⟨by (with_reducible repeat (first | apply Kd.R_alloc | apply Kd.R_drewN | apply Kd.R_drew)); exact Kd.R_mono HO156.out (fun _ hk => hk.2)⟩, ⟨by repeat (first | (with_reducible first | exact HI135.out | apply IsS43.alloc | apply IsS43.drewN | apply IsS43.drew | apply IsS43.set_1 | apply IsS43.set_2) | exact HI135.out)⟩, ⟨by repeat (first | (with_reducible first | exact HB.out | apply below_alloc | apply pw_below_drewN | apply below_drew1 | refine below_set ?_ (IsS43.ge HI135.out)) | exact HB.out)⟩⟩
  case rest =>
    clear HC11
    try clear c1
    try clear p1
    try clear q1
    try clear hx1
    try clear c2
    try clear p2
    try clear c3
    try clear c4
    try clear p4
    try clear q4
    try clear hx4
    try clear hf4
    try clear p6
    try clear c13
    try clear c14
    try clear c15
    try clear c16
    try clear p16
    try clear q16
    try clear hx16
    try clear c17
    try clear p18
    try clear q18
    try clear hx18
    try clear c21
    try clear c21b0
    try clear c23
    try clear c23b0
    try clear c24
    try clear c25
    try clear c25b0
    try clear c27
    try clear c27b0
    try clear c28
    try clear c28b0
    try clear c29
    try clear c31
    try clear c35
    try clear c35b0
    try clear c37
    try clear c40
    try clear c40b0
    try clear c40b1
    try clear c42
    try clear c44
    try clear c44b0
    try clear c45
    try clear c45b0
    try clear p46
    try clear q46
    try clear hx46
    try clear hf46
    try clear hx162_0
    try clear hx184_0
    try clear hx46_0
    try clear p1
    try clear p16
    try clear p162
    try clear p184
    try clear p2
    try clear p46
    try clear p6
    try clear q1
    try clear q16
    try clear q162
    try clear q184
    try clear q46
    obtain ⟨kq, x8_10, x10_10, x136001_10, x136002_10, HA, HJ10, HO_8, HO_10, HI135, HB⟩ := hcut
    have hl8_10 := (Kd.R_reads' HO_8.out).1
    rw [hl8_10] at HO_8
    (try simp only [hl8_10])
    (try simp only [hl8_10] at HO_10)
    cases kq with
    | zero => exact absurd HA.out (by simp [spec_DrawMergePoint.j3])
    | succ kj10 =>
      have H := HA.out
      clear HA
      simp only [spec_DrawMergePoint.j3] at H
      replace H := Option.bind_eq_some_iff.mp H
      obtain ⟨⟨t186, t187, t188⟩, A550, H⟩ := H
      replace H : (if t186 = true then ((spec_l1Src_Wild.f t132 t187 t188).bind fun bt189 => ((some (([(-1), 1000001, bt189.1] : List Int) : List Int)).bind fun y192 => ((spec_l1Src_N.f t132 bt189.2.1 bt189.2.2 3).bind fun bt195 => (if 0 ≤ bt195.1 then (if bt195.1 < (y192.length : Int) then (spec_DrawMergePoint.j4 kj10 (rd y192 bt195.1) x8_10 t148 x10_10 t132 bt195.2.1 bt195.2.2) else (none)) else (none))))) else (spec_DrawMergePoint.j4 kj10 t136 x8_10 t148 x10_10 t132 t187 t188)) = some (r1, r2, r3, r4) := H
      have A55 := Aside0.mk A550
      clear A550
      have HC56 := Aside0.mk H
      clear H
      go_upto_if 95 with (first | ((with_reducible refine gate_callee (f := 18) rfl ?_); refine goesL_ (some 95) rfl rfl Try.func18 (by kernel_rfl) rfl #[.pointer (some ⟨g135, 0, none⟩), .int .i64 12] rfl (by (try simp only [List.map_toArray, List.map_cons, List.map_nil]); first | done | rfl | (simp only [List.length_drop, List.length_take]; rfl)) ?_; (with_reducible refine (spec_l1Src_One.calls g135 t132 x136001_10 x136002_10 12 t186 t187 t188 w _ ?side1 ?side2 A55.out).mono ?_); (case side1 => repeat (first | (with_reducible first | exact HI135.out | apply IsS43.alloc | apply IsS43.drewN | apply IsS43.drew | apply IsS43.set_1 | apply IsS43.set_2) | exact HI135.out)); (case side2 => repeat (first | (with_reducible first | exact HB.out | apply below_alloc | apply pw_below_drewN | apply below_drew1 | refine below_set ?_ (IsS43.ge HI135.out)) | exact HB.out)); rintro e w57 ⟨rfl, hi, hb, hk⟩; refine ⟨_, rfl, ?_⟩; have n0_ := Aside0.mk (Kd.R_mono (Kd.R_keep (IsS43.apart (show IsS43 w _ g135 t132 x136001_10 x136002_10 from by repeat (first | (with_reducible first | exact HI135.out | apply IsS43.alloc | apply IsS43.drewN | apply IsS43.drew | apply IsS43.set_1 | apply IsS43.set_2) | exact HI135.out)) (by (with_reducible repeat (first | apply Kd.R_alloc | apply Kd.R_drewN | apply Kd.R_drew)); exact HO_8.out) (by decide)) hk (fun _ h => h.2)) (fun _ h => h.1)); have n1_ := Aside0.mk (Kd.R_mono (Kd.R_keep (IsS43.apart (show IsS43 w _ g135 t132 x136001_10 x136002_10 from by repeat (first | (with_reducible first | exact HI135.out | apply IsS43.alloc | apply IsS43.drewN | apply IsS43.drew | apply IsS43.set_1 | apply IsS43.set_2) | exact HI135.out)) (by (with_reducible repeat (first | apply Kd.R_alloc | apply Kd.R_drewN | apply Kd.R_drew)); exact HO_10.out) (by decide)) hk (fun _ h => h.2)) (fun _ h => h.1)); have n2_ := Aside0.mk (hb); have n3_ := Aside0.mk (hi); clear HO_8; clear HO_10; clear HB; clear HI135; have HO_8 := n0_; have HO_10 := n1_; have HB := n2_; have HI135 := n3_; clear n0_ n1_ n2_ n3_; (try clear hb); (try clear hb2); (try clear hk); (try clear hi)))
      (try simp only [Act.put, List.setIfInBounds_toArray, List.set_cons_zero, List.set_cons_succ])
      go_cut [7] (fun v7 wc => ∃ (kq : Nat) (x7_55 : Int) (x136001_55 : Int) (x136002_55 : Int), v7 = .int .i64 x7_55 ∧ Aside0 (spec_DrawMergePoint.j4 kq x7_55 x8_10 t148 x10_10 t132 x136001_55 x136002_55 = some (r1, r2, r3, r4)) ∧ Aside0 (kq ≤ kj10) ∧ Aside0 (Kd.R (Kd.int .i64) 3 wc w.heap.size (fun k_ => some k_ ≠ (u10 : Value).ownBlock) (.slice Ao16 x8_10.length co16) x8_10) ∧ Aside0 (Kd.R (Kd.int .i64) 3 wc w.heap.size (fun k_ => some k_ ≠ ((.slice Ao16 x8_10.length co16) : Value).ownBlock) u10 x10_10) ∧ Aside0 (IsS43 w wc g135 t132 x136001_55 x136002_55) ∧ Aside0 (Below w.heap.size w wc))
      case first =>
        have H := HC56.out
        clear HC56
        by_cases c58 : t186 = true
        · subst c58
          have H1 : ((spec_l1Src_Wild.f t132 t187 t188).bind fun bt189 => ((some (([(-1), 1000001, bt189.1] : List Int) : List Int)).bind fun y192 => ((spec_l1Src_N.f t132 bt189.2.1 bt189.2.2 3).bind fun bt195 => (if 0 ≤ bt195.1 then (if bt195.1 < (y192.length : Int) then (spec_DrawMergePoint.j4 kj10 (rd y192 bt195.1) x8_10 t148 x10_10 t132 bt195.2.1 bt195.2.2) else (none)) else (none))))) = some (r1, r2, r3, r4) := by rw [if_pos rfl] at H; exact H
          clear H
          have H := H1
          clear H1
          replace H := Option.bind_eq_some_iff.mp H
          obtain ⟨⟨t189, t190, t191⟩, A590, H⟩ := H
          replace H : ((some (([(-1), 1000001, t189] : List Int) : List Int)).bind fun y192 => ((spec_l1Src_N.f t132 t190 t191 3).bind fun bt195 => (if 0 ≤ bt195.1 then (if bt195.1 < (y192.length : Int) then (spec_DrawMergePoint.j4 kj10 (rd y192 bt195.1) x8_10 t148 x10_10 t132 bt195.2.1 bt195.2.2) else (none)) else (none)))) = some (r1, r2, r3, r4) := H
          have A59 := Aside0.mk A590
          clear A590
          obtain ⟨y192, hy192⟩ : ∃ y_ : List Int, y_ = (([(-1), 1000001, t189] : List Int)) := ⟨_, rfl⟩
          replace H : ((spec_l1Src_N.f t132 t190 t191 3).bind fun bt195 => (if 0 ≤ bt195.1 then (if bt195.1 < (y192.length : Int) then (spec_DrawMergePoint.j4 kj10 (rd y192 bt195.1) x8_10 t148 x10_10 t132 bt195.2.1 bt195.2.2) else (none)) else (none))) = some (r1, r2, r3, r4) := by first | (rw [hy192]; with_reducible exact H) | (have H2_ := (Option.bind_some _ _).symm.trans H; rw [hy192]; with_reducible exact H2_) | (have H2_ := (Option.bind_some _ _).symm.trans H; with_reducible exact H2_) | with_reducible exact H | (rw [hy192]; exact H) | exact H
          have Ny192 := Aside0.mk hy192
          clear hy192
          replace H := Option.bind_eq_some_iff.mp H
          obtain ⟨⟨t195, t196, t197⟩, A600, H⟩ := H
          replace H : (if 0 ≤ t195 then (if t195 < (y192.length : Int) then (spec_DrawMergePoint.j4 kj10 (rd y192 t195) x8_10 t148 x10_10 t132 t196 t197) else (none)) else (none)) = some (r1, r2, r3, r4) := H
          have A60 := Aside0.mk A600
          clear A600
          by_cases c61 : 0 ≤ t195
          · rw [if_pos c61] at H
            have c61b0 : decide (0 ≤ t195) = true := decide_eq_true c61
            clear c61
            (first | rw [c61b0] | (simp only [i64_w, i32_w]; rw [c61b0]) | skip)
            by_cases c62 : t195 < (y192.length : Int)
            · rw [if_pos c62] at H
              have c62b0 : decide (t195 < (y192.length : Int)) = true := decide_eq_true c62
              clear c62
              have H' := Aside0.mk H
              clear H
              go_wp2_with (first | ((with_reducible refine gate_callee (f := 19) rfl ?_); refine goesL_ (some 97) rfl rfl Try.func19 (by kernel_rfl) rfl #[.pointer (some ⟨g135, 0, none⟩)] rfl (by (try simp only [List.map_toArray, List.map_cons, List.map_nil]); first | done | rfl | (simp only [List.length_drop, List.length_take]; rfl)) ?_; (with_reducible refine (spec_l1Src_Wild.calls g135 t132 t187 t188 t189 t190 t191 w _ ?side1 ?side2 A59.out).mono ?_); (case side1 => repeat (first | (with_reducible first | exact HI135.out | apply IsS43.alloc | apply IsS43.drewN | apply IsS43.drew | apply IsS43.set_1 | apply IsS43.set_2) | exact HI135.out)); (case side2 => repeat (first | (with_reducible first | exact HB.out | apply below_alloc | apply pw_below_drewN | apply below_drew1 | refine below_set ?_ (IsS43.ge HI135.out)) | exact HB.out)); rintro e w63 ⟨rfl, hi, hb, hk⟩; refine ⟨_, rfl, ?_⟩; have n0_ := Aside0.mk (Kd.R_mono (Kd.R_keep (IsS43.apart (show IsS43 w _ g135 t132 t187 t188 from by repeat (first | (with_reducible first | exact HI135.out | apply IsS43.alloc | apply IsS43.drewN | apply IsS43.drew | apply IsS43.set_1 | apply IsS43.set_2) | exact HI135.out)) (by (with_reducible repeat (first | apply Kd.R_alloc | apply Kd.R_drewN | apply Kd.R_drew)); exact HO_8.out) (by decide)) hk (fun _ h => h.2)) (fun _ h => h.1)); have n1_ := Aside0.mk (Kd.R_mono (Kd.R_keep (IsS43.apart (show IsS43 w _ g135 t132 t187 t188 from by repeat (first | (with_reducible first | exact HI135.out | apply IsS43.alloc | apply IsS43.drewN | apply IsS43.drew | apply IsS43.set_1 | apply IsS43.set_2) | exact HI135.out)) (by (with_reducible repeat (first | apply Kd.R_alloc | apply Kd.R_drewN | apply Kd.R_drew)); exact HO_10.out) (by decide)) hk (fun _ h => h.2)) (fun _ h => h.1)); have n2_ := Aside0.mk (hb); have n3_ := Aside0.mk (hi); clear HO_8; clear HO_10; clear HB; clear HI135; have HO_8 := n0_; have HO_10 := n1_; have HB := n2_; have HI135 := n3_; clear n0_ n1_ n2_ n3_; (try clear hb); (try clear hb2); (try clear hk); (try clear hi)) | ((with_reducible refine gate_dst (N := 98) rfl ?_); (try (refine gate_guard (by rfl) ?_; dsimp only)); refine Kd.R_lit (Kd.int .i64) _ 3 ?hg (N := 98) ?hd (xs := ([(-1), 1000001, t189] : List Int)) (inner := [.int .i64 (-1), .int .i64 1000001, .int .i64 t189]) (ok := fun _ => True) (okp := fun _ => True) ?hr ?hp (fun _ hk => hk) trivial (Below.refl _ _) (Nat.le_refl _) (by simp) ?_; (case hd => rfl); (case hg => rfl); (case hr => first | (go_simp; done) | (go_simp; rfl)); (case hp => exact (Reps.one (show Kd.M (Kd.int .i64) _ _ _ (-1) [.int .i64 (-1)] from rfl) (Reps.one (show Kd.M (Kd.int .i64) _ _ _ 1000001 [.int .i64 1000001] from rfl) (Reps.one (show Kd.M (Kd.int .i64) _ _ _ t189 [.int .i64 t189] from rfl) (Reps.none _ _))))); intro v193 w64 ho65 hb hg_ hnew_; clear hg_ hnew_; (first | rw [← Ny192.out] at ho65 | (simp only [Int.reduceToNat] at ho65; rw [← Ny192.out] at ho65)); have n0_ := Aside0.mk (Kd.R_elder' (by (with_reducible repeat (first | apply Kd.R_alloc | apply Kd.R_drewN | apply Kd.R_drew)); exact HO_8.out) (Kd.R_base ho65) hb); have n1_ := Aside0.mk (Kd.R_elder' (by (with_reducible repeat (first | apply Kd.R_alloc | apply Kd.R_drewN | apply Kd.R_drew)); exact HO_10.out) (Kd.R_base ho65) hb); have n2_ := Aside0.mk (Kd.R_lower (Kd.R_new' (Kd.R_new' ho65 (Kd.R_lt (by (with_reducible repeat (first | apply Kd.R_alloc | apply Kd.R_drewN | apply Kd.R_drew)); exact HO_8.out))) (Kd.R_lt (by (with_reducible repeat (first | apply Kd.R_alloc | apply Kd.R_drewN | apply Kd.R_drew)); exact HO_10.out))) (below_size (by repeat (first | (with_reducible first | exact HB.out | apply below_alloc | apply pw_below_drewN | apply below_drew1 | refine below_set ?_ (IsS43.ge HI135.out)) | exact HB.out)))); have n3_ := Aside0.mk (IsS43.below (by repeat (first | (with_reducible first | exact HI135.out | apply IsS43.alloc | apply IsS43.drewN | apply IsS43.drew | apply IsS43.set_1 | apply IsS43.set_2) | exact HI135.out)) hb); have n4_ := Aside0.mk (below_step (by repeat (first | (with_reducible first | exact HB.out | apply below_alloc | apply pw_below_drewN | apply below_drew1 | refine below_set ?_ (IsS43.ge HI135.out)) | exact HB.out)) hb); clear HO_8; clear HO_10; clear HI135; clear HB; have HO_8 := n0_; have HO_10 := n1_; have HO194 := n2_; have HI135 := n3_; have HB := n4_; clear n0_ n1_ n2_ n3_ n4_; clear hb ho65) | ((with_reducible refine gate_callee (f := 15) rfl ?_); refine goesL_ (some 100) rfl rfl Try.func15 (by kernel_rfl) rfl #[.pointer (some ⟨g135, 0, none⟩), .int .i64 3] rfl (by (try simp only [List.map_toArray, List.map_cons, List.map_nil]); first | done | rfl | (simp only [List.length_drop, List.length_take]; rfl)) ?_; (with_reducible refine (spec_l1Src_N.calls g135 t132 t190 t191 3 t195 t196 t197 w _ ?side1 ?side2 A60.out).mono ?_); (case side1 => repeat (first | (with_reducible first | exact HI135.out | apply IsS43.alloc | apply IsS43.drewN | apply IsS43.drew | apply IsS43.set_1 | apply IsS43.set_2) | exact HI135.out)); (case side2 => repeat (first | (with_reducible first | exact HB.out | apply below_alloc | apply pw_below_drewN | apply below_drew1 | refine below_set ?_ (IsS43.ge HI135.out)) | exact HB.out)); rintro e w66 ⟨rfl, hi, hb, hk⟩; refine ⟨_, rfl, ?_⟩; have n0_ := Aside0.mk (Kd.R_mono (Kd.R_keep (IsS43.apart (show IsS43 w _ g135 t132 t190 t191 from by repeat (first | (with_reducible first | exact HI135.out | apply IsS43.alloc | apply IsS43.drewN | apply IsS43.drew | apply IsS43.set_1 | apply IsS43.set_2) | exact HI135.out)) (by (with_reducible repeat (first | apply Kd.R_alloc | apply Kd.R_drewN | apply Kd.R_drew)); exact HO_8.out) (by decide)) hk (fun _ h => h.2)) (fun _ h => h.1)); have n1_ := Aside0.mk (Kd.R_mono (Kd.R_keep (IsS43.apart (show IsS43 w _ g135 t132 t190 t191 from by repeat (first | (with_reducible first | exact HI135.out | apply IsS43.alloc | apply IsS43.drewN | apply IsS43.drew | apply IsS43.set_1 | apply IsS43.set_2) | exact HI135.out)) (by (with_reducible repeat (first | apply Kd.R_alloc | apply Kd.R_drewN | apply Kd.R_drew)); exact HO_10.out) (by decide)) hk (fun _ h => h.2)) (fun _ h => h.1)); have n2_ := Aside0.mk (Kd.R_mono (Kd.R_keep (IsS43.apart (show IsS43 w _ g135 t132 t190 t191 from by repeat (first | (with_reducible first | exact HI135.out | apply IsS43.alloc | apply IsS43.drewN | apply IsS43.drew | apply IsS43.set_1 | apply IsS43.set_2) | exact HI135.out)) (by (with_reducible repeat (first | apply Kd.R_alloc | apply Kd.R_drewN | apply Kd.R_drew)); exact HO194.out) (by decide)) hk (fun _ h => h.2)) (fun _ h => h.1)); have n3_ := Aside0.mk (hb); have n4_ := Aside0.mk (hi); clear HO_8; clear HO_10; clear HO194; clear HB; clear HI135; have HO_8 := n0_; have HO_10 := n1_; have HO194 := n2_; have HB := n3_; have HI135 := n4_; clear n0_ n1_ n2_ n3_ n4_; (try clear hb); (try clear hb2); (try clear hk); (try clear hi); obtain ⟨Ao67, co67, eo67⟩ := Kd.R_slice HO194.out; subst eo67; have p198 : 0 ≤ (t195 : Int) := of_decide_eq_true (by first | (with_reducible assumption) | assumption); have q198 : t195 < (y192.length : Int) := of_decide_eq_true (by first | (with_reducible assumption) | assumption); obtain ⟨ad198, e198, hx198_0⟩ := Kd.at_int (Kd.R_reads' HO194.out).2.2 t195 p198 q198; cases e198; replace p198 := eq_true p198; replace q198 := eq_true q198))
              go_meet
              case rel => exact ⟨_, (rd y192 t195), (t196), (t197), (by first | rfl | (simp; done) | (simp [*]; done)), H', ⟨by have := HJ10.out; first | omega | exact Nat.le_refl _⟩, ⟨by (try simp only [hl8_10]); (with_reducible repeat (first | apply Kd.R_alloc | apply Kd.R_drewN | apply Kd.R_drew)); exact Kd.R_mono HO_8.out (fun _ hk => hk.1)⟩, ⟨by (try simp only [hl8_10]); (with_reducible repeat (first | apply Kd.R_alloc | apply Kd.R_drewN | apply Kd.R_drew)); exact Kd.R_mono HO_10.out (fun _ hk => hk.1)⟩, ⟨by repeat (first | (with_reducible first | exact HI135.out | apply IsS43.alloc | apply IsS43.drewN | apply IsS43.drew | apply IsS43.set_1 | apply IsS43.set_2) | exact HI135.out)⟩, ⟨by repeat (first | (with_reducible first | exact HB.out | apply below_alloc | apply pw_below_drewN | apply below_drew1 | refine below_set ?_ (IsS43.ge HI135.out)) | exact HB.out)⟩⟩
            · rw [if_neg c62] at H
              exact absurd H (by simp)
          · rw [if_neg c61] at H
            exact absurd H (by simp)
        · replace c58 := Bool.eq_false_iff.mpr c58
          subst c58
          have H1 : (spec_DrawMergePoint.j4 kj10 t136 x8_10 t148 x10_10 t132 t187 t188) = some (r1, r2, r3, r4) := by rw [if_neg (show ¬ (false = true) by decide)] at H; exact H
          clear H
          have H := H1
          clear H1
          have H' := Aside0.mk H
          clear H
          go_wp2
          go_meet
          case rel => exact ⟨_, (t136), (t187), (t188), (by first | rfl | (simp; done) | (simp [*]; done)), H', ⟨by have := HJ10.out; first | omega | exact Nat.le_refl _⟩, ⟨by (try simp only [hl8_10]); (with_reducible repeat (first | apply Kd.R_alloc | apply Kd.R_drewN | apply Kd.R_drew)); exact HO_8.out⟩, ⟨by (try simp only [hl8_10]); (with_reducible repeat (first | apply Kd.R_alloc | apply Kd.R_drewN | apply Kd.R_drew)); exact HO_10.out⟩, ⟨by repeat (first | (with_reducible first | exact HI135.out | apply IsS43.alloc | apply IsS43.drewN | apply IsS43.drew | apply IsS43.set_1 | apply IsS43.set_2) | exact HI135.out)⟩, ⟨by repeat (first | (with_reducible first | exact HB.out | apply below_alloc | apply pw_below_drewN | apply below_drew1 | refine below_set ?_ (IsS43.ge HI135.out)) | exact HB.out)⟩⟩
      case rest =>
        clear HC56
        try clear c1
        try clear p1
        try clear q1
        try clear hx1
        try clear c2
        try clear p2
        try clear c3
        try clear c4
        try clear p4
        try clear q4
        try clear hx4
        try clear hf4
        try clear c5
        try clear c6
        try clear p6
        try clear c13
        try clear c14
        try clear c15
        try clear c16
        try clear p16
        try clear q16
        try clear hx16
        try clear c17
        try clear c18
        try clear p18
        try clear q18
        try clear hx18
        try clear c19
        try clear p19
        try clear q19
        try clear hx19
        try clear c21
        try clear c21b0
        try clear c23
        try clear c23b0
        try clear c24
        try clear c25
        try clear c25b0
        try clear c27
        try clear c27b0
        try clear c28
        try clear c28b0
        try clear c29
        try clear c31
        try clear c35
        try clear c35b0
        try clear c37
        try clear c40
        try clear c40b0
        try clear c40b1
        try clear c42
        try clear c44
        try clear c44b0
        try clear c45
        try clear c45b0
        try clear p46
        try clear q46
        try clear hx46
        try clear hf46
        try clear c58
        try clear c61
        try clear c61b0
        try clear c62
        try clear c62b0
        try clear p64
        try clear hx162_0
        try clear hx184_0
        try clear hx198_0
        try clear hx46_0
        try clear p1
        try clear p16
        try clear p162
        try clear p18
        try clear p184
        try clear p198
        try clear p2
        try clear p4
        try clear p46
        try clear p6
        try clear q1
        try clear q16
        try clear q162
        try clear q18
        try clear q184
        try clear q198
        try clear q4
        try clear q46
        obtain ⟨kq, x7_55, x136001_55, x136002_55, rfl, HA, HJ55, HO_8, HO_10, HI135, HB⟩ := hcut
        cases kq with
        | zero => exact absurd HA.out (by simp [spec_DrawMergePoint.j4])
        | succ kj55 =>
          have H := HA.out
          clear HA
          simp only [spec_DrawMergePoint.j4] at H
          replace H := Option.bind_eq_some_iff.mp H
          obtain ⟨⟨t199, t200, t201⟩, A680, H⟩ := H
          replace H : (if t199 = true then ((spec_l1Src_Wild.f t132 t200 t201).bind fun bt202 => ((some (([(-1), 1000001, bt202.1] : List Int) : List Int)).bind fun y205 => ((spec_l1Src_N.f t132 bt202.2.1 bt202.2.2 3).bind fun bt208 => (if 0 ≤ bt208.1 then (if bt208.1 < (y205.length : Int) then (some (x7_55, x8_10, rd y205 bt208.1, x10_10)) else (none)) else (none))))) else (some (x7_55, x8_10, t148, x10_10))) = some (r1, r2, r3, r4) := H
          have A68 := Aside0.mk A680
          clear A680
          by_cases c69 : t199 = true
          · subst c69
            have H1 : ((spec_l1Src_Wild.f t132 t200 t201).bind fun bt202 => ((some (([(-1), 1000001, bt202.1] : List Int) : List Int)).bind fun y205 => ((spec_l1Src_N.f t132 bt202.2.1 bt202.2.2 3).bind fun bt208 => (if 0 ≤ bt208.1 then (if bt208.1 < (y205.length : Int) then (some (x7_55, x8_10, rd y205 bt208.1, x10_10)) else (none)) else (none))))) = some (r1, r2, r3, r4) := by rw [if_pos rfl] at H; exact H
            clear H
            have H := H1
            clear H1
            replace H := Option.bind_eq_some_iff.mp H
            obtain ⟨⟨t202, t203, t204⟩, A700, H⟩ := H
            replace H : ((some (([(-1), 1000001, t202] : List Int) : List Int)).bind fun y205 => ((spec_l1Src_N.f t132 t203 t204 3).bind fun bt208 => (if 0 ≤ bt208.1 then (if bt208.1 < (y205.length : Int) then (some (x7_55, x8_10, rd y205 bt208.1, x10_10)) else (none)) else (none)))) = some (r1, r2, r3, r4) := H
            have A70 := Aside0.mk A700
            clear A700
            obtain ⟨y205, hy205⟩ : ∃ y_ : List Int, y_ = (([(-1), 1000001, t202] : List Int)) := ⟨_, rfl⟩
            replace H : ((spec_l1Src_N.f t132 t203 t204 3).bind fun bt208 => (if 0 ≤ bt208.1 then (if bt208.1 < (y205.length : Int) then (some (x7_55, x8_10, rd y205 bt208.1, x10_10)) else (none)) else (none))) = some (r1, r2, r3, r4) := by first | (rw [hy205]; with_reducible exact H) | (have H2_ := (Option.bind_some _ _).symm.trans H; rw [hy205]; with_reducible exact H2_) | (have H2_ := (Option.bind_some _ _).symm.trans H; with_reducible exact H2_) | with_reducible exact H | (rw [hy205]; exact H) | exact H
            have Ny205 := Aside0.mk hy205
            clear hy205
            replace H := Option.bind_eq_some_iff.mp H
            obtain ⟨⟨t208, t209, t210⟩, A710, H⟩ := H
            replace H : (if 0 ≤ t208 then (if t208 < (y205.length : Int) then (some (x7_55, x8_10, rd y205 t208, x10_10)) else (none)) else (none)) = some (r1, r2, r3, r4) := H
            have A71 := Aside0.mk A710
            clear A710
            by_cases c72 : 0 ≤ t208
            · rw [if_pos c72] at H
              have c72b0 : decide (0 ≤ t208) = true := decide_eq_true c72
              clear c72
              by_cases c73 : t208 < (y205.length : Int)
              · rw [if_pos c73] at H
                have c73b0 : decide (t208 < (y205.length : Int)) = true := decide_eq_true c73
                clear c73
                simp only [Option.some.injEq, Prod.mk.injEq] at H
                obtain ⟨rfl, rfl, rfl, rfl⟩ := H
                go_wp2_with (first | ((with_reducible refine gate_callee (f := 18) rfl ?_); refine goesL_ (some 104) rfl rfl Try.func18 (by kernel_rfl) rfl #[.pointer (some ⟨g135, 0, none⟩), .int .i64 12] rfl (by (try simp only [List.map_toArray, List.map_cons, List.map_nil]); first | done | rfl | (simp only [List.length_drop, List.length_take]; rfl)) ?_; (with_reducible refine (spec_l1Src_One.calls g135 t132 x136001_55 x136002_55 12 true t200 t201 w _ ?side1 ?side2 A68.out).mono ?_); (case side1 => repeat (first | (with_reducible first | exact HI135.out | apply IsS43.alloc | apply IsS43.drewN | apply IsS43.drew | apply IsS43.set_1 | apply IsS43.set_2) | exact HI135.out)); (case side2 => repeat (first | (with_reducible first | exact HB.out | apply below_alloc | apply pw_below_drewN | apply below_drew1 | refine below_set ?_ (IsS43.ge HI135.out)) | exact HB.out)); rintro e w74 ⟨rfl, hi, hb, hk⟩; refine ⟨_, rfl, ?_⟩; have n0_ := Aside0.mk (Kd.R_mono (Kd.R_keep (IsS43.apart (show IsS43 w _ g135 t132 x136001_55 x136002_55 from by repeat (first | (with_reducible first | exact HI135.out | apply IsS43.alloc | apply IsS43.drewN | apply IsS43.drew | apply IsS43.set_1 | apply IsS43.set_2) | exact HI135.out)) (by (with_reducible repeat (first | apply Kd.R_alloc | apply Kd.R_drewN | apply Kd.R_drew)); exact HO_8.out) (by decide)) hk (fun _ h => h.2)) (fun _ h => h.1)); have n1_ := Aside0.mk (Kd.R_mono (Kd.R_keep (IsS43.apart (show IsS43 w _ g135 t132 x136001_55 x136002_55 from by repeat (first | (with_reducible first | exact HI135.out | apply IsS43.alloc | apply IsS43.drewN | apply IsS43.drew | apply IsS43.set_1 | apply IsS43.set_2) | exact HI135.out)) (by (with_reducible repeat (first | apply Kd.R_alloc | apply Kd.R_drewN | apply Kd.R_drew)); exact HO_10.out) (by decide)) hk (fun _ h => h.2)) (fun _ h => h.1)); have n2_ := Aside0.mk (hb); have n3_ := Aside0.mk (hi); clear HO_8; clear HO_10; clear HB; clear HI135; have HO_8 := n0_; have HO_10 := n1_; have HB := n2_; have HI135 := n3_; clear n0_ n1_ n2_ n3_; (try clear hb); (try clear hb2); (try clear hk); (try clear hi)) | ((with_reducible refine gate_callee (f := 19) rfl ?_); refine goesL_ (some 106) rfl rfl Try.func19 (by kernel_rfl) rfl #[.pointer (some ⟨g135, 0, none⟩)] rfl (by (try simp only [List.map_toArray, List.map_cons, List.map_nil]); first | done | rfl | (simp only [List.length_drop, List.length_take]; rfl)) ?_; (with_reducible refine (spec_l1Src_Wild.calls g135 t132 t200 t201 t202 t203 t204 w _ ?side1 ?side2 A70.out).mono ?_); (case side1 => repeat (first | (with_reducible first | exact HI135.out | apply IsS43.alloc | apply IsS43.drewN | apply IsS43.drew | apply IsS43.set_1 | apply IsS43.set_2) | exact HI135.out)); (case side2 => repeat (first | (with_reducible first | exact HB.out | apply below_alloc | apply pw_below_drewN | apply below_drew1 | refine below_set ?_ (IsS43.ge HI135.out)) | exact HB.out)); rintro e w75 ⟨rfl, hi, hb, hk⟩; refine ⟨_, rfl, ?_⟩; have n0_ := Aside0.mk (Kd.R_mono (Kd.R_keep (IsS43.apart (show IsS43 w _ g135 t132 t200 t201 from by repeat (first | (with_reducible first | exact HI135.out | apply IsS43.alloc | apply IsS43.drewN | apply IsS43.drew | apply IsS43.set_1 | apply IsS43.set_2) | exact HI135.out)) (by (with_reducible repeat (first | apply Kd.R_alloc | apply Kd.R_drewN | apply Kd.R_drew)); exact HO_8.out) (by decide)) hk (fun _ h => h.2)) (fun _ h => h.1)); have n1_ := Aside0.mk (Kd.R_mono (Kd.R_keep (IsS43.apart (show IsS43 w _ g135 t132 t200 t201 from by repeat (first | (with_reducible first | exact HI135.out | apply IsS43.alloc | apply IsS43.drewN | apply IsS43.drew | apply IsS43.set_1 | apply IsS43.set_2) | exact HI135.out)) (by (with_reducible repeat (first | apply Kd.R_alloc | apply Kd.R_drewN | apply Kd.R_drew)); exact HO_10.out) (by decide)) hk (fun _ h => h.2)) (fun _ h => h.1)); have n2_ := Aside0.mk (hb); have n3_ := Aside0.mk (hi); clear HO_8; clear HO_10; clear HB; clear HI135; have HO_8 := n0_; have HO_10 := n1_; have HB := n2_; have HI135 := n3_; clear n0_ n1_ n2_ n3_; (try clear hb); (try clear hb2); (try clear hk); (try clear hi)) | ((with_reducible refine gate_dst (N := 107) rfl ?_); (try (refine gate_guard (by rfl) ?_; dsimp only)); refine Kd.R_lit (Kd.int .i64) _ 3 ?hg (N := 107) ?hd (xs := ([(-1), 1000001, t202] : List Int)) (inner := [.int .i64 (-1), .int .i64 1000001, .int .i64 t202]) (ok := fun _ => True) (okp := fun _ => True) ?hr ?hp (fun _ hk => hk) trivial (Below.refl _ _) (Nat.le_refl _) (by simp) ?_; (case hd => rfl); (case hg => rfl); (case hr => first | (go_simp; done) | (go_simp; rfl)); (case hp => exact (Reps.one (show Kd.M (Kd.int .i64) _ _ _ (-1) [.int .i64 (-1)] from rfl) (Reps.one (show Kd.M (Kd.int .i64) _ _ _ 1000001 [.int .i64 1000001] from rfl) (Reps.one (show Kd.M (Kd.int .i64) _ _ _ t202 [.int .i64 t202] from rfl) (Reps.none _ _))))); intro v206 w76 ho77 hb hg_ hnew_; clear hg_ hnew_; (first | rw [← Ny205.out] at ho77 | (simp only [Int.reduceToNat] at ho77; rw [← Ny205.out] at ho77)); have n0_ := Aside0.mk (Kd.R_elder' (by (with_reducible repeat (first | apply Kd.R_alloc | apply Kd.R_drewN | apply Kd.R_drew)); exact HO_8.out) (Kd.R_base ho77) hb); have n1_ := Aside0.mk (Kd.R_elder' (by (with_reducible repeat (first | apply Kd.R_alloc | apply Kd.R_drewN | apply Kd.R_drew)); exact HO_10.out) (Kd.R_base ho77) hb); have n2_ := Aside0.mk (Kd.R_lower (Kd.R_new' (Kd.R_new' ho77 (Kd.R_lt (by (with_reducible repeat (first | apply Kd.R_alloc | apply Kd.R_drewN | apply Kd.R_drew)); exact HO_8.out))) (Kd.R_lt (by (with_reducible repeat (first | apply Kd.R_alloc | apply Kd.R_drewN | apply Kd.R_drew)); exact HO_10.out))) (below_size (by repeat (first | (with_reducible first | exact HB.out | apply below_alloc | apply pw_below_drewN | apply below_drew1 | refine below_set ?_ (IsS43.ge HI135.out)) | exact HB.out)))); have n3_ := Aside0.mk (IsS43.below (by repeat (first | (with_reducible first | exact HI135.out | apply IsS43.alloc | apply IsS43.drewN | apply IsS43.drew | apply IsS43.set_1 | apply IsS43.set_2) | exact HI135.out)) hb); have n4_ := Aside0.mk (below_step (by repeat (first | (with_reducible first | exact HB.out | apply below_alloc | apply pw_below_drewN | apply below_drew1 | refine below_set ?_ (IsS43.ge HI135.out)) | exact HB.out)) hb); clear HO_8; clear HO_10; clear HI135; clear HB; have HO_8 := n0_; have HO_10 := n1_; have HO207 := n2_; have HI135 := n3_; have HB := n4_; clear n0_ n1_ n2_ n3_ n4_; clear hb ho77) | ((with_reducible refine gate_callee (f := 15) rfl ?_); refine goesL_ (some 109) rfl rfl Try.func15 (by kernel_rfl) rfl #[.pointer (some ⟨g135, 0, none⟩), .int .i64 3] rfl (by (try simp only [List.map_toArray, List.map_cons, List.map_nil]); first | done | rfl | (simp only [List.length_drop, List.length_take]; rfl)) ?_; (with_reducible refine (spec_l1Src_N.calls g135 t132 t203 t204 3 t208 t209 t210 w _ ?side1 ?side2 A71.out).mono ?_); (case side1 => repeat (first | (with_reducible first | exact HI135.out | apply IsS43.alloc | apply IsS43.drewN | apply IsS43.drew | apply IsS43.set_1 | apply IsS43.set_2) | exact HI135.out)); (case side2 => repeat (first | (with_reducible first | exact HB.out | apply below_alloc | apply pw_below_drewN | apply below_drew1 | refine below_set ?_ (IsS43.ge HI135.out)) | exact HB.out)); rintro e w78 ⟨rfl, hi, hb, hk⟩; refine ⟨_, rfl, ?_⟩; have n0_ := Aside0.mk (Kd.R_mono (Kd.R_keep (IsS43.apart (show IsS43 w _ g135 t132 t203 t204 from by repeat (first | (with_reducible first | exact HI135.out | apply IsS43.alloc | apply IsS43.drewN | apply IsS43.drew | apply IsS43.set_1 | apply IsS43.set_2) | exact HI135.out)) (by (with_reducible repeat (first | apply Kd.R_alloc | apply Kd.R_drewN | apply Kd.R_drew)); exact HO_8.out) (by decide)) hk (fun _ h => h.2)) (fun _ h => h.1)); have n1_ := Aside0.mk (Kd.R_mono (Kd.R_keep (IsS43.apart (show IsS43 w _ g135 t132 t203 t204 from by repeat (first | (with_reducible first | exact HI135.out | apply IsS43.alloc | apply IsS43.drewN | apply IsS43.drew | apply IsS43.set_1 | apply IsS43.set_2) | exact HI135.out)) (by (with_reducible repeat (first | apply Kd.R_alloc | apply Kd.R_drewN | apply Kd.R_drew)); exact HO_10.out) (by decide)) hk (fun _ h => h.2)) (fun _ h => h.1)); have n2_ := Aside0.mk (Kd.R_mono (Kd.R_keep (IsS43.apart (show IsS43 w _ g135 t132 t203 t204 from by repeat (first | (with_reducible first | exact HI135.out | apply IsS43.alloc | apply IsS43.drewN | apply IsS43.drew | apply IsS43.set_1 | apply IsS43.set_2) | exact HI135.out)) (by (with_reducible repeat (first | apply Kd.R_alloc | apply Kd.R_drewN | apply Kd.R_drew)); exact HO207.out) (by decide)) hk (fun _ h => h.2)) (fun _ h => h.1)); have n3_ := Aside0.mk (hb); have n4_ := Aside0.mk (hi); clear HO_8; clear HO_10; clear HO207; clear HB; clear HI135; have HO_8 := n0_; have HO_10 := n1_; have HO207 := n2_; have HB := n3_; have HI135 := n4_; clear n0_ n1_ n2_ n3_ n4_; (try clear hb); (try clear hb2); (try clear hk); (try clear hi); obtain ⟨Ao79, co79, eo79⟩ := Kd.R_slice HO207.out; subst eo79; have p211 : 0 ≤ (t208 : Int) := of_decide_eq_true (by first | (with_reducible assumption) | assumption); have q211 : t208 < (y205.length : Int) := of_decide_eq_true (by first | (with_reducible assumption) | assumption); obtain ⟨ad211, e211, hx211_0⟩ := Kd.at_int (Kd.R_reads' HO207.out).2.2 t208 p211 q211; cases e211; replace p211 := eq_true p211; replace q211 := eq_true q211))
                refine bodyPost_ret (results_list (rs := [.tmp 2, .tmp 3, .tmp 4, .tmp 5]) rfl (by simp) (.tmp (.tmp (.tmp (.tmp .nil))))) rfl ?_
                exact ⟨_, _, by first | rfl | (simp [errW_none, errW_some] <;> rfl) | (simp [*, errW_none, errW_some] <;> rfl), by (with_reducible repeat (first | apply Kd.R_alloc | apply Kd.R_drewN | apply Kd.R_drew)); exact Kd.R_mono HO_8.out (fun _ hk => hk.1), by (with_reducible repeat (first | apply Kd.R_alloc | apply Kd.R_drewN | apply Kd.R_drew)); exact Kd.R_mono HO_10.out (fun _ hk => hk.1), by repeat (first | (with_reducible first | exact HB.out | apply below_alloc | apply pw_below_drewN | apply below_drew1 | refine below_set ?_ (IsS43.ge HI135.out)) | exact HB.out)⟩
              · rw [if_neg c73] at H
                exact absurd H (by simp)
            · rw [if_neg c72] at H
              exact absurd H (by simp)
          · replace c69 := Bool.eq_false_iff.mpr c69
            subst c69
            have H1 : (some (x7_55, x8_10, t148, x10_10)) = some (r1, r2, r3, r4) := by rw [if_neg (show ¬ (false = true) by decide)] at H; exact H
            clear H
            have H := H1
            clear H1
            simp only [Option.some.injEq, Prod.mk.injEq] at H
            obtain ⟨rfl, rfl, rfl, rfl⟩ := H
            go_wp2_with (first | ((with_reducible refine gate_callee (f := 18) rfl ?_); refine goesL_ (some 104) rfl rfl Try.func18 (by kernel_rfl) rfl #[.pointer (some ⟨g135, 0, none⟩), .int .i64 12] rfl (by (try simp only [List.map_toArray, List.map_cons, List.map_nil]); first | done | rfl | (simp only [List.length_drop, List.length_take]; rfl)) ?_; (with_reducible refine (spec_l1Src_One.calls g135 t132 x136001_55 x136002_55 12 false t200 t201 w _ ?side1 ?side2 A68.out).mono ?_); (case side1 => repeat (first | (with_reducible first | exact HI135.out | apply IsS43.alloc | apply IsS43.drewN | apply IsS43.drew | apply IsS43.set_1 | apply IsS43.set_2) | exact HI135.out)); (case side2 => repeat (first | (with_reducible first | exact HB.out | apply below_alloc | apply pw_below_drewN | apply below_drew1 | refine below_set ?_ (IsS43.ge HI135.out)) | exact HB.out)); rintro e w80 ⟨rfl, hi, hb, hk⟩; refine ⟨_, rfl, ?_⟩; have n0_ := Aside0.mk (Kd.R_mono (Kd.R_keep (IsS43.apart (show IsS43 w _ g135 t132 x136001_55 x136002_55 from by repeat (first | (with_reducible first | exact HI135.out | apply IsS43.alloc | apply IsS43.drewN | apply IsS43.drew | apply IsS43.set_1 | apply IsS43.set_2) | exact HI135.out)) (by (with_reducible repeat (first | apply Kd.R_alloc | apply Kd.R_drewN | apply Kd.R_drew)); exact HO_8.out) (by decide)) hk (fun _ h => h.2)) (fun _ h => h.1)); have n1_ := Aside0.mk (Kd.R_mono (Kd.R_keep (IsS43.apart (show IsS43 w _ g135 t132 x136001_55 x136002_55 from by repeat (first | (with_reducible first | exact HI135.out | apply IsS43.alloc | apply IsS43.drewN | apply IsS43.drew | apply IsS43.set_1 | apply IsS43.set_2) | exact HI135.out)) (by (with_reducible repeat (first | apply Kd.R_alloc | apply Kd.R_drewN | apply Kd.R_drew)); exact HO_10.out) (by decide)) hk (fun _ h => h.2)) (fun _ h => h.1)); have n2_ := Aside0.mk (hb); have n3_ := Aside0.mk (hi); clear HO_8; clear HO_10; clear HB; clear HI135; have HO_8 := n0_; have HO_10 := n1_; have HB := n2_; have HI135 := n3_; clear n0_ n1_ n2_ n3_; (try clear hb); (try clear hb2); (try clear hk); (try clear hi)))
            refine bodyPost_ret (results_list (rs := [.tmp 2, .tmp 3, .tmp 4, .tmp 5]) rfl (by simp) (.tmp (.tmp (.tmp (.tmp .nil))))) rfl ?_
            exact ⟨_, _, by first | rfl | (simp [errW_none, errW_some] <;> rfl) | (simp [*, errW_none, errW_some] <;> rfl), by (with_reducible repeat (first | apply Kd.R_alloc | apply Kd.R_drewN | apply Kd.R_drew)); exact HO_8.out, by (with_reducible repeat (first | apply Kd.R_alloc | apply Kd.R_drewN | apply Kd.R_drew)); exact HO_10.out, by repeat (first | (with_reducible first | exact HB.out | apply below_alloc | apply pw_below_drewN | apply below_drew1 | refine below_set ?_ (IsS43.ge HI135.out)) | exact HB.out)⟩

end Go.Proofs.Ytaaedcmbpnpbkaa.XFnMerge
