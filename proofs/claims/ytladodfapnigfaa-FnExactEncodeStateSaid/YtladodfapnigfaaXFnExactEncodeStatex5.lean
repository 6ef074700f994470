/- Contracts of the functions that FnExactEncodeState comes to, each proved over the translation. Written by this session's program xprint.py; the parts between 'BY HAND' rows are typed by hand. Conditions: each theorem's own hypotheses. -/
import Derived.Test.YtladodfapnigfaaXFnExactEncodeStatex0
import Derived.Test.YtladodfapnigfaaXFnExactEncodeStatex4
namespace Go.Proofs.Ytladodfapnigfaa.XFnExactEncodeState
open Go.RowKit Go.Proofs.YtladodfapnigfaaW.PrintWords Go.Proofs.YtladodfapnigfaaW.PrintLast Go.Proofs.YtladodfapnigfaaW.PrintMore
attribute [local go_sem] max2_int min2_int max_two min_two max_three min_three max_four min_four   -- for this text's walks alone
set_option linter.unusedVariables false
set_option linter.unusedSimpArgs false

/-! ### laws_toSessionS: function 53 · BY HAND -/
def convSess (x : S96) : S74 := ⟨x.f0, x.f1, x.f2, x.f3⟩
def laws_toSessionS.f (l0 : List S96) : Option (List S74) := if l0.length ≤ 5864062014805 ∧ ∀ x ∈ l0, x.f3.length ≤ 281474976710656 then some (l0.map convSess) else none
theorem bytes_copied_s (x : List Int) (hx : x.length ≤ 281474976710656) (d : Nat) : ∀ (k i : Nat) (y : List Int), y.length = x.length → i ≤ x.length → x.length - i = d → d < k → y.take i = x.take i →
 laws_toByteS.l0 k x y (i : Int) = some x := by
 induction d with
 | zero =>
  intro k i y hl hi hd hk ht
  obtain ⟨k, rfl⟩ : ∃ m, k = m + 1 := ⟨k - 1, by omega⟩
  rw [laws_toByteS.l0, if_neg (by omega)]
  rw [List.take_of_length_le (by omega), List.take_of_length_le (by omega)] at ht
  rw [ht]
 | succ d ih =>
  intro k i y hl hi hd hk ht
  obtain ⟨k, rfl⟩ : ∃ m, k = m + 1 := ⟨k - 1, by omega⟩
  rw [laws_toByteS.l0, if_pos (by omega), if_pos (by omega), if_pos (by omega), Go.Proofs.Ytladodfapnigfaa.Num.w64n (by omega)]
  exact ih k (i + 1) _ (by simpa using hl) (by omega) (by omega) (by omega) (Go.Proofs.Ytladodfapnigfaa.Num.set_take x y 0 i (by omega) hl ht)
theorem bytes_copy_s (x : List Int) (hx : x.length ≤ 281474976710656) : laws_toByteS.f (x.length + 1) x = some x := by
 unfold laws_toByteS.f
 rw [if_pos (by omega), if_pos (by omega)]
 exact bytes_copied_s x hx x.length _ 0 _ (by simp) (by omega) (by omega) (by omega) (by simp)
theorem item_copy_s (a b d : Int) (x : List Int) (hx : x.length ≤ 281474976710656) : laws_toSession.f (x.length + 1) a b d x = some (a, b, d, x) := by
 unfold laws_toSession.f
 rw [bytes_copy_s x hx]
 rfl
/-- Of a list that is made place by place: what was there before it. -/
theorem made_set_s {α β : Type} (f : α → β) (l : List α) (m : List β) (i : Nat) (y : β) (hm : m.length = l.length) (hi : i < l.length) (hy : y = f (l[i])) (h : ∀ j, j < i → m[j]? = (l.map f)[j]?) :
 ∀ j, j < i + 1 → (m.set i y)[j]? = (l.map f)[j]? := by
 intro j hj
 by_cases e : j = i
 ·subst e
  rw [List.getElem?_set_self (by omega), hy]
  simp [hi]
 ·rw [List.getElem?_set_ne (by omega)]
  exact h j (by omega)
theorem made_end_s {α β : Type} (f : α → β) (l : List α) (m : List β) (hm : m.length = l.length) (h : ∀ j, j < l.length → m[j]? = (l.map f)[j]?) : m = l.map f := by
 apply List.ext_getElem?
 intro j
 by_cases c : j < l.length
 ·exact h j c
 ·rw [List.getElem?_eq_none (by omega), List.getElem?_eq_none (by simp; omega)]
theorem size_74 : (Try.prog.info? 74).map (·.size) = some 4 := by kernel_rfl
set_option maxHeartbeats 8000000 in
set_option maxRecDepth 100000 in
theorem laws_toSessionS.calls (A0 : Option Addr) (c0 : Nat) (l0 : List S96) (r : List S74) (w : World) (hr0 : Kd.C k96 w A0 l0.length l0) (hc0 : l0.length ≤ c0) (h : laws_toSessionS.f l0 = some r) :
 Calls Try.prog 53 #[.slice A0 l0.length c0] w fun e w' => ∃ v0_ : Value, e = .returned (v0_) ∧ Kd.S k74 74 w' w.heap.size (fun _ => True) v0_ r ∧ Below w.heap.size w w' := by
 have hu := Try.underlying74
 have hu2 := Try.underlying96
 have HR := Aside0.mk hr0
 have HC0 := Aside0.mk hc0
 clear hr0 hc0
 unfold laws_toSessionS.f at h
 by_cases c : l0.length ≤ 5864062014805 ∧ ∀ x ∈ l0, x.f3.length ≤ 281474976710656
 ·rw [if_pos c] at h
  obtain rfl := Option.some.inj h
  have HLEN := Aside0.mk c.1
  have HALL := Aside0.mk c.2
  clear c h
  have hn0 : 0 ≤ (l0.length : Int) := by omega
  go_enter Try.func53, Try.ntmps53
  go_wp2_with ((with_reducible refine gate_dst (N := 7) rfl ?_); refine Kd.S_make k74 _ 74 rfl (N := 7) rfl 46 _ _ rfl (l0.length : Int) rfl rfl Try.underlying46 (.agg #[(.int .i64 0), (.int .i64 0), (.int .i64 0), (.slice none 0 0)]) 48 info74 rfl (by decide) (by omega) z74 (ok := fun _ => True) (okp := fun _ => True) (k74_mkM _ _ _ z74 (Kd.R_nil _ _ _ _ _)) (fun _ hk => hk) trivial hn0 (by have := HLEN.out; omega) (Below.refl _ _) (Nat.le_refl _) ?_; intro v1 w1 ho hb hg_ hnew_; clear hg_ hnew_; rw [Int.toNat_natCast] at ho; have HO := Aside0.mk ho; have HB := Aside0.mk hb; clear ho hb)
  go_loopg [4] l0.length (fun gk v4 w' => ∃ (i : Nat) (m : List S74), v4 = .int .i64 (i : Nat) ∧ Aside0 (gk + i = l0.length) ∧ Aside0 (m.length = l0.length ∧ ∀ j, j < i → m[j]? = (l0.map convSess)[j]?) ∧ Aside0 (Kd.S k74 74 w' w.heap.size (fun _ => True) v1 m) ∧ Aside0 (Below w.heap.size w w'))
  case atStart => exact ⟨0, List.replicate l0.length z74, rfl, ⟨by omega⟩, ⟨by simp, fun j hj => by omega⟩, HO, HB⟩
  case round =>
   clear HO HB
   obtain ⟨i, m, rfl, HG, HM, HO, HB⟩ := hrel
   by_cases hlt : i < l0.length
   ·obtain ⟨k1, hk1⟩ : ∃ m, gk = m + 1 := ⟨gk - 1, by have := HG.out; omega⟩
    subst hk1
    obtain ⟨g, cap, hv, hge, hrest⟩ := Kd.S_form HO.out (by have := HM.out.1; omega)
    subst hv
    have HGE := Aside0.mk hge
    clear hrest
    obtain ⟨ad, A2, c2, ha, hx0, hx1, hx2, hx3, hl2, hC⟩ := at_T96 HR.out (i : Int) (by omega) (by omega)
    cases ha
    obtain ⟨x, hx⟩ : ∃ x, x = rd_T96 l0 (i : Int) := ⟨_, rfl⟩
    rw [← hx] at hx0 hx1 hx2 hx3 hl2 hC
    rw [Int.toNat_natCast] at hx0 hx1 hx2 hx3
    replace hx0 := (HB.out.cell (World.block_lt_of_cell? w _ hx0)).trans hx0
    replace hx1 := (HB.out.cell (World.block_lt_of_cell? w _ hx1)).trans hx1
    replace hx3 := (HB.out.cell (World.block_lt_of_cell? w _ hx3)).trans hx3
    replace hx2 := (HB.out.cell (World.block_lt_of_cell? w _ hx2)).trans hx2
    have HX := Aside0.mk (show x = l0[i] by rw [hx]; simp [rd_T96, List.getD, hlt])
    have HT := Aside0.mk (item_copy_s x.f0 x.f1 x.f2 x.f3 (HALL.out x (by rw [HX.out]; exact List.getElem_mem hlt)))
    have HL2 := Aside0.mk hl2
    have HC := Aside0.mk (Kd.C_below hC HB.out)
    have hml : i < m.length := by have := HM.out.1; omega
    have HTY := Aside0.mk size_74
    clear hx hl2 hC hge
    go_wp2_with (first | (go_at_call 71; refine (laws_toSession.calls _ x.f0 x.f1 x.f2 A2 c2 x.f3 x.f0 x.f1 x.f2 x.f3 _ HC.out HL2.out HT.out).mono ?_; rintro e w1 ⟨vd, rfl, ho, hb⟩; have HD := Aside0.mk ho; have HB1 := Aside0.mk hb; obtain ⟨oki, c, hcl, _, _, _, _, hH⟩ := Kd.S_elem (ok := fun k => True ∧ ¬ (wr.heap.size ≤ k)) (Kd.S_mono (Kd.S_below (Kd.S_bound HO.out) hb) (fun k hk => ⟨trivial, by have := hk.2.2.1; omega⟩)) z74 (i : Int) (by omega) (by omega); have HCL := Aside0.mk hcl; have HH := Aside0.mk (Kd.H_more hH (fun k hk => trivial)); clear ho hb hcl hH) | ((with_reducible refine gate_store (t := 74) (p := 21) rfl ?_); refine Kd.H_store k74 (w0 := w) w.heap.size rfl rfl 74 (.tmp 21) (.tmp 20) rfl 74 (i : Int) 0 m ⟨x.f0, x.f1, x.f2, x.f3⟩ (.agg #[.int .i64 x.f0, .int .i64 x.f1, .int .i64 x.f2, vd]) [.int .i64 x.f0, .int .i64 x.f1, .int .i64 x.f2, vd] c (fun _ => True) (fun k => oki k ∨ wr.heap.size ≤ k) (fun k => wr.heap.size ≤ k) rfl ?off rfl rfl HTY.out ?hone HH.out (by omega) (by omega) (by show 0 + 4 ≤ 4; omega) ?hM (fun _ h => .inr h) (below_step HB.out HB1.out) ?_; (case off => rw [Int.toNat_natCast]; rfl); (case hone => intro q hq; simp only [List.mem_cons, List.mem_nil_iff, or_false] at hq; rcases hq with rfl | rfl | rfl | rfl; exact rfl; exact rfl; exact rfl; exact (Kd.R_val HD.out).2); (case hM => rw [List.take_zero, List.nil_append, List.drop_of_length_le (by rw [HCL.out]; exact Nat.le_refl _), List.append_nil]; exact k74_mkM _ _ _ ⟨x.f0, x.f1, x.f2, x.f3⟩ (Kd.R_lower (Kd.R_mono (Kd.R_bound HD.out) (fun k hk => hk.2.1)) HB.out.size)); intro w2 ho hb hg; rw [Int.toNat_natCast] at ho; clear HH HO HB; have HO := Aside0.mk ho; have HB := Aside0.mk hb; clear ho hb hg))
    go_roundg k1
    case measure => omega
    case rel => exact ⟨i + 1, _, by rw [Go.Proofs.Ytladodfapnigfaa.Num.w64n (by have := HLEN.out; omega)], ⟨by have := HG.out; omega⟩, ⟨by rw [List.length_set]; exact HM.out.1, made_set_s convSess l0 m i _ HM.out.1 hlt (by rw [← HX.out]; rfl) HM.out.2⟩, HO, HB⟩
   ·have HF := Aside0.mk (made_end_s convSess l0 m HM.out.1 (fun j hj => HM.out.2 j (by have := HG.out; omega)))
    have tlt : decide (i < l0.length) = false := decide_eq_false hlt
    clear hlt
    go_wp2
    go_ret
    exact ⟨_, rfl, by have := HO.out; rwa [HF.out] at this, HB.out⟩
 ·rw [if_neg c] at h
  exact absurd h (by simp)
/-! ### end of what is BY HAND -/


/-! ### laws_toService: function 24 · BY HAND -/
def CopyService (a0 : Int) (ks : List S24) (ss : List S74) (w : World) (e : Ending) (w' : World) : Prop :=
 ∃ (v1 v2 : Value) (N : Nat), e = .returned (.agg #[.int .i64 a0, v1, v2]) ∧ w.heap.size ≤ N ∧ N ≤ w'.heap.size ∧ Kd.S k24 24 w' w.heap.size (fun k => w.heap.size ≤ k ∧ k < N) v1 ks ∧ Kd.S k74 74 w' w.heap.size (fun k => N ≤ k ∧ k < w'.heap.size) v2 ss ∧ Below w.heap.size w w'
set_option maxHeartbeats 8000000 in
set_option maxRecDepth 100000 in
theorem copyService.calls (a0 : Int) (A1 : Option Addr) (c1 : Nat) (l1 : List S33) (A2 : Option Addr) (c2 : Nat) (l2 : List S96) (ks : List S24) (ss : List S74) (w : World)
 (hr1 : Kd.C k33 w A1 l1.length l1) (hc1 : l1.length ≤ c1) (hr2 : Kd.C k96 w A2 l2.length l2) (hc2 : l2.length ≤ c2) (h1 : laws_toItemS.f l1 = some ks) (h2 : laws_toSessionS.f l2 = some ss) :
 Calls Try.prog 24 #[.agg #[.int .i64 a0, .slice A1 l1.length c1, .slice A2 l2.length c2]] w (CopyService a0 ks ss w) := by
 have hu1 := Try.underlying42
 have hu2 := Try.underlying48
 have HR1 := Aside0.mk hr1
 have HC1 := Aside0.mk hc1
 have HR2 := Aside0.mk hr2
 have HC2 := Aside0.mk hc2
 have H1 := Aside0.mk h1
 have H2 := Aside0.mk h2
 clear hr1 hc1 hr2 hc2 h1 h2
 go_enter Try.func24, Try.ntmps24
 go_wp2_with (first | ((with_reducible refine gate_dst (N := 1) rfl ?_); refine box_event ?hg (N := 1) ?hd (cs := #[.int .i64 a0, .slice A1 l1.length c1, .slice A2 l2.length c2]) (t := 42) ?hr ?_; (case hd => rfl); (case hg => rfl); (case hr => first | (go_simp; done) | (go_simp; rfl)); intro g1 hg1 w1 bk1 hb1; have HG1 := Aside0.mk hg1; have BK1 := Aside0.mk bk1; have HB1 := Aside0.mk hb1; clear hg1 bk1 hb1) | ((with_reducible refine gate_dst (N := 2) rfl ?_); refine box_event ?hg (N := 2) ?hd (cs := #[.int .i64 0, .slice none 0 0, .slice none 0 0]) (t := 48) ?hr ?_; (case hd => rfl); (case hg => rfl); (case hr => first | (go_simp; done) | (go_simp; rfl)); intro g2 hg2 w2 bk2 hb2; have HG2 := Aside0.mk hg2; have BK2 := Aside0.mk bk2; have HB2 := Aside0.mk hb2; clear hg2 bk2 hb2) | ((with_reducible refine gate_dst (N := 3) rfl ?_); refine box_event ?hg (N := 3) ?hd (cs := #[.int .i64 0, .slice none 0 0, .slice none 0 0]) (t := 48) ?hr ?_; (case hd => rfl); (case hg => rfl); (case hr => first | (go_simp; done) | (go_simp; rfl)); intro g3 hg3 w3 bk3 hb3; have HG3 := Aside0.mk hg3; have BK3 := Aside0.mk bk3; have HB3 := Aside0.mk hb3; have k1 := blk_below (blk_below BK1.out HB2.out) hb3; have k10 : w3.cell? ⟨g1, 0, none⟩ = some (.int .i64 a0) := blk_cell k1 0; have k11 : w3.cell? ⟨g1, 1, none⟩ = some (.slice A1 l1.length c1) := blk_cell k1 1; have k30 : w3.cell? ⟨g3, 0, none⟩ = some (.int .i64 0) := blk_cell bk3 0; have f30 := blk_frozen bk3 0; have K1 := Aside0.mk k1; clear hg3 bk3 hb3 k1))
 have l1' := blk_lt BK1.out
 have l2' := blk_lt BK2.out
 have n13 : g1 ≠ g3 := by have := HG3.out; have := HB2.out.size; omega
 have n23 : g2 ≠ g3 := by have := HG3.out; omega
 have N13 := Aside0.mk n13
 have N23 := Aside0.mk n23
 have HGE := Aside0.mk (show w.heap.size ≤ g3 by have := HG3.out; have := HB1.out.size; have := HB2.out.size; omega)
 have HGE2 := Aside0.mk (show w.heap.size ≤ g2 by have := HG2.out; have := HB1.out.size; omega)
 have HB0 := Aside0.mk (show Below w.heap.size w w3 from below_step (below_step HB1.out HB2.out) HB3.out)
 have K2 := Aside0.mk (blk_below BK2.out HB3.out)
 clear k10 k11 k30 f30 n13 n23 l1' l2'
 refine (laws_toItemS.calls A1 c1 l1 ks _ (Kd.C_below HR1.out (below_set HB0.out HGE.out)) HC1.out H1.out).mono ?_
 rintro e w4 ⟨v1, rfl, ho1, hb4⟩
 have HO1 := Aside0.mk ho1
 have HB4 := Aside0.mk hb4
 have kk1 := blk_below (blk_far (p := ⟨g3, 0, none⟩) K1.out N13.out (.int .i64 a0)) hb4
 have kk2 := blk_below (blk_far (p := ⟨g3, 0, none⟩) K2.out N23.out (.int .i64 a0)) hb4
 have kk3 := blk_below (blk_put (cs' := #[.int .i64 a0, .slice none 0 0, .slice none 0 0]) BK3.out 0 (.int .i64 a0) rfl) hb4
 have KK1 := Aside0.mk kk1
 have KK2 := Aside0.mk kk2
 have KK3 := Aside0.mk kk3
 have k12 : w4.cell? ⟨g1, 2, none⟩ = some (.slice A2 l2.length c2) := blk_cell kk1 2
 have k31 : w4.cell? ⟨g3, 1, none⟩ = some (.slice none 0 0) := blk_cell kk3 1
 have f31 := blk_frozen kk3 1
 have HB5 := Aside0.mk (show Below w.heap.size w w4 from below_step (below_set HB0.out HGE.out) hb4)
 have q1 := (Kd.R_val (Kd.S_R ho1))
 have Q1 := Aside0.mk q1
 obtain ⟨B1, d1, e1⟩ := Kd.S_slice ho1
 subst e1
 clear ho1 hb4 kk1 kk2 kk3 q1
 go_wp2_with fail
 refine (laws_toSessionS.calls A2 c2 l2 ss _ (Kd.C_below HR2.out (below_set HB5.out HGE.out)) HC2.out H2.out).mono ?_
 rintro e w5 ⟨v2, rfl, ho2, hb5⟩
 have HO2 := Aside0.mk ho2
 have HB6 := Aside0.mk hb5
 have m2 := blk_below (blk_far (p := ⟨g3, 1, none⟩) KK2.out N23.out (.slice B1 ks.length d1)) hb5
 have m3 := blk_below (blk_put (cs' := #[.int .i64 a0, .slice B1 ks.length d1, .slice none 0 0]) KK3.out 1 (.slice B1 ks.length d1) rfl) hb5
 have M2 := Aside0.mk m2
 have M3 := Aside0.mk m3
 obtain ⟨B2, d2, e2⟩ := Kd.S_slice ho2
 subst e2
 have k30 : w5.cell? ⟨g3, 0, none⟩ = some (.int .i64 a0) := blk_cell m3 0
 have k31' : w5.cell? ⟨g3, 1, none⟩ = some (.slice B1 ks.length d1) := blk_cell m3 1
 have k32 : w5.cell? ⟨g3, 2, none⟩ = some (.slice none 0 0) := blk_cell m3 2
 have f32 := blk_frozen m3 2
 have k20 : w5.cell? ⟨g2, 0, none⟩ = some (.int .i64 0) := blk_cell m2 0
 have k21 : w5.cell? ⟨g2, 1, none⟩ = some (.slice none 0 0) := blk_cell m2 1
 have k22 : w5.cell? ⟨g2, 2, none⟩ = some (.slice none 0 0) := blk_cell m2 2
 have f20 := blk_frozen m2 0
 have f21 := blk_frozen m2 1
 have f22 := blk_frozen m2 2
 have n23 := N23.out
 have n32 : g3 ≠ g2 := fun e => N23.out e.symm
 clear ho2 hb5 m2 m3 k12 k31 f31
 go_wp2_with fail
 have L3 := blk_lt BK3.out
 have L2 := blk_lt K2.out
 have z4 : (w3.setCell ⟨g3, 0, none⟩ (.int .i64 a0)).heap.size = w3.heap.size := by simp [World.setCell]
 have z5 : (w4.setCell ⟨g3, 1, none⟩ (.slice B1 ks.length d1)).heap.size = w4.heap.size := by simp [World.setCell]
 have s34 : w3.heap.size ≤ w4.heap.size := by have := HB4.out.size; omega
 have s45 : w4.heap.size ≤ w5.heap.size := by have := HB6.out.size; omega
 have hw3 := HB0.out.size
 refine bodyPost_ret (results_cell_row rfl _ _ g2 48 #[.int .i64 a0, .slice B1 ks.length d1, .slice B2 ss.length d2] (0, 0) _ rfl (blk_put (cs := #[.int .i64 a0, .slice B1 ks.length d1, .slice none 0 0]) (blk_put (cs := #[.int .i64 a0, .slice none 0 0, .slice none 0 0]) (blk_put (cs := #[.int .i64 0, .slice none 0 0, .slice none 0 0]) (blk_far (p := ⟨g3, 2, none⟩) M2.out N23.out _) 0 _ rfl) 1 _ rfl) 2 _ rfl) Try.underlying48 rfl (by kernel_rfl)) rfl ?_
 have x1 := Kd.S_mono (ok' := fun k => w3.heap.size ≤ k ∧ k < w4.heap.size) (Kd.S_bound HO1.out) (fun k hk => ⟨by have := hk.2.1; omega, hk.2.2.1⟩)
 have x2 := Kd.S_below (Kd.S_far (p := ⟨g3, 1, none⟩) x1 (fun k hk => by show k ≠ g3; omega) (.slice B1 ks.length d1)) HB6.out
 have x3 := Kd.S_far (p := ⟨g2, 2, none⟩) (Kd.S_far (p := ⟨g2, 1, none⟩) (Kd.S_far (p := ⟨g2, 0, none⟩) (Kd.S_far (p := ⟨g3, 2, none⟩) x2 (fun k hk => by show k ≠ g3; omega) (.slice B2 ss.length d2)) (fun k hk => by show k ≠ g2; omega) (.int .i64 a0)) (fun k hk => by show k ≠ g2; omega) (.slice B1 ks.length d1)) (fun k hk => by show k ≠ g2; omega) (.slice B2 ss.length d2)
 have y1 := Kd.S_mono (ok' := fun k => w4.heap.size ≤ k ∧ k < w5.heap.size) (Kd.S_bound HO2.out) (fun k hk => ⟨by have := hk.2.1; omega, hk.2.2.1⟩)
 have y3 := Kd.S_far (p := ⟨g2, 2, none⟩) (Kd.S_far (p := ⟨g2, 1, none⟩) (Kd.S_far (p := ⟨g2, 0, none⟩) (Kd.S_far (p := ⟨g3, 2, none⟩) y1 (fun k hk => by show k ≠ g3; omega) (.slice B2 ss.length d2)) (fun k hk => by show k ≠ g2; omega) (.int .i64 a0)) (fun k hk => by show k ≠ g2; omega) (.slice B1 ks.length d1)) (fun k hk => by show k ≠ g2; omega) (.slice B2 ss.length d2)
 exact ⟨_, _, w4.heap.size, rfl, by omega, by simp [World.setCell]; exact s45, Kd.S_lower (Kd.S_mono x3 (fun k hk => ⟨by omega, hk.2⟩)) (by omega), Kd.S_lower (Kd.S_mono y3 (fun k hk => ⟨hk.1, by simp [World.setCell]; exact hk.2⟩)) (by omega), below_set (below_set (below_set (below_set (below_step (below_set HB5.out HGE.out) HB6.out) HGE.out) HGE2.out) HGE2.out) HGE2.out⟩
/-! ### end of what is BY HAND -/


/-! ### impl_Item_valid: function 44 -/
def impl_Item_valid.f (a0_0 : Int) (a0_1 : Int) (l0_2 : List Int) : Option (Bool) := if a0_0 ≥ 1 then (if a0_0 ≤ 50 then (if a0_1 ≥ 1 then (if a0_1 ≤ 1000000000 then (some (decide ((l0_2.length : Int) ≤ 64))) else (some false)) else (some false)) else (some false)) else (some false)
set_option maxHeartbeats 8000000 in
set_option maxRecDepth 100000 in
theorem impl_Item_valid.calls (a0_0 : Int) (a0_1 : Int) (A0_2 : Option Addr) (c0_2 : Nat) (l0_2 : List Int) (r : Bool) (w : World) (hr0_2 : Kd.C (Kd.int .u8) w A0_2 l0_2.length l0_2) (hc0_2 : l0_2.length ≤ c0_2) (h : impl_Item_valid.f a0_0 a0_1 l0_2 = some r) :
 Calls Try.prog 44 #[.agg #[.int .i64 a0_0, .int .i64 a0_1, .slice A0_2 l0_2.length c0_2]] w fun e w' => e = .returned (.bool r) ∧ Below w.heap.size w w' := by
 have hu24 := Try.underlying24
 have HR0_2 := Aside0.mk hr0_2
 have HC0_2 := Aside0.mk hc0_2
 clear hr0_2 hc0_2
 have HB := Aside0.mk (Below.refl w.heap.size w)
 have H : (if a0_0 ≥ 1 then (if a0_0 ≤ 50 then (if a0_1 ≥ 1 then (if a0_1 ≤ 1000000000 then (some (decide ((l0_2.length : Int) ≤ 64))) else (some false)) else (some false)) else (some false)) else (some false)) = some r := h
 clear h
 by_cases c2 : a0_0 ≥ 1
 ·rw [if_pos c2] at H
  have c2b0 : decide (1 ≤ a0_0) = true := decide_eq_true c2
  clear c2
  by_cases c3 : a0_0 ≤ 50
  ·rw [if_pos c3] at H
   have c3b0 : decide (a0_0 ≤ 50) = true := decide_eq_true c3
   clear c3
   by_cases c4 : a0_1 ≥ 1
   ·rw [if_pos c4] at H
    have c4b0 : decide (1 ≤ a0_1) = true := decide_eq_true c4
    clear c4
    by_cases c5 : a0_1 ≤ 1000000000
    ·rw [if_pos c5] at H
     have c5b0 : decide (a0_1 ≤ 1000000000) = true := decide_eq_true c5
     clear c5
     obtain rfl := Option.some.inj H
     go_enter Try.func44, Try.ntmps44
     go_wp2_with (first | ((with_reducible refine gate_dst (N := 1) rfl ?_); (try (refine gate_guard (by rfl) ?_; dsimp only)); refine box_event ?hg (N := 1) ?hd (cs := #[.int .i64 a0_0, .int .i64 a0_1, .slice A0_2 l0_2.length c0_2]) (t := 24) ?hr ?_; (case hd => rfl); (case hg => rfl); (case hr => first | (go_simp; done) | (go_simp; rfl)); intro gb173 hg w6 hbox hb; have n0_ := Aside0.mk (below_step (by repeat (first | (with_reducible first | exact HB.out | apply below_alloc | apply pw_below_drewN | apply below_drew1) | exact HB.out)) hb); have n1_ := Aside0.mk (hbox); have n2_ := Aside0.mk ((by rw [hg]; exact (below_size (by repeat (first | (with_reducible first | exact HB.out | apply below_alloc | apply pw_below_drewN | apply below_drew1) | exact HB.out))) : w.heap.size ≤ gb173)); have n3_ := Aside0.mk ((by rw [hg]; exact (below_size (by repeat (first | (with_reducible first | exact HB.out | apply below_alloc | apply pw_below_drewN | apply below_drew1) | exact HB.out))) : w.heap.size ≤ gb173)); clear HB; have HB := n0_; have BK173 := n1_; have GW173 := n2_; have GE173 := n3_; clear n0_ n1_ n2_ n3_; clear hb hbox hg; have hcz7_0 : w6.cell? ⟨gb173, 0, none⟩ = some (.int .i64 a0_0) := (blk_cell BK173.out 0).trans rfl; have hcz7_1 : w6.cell? ⟨gb173, 1, none⟩ = some (.int .i64 a0_1) := (blk_cell BK173.out 1).trans rfl; have hcz7_2 : w6.cell? ⟨gb173, 2, none⟩ = some (.slice A0_2 l0_2.length c0_2) := (blk_cell BK173.out 2).trans rfl; have hfz7_0 := blk_frozen BK173.out 0; have hfz7_1 := blk_frozen BK173.out 1; have hfz7_2 := blk_frozen BK173.out 2))
     go_ret
     exact ⟨by first | rfl | (simp [errW_none, errW_some] <;> rfl) | (simp [*, errW_none, errW_some] <;> rfl), by repeat (first | (with_reducible first | exact HB.out | apply below_alloc | apply pw_below_drewN | apply below_drew1 | refine below_set ?_ GE173.out) | exact HB.out)⟩
    ·rw [if_neg c5] at H
     have c5b0 : decide (a0_1 ≤ 1000000000) = false := decide_eq_false c5
     clear c5
     obtain rfl := Option.some.inj H
     go_enter Try.func44, Try.ntmps44
     go_wp2_with (first | ((with_reducible refine gate_dst (N := 1) rfl ?_); (try (refine gate_guard (by rfl) ?_; dsimp only)); refine box_event ?hg (N := 1) ?hd (cs := #[.int .i64 a0_0, .int .i64 a0_1, .slice A0_2 l0_2.length c0_2]) (t := 24) ?hr ?_; (case hd => rfl); (case hg => rfl); (case hr => first | (go_simp; done) | (go_simp; rfl)); intro gb173 hg w8 hbox hb; have n0_ := Aside0.mk (below_step (by repeat (first | (with_reducible first | exact HB.out | apply below_alloc | apply pw_below_drewN | apply below_drew1) | exact HB.out)) hb); have n1_ := Aside0.mk (hbox); have n2_ := Aside0.mk ((by rw [hg]; exact (below_size (by repeat (first | (with_reducible first | exact HB.out | apply below_alloc | apply pw_below_drewN | apply below_drew1) | exact HB.out))) : w.heap.size ≤ gb173)); have n3_ := Aside0.mk ((by rw [hg]; exact (below_size (by repeat (first | (with_reducible first | exact HB.out | apply below_alloc | apply pw_below_drewN | apply below_drew1) | exact HB.out))) : w.heap.size ≤ gb173)); clear HB; have HB := n0_; have BK173 := n1_; have GW173 := n2_; have GE173 := n3_; clear n0_ n1_ n2_ n3_; clear hb hbox hg; have hcz9_0 : w8.cell? ⟨gb173, 0, none⟩ = some (.int .i64 a0_0) := (blk_cell BK173.out 0).trans rfl; have hcz9_1 : w8.cell? ⟨gb173, 1, none⟩ = some (.int .i64 a0_1) := (blk_cell BK173.out 1).trans rfl; have hcz9_2 : w8.cell? ⟨gb173, 2, none⟩ = some (.slice A0_2 l0_2.length c0_2) := (blk_cell BK173.out 2).trans rfl; have hfz9_0 := blk_frozen BK173.out 0; have hfz9_1 := blk_frozen BK173.out 1; have hfz9_2 := blk_frozen BK173.out 2))
     go_ret
     exact ⟨by first | rfl | (simp [errW_none, errW_some] <;> rfl) | (simp [*, errW_none, errW_some] <;> rfl), by repeat (first | (with_reducible first | exact HB.out | apply below_alloc | apply pw_below_drewN | apply below_drew1 | refine below_set ?_ GE173.out) | exact HB.out)⟩
   ·rw [if_neg c4] at H
    have c4b0 : decide (1 ≤ a0_1) = false := decide_eq_false c4
    clear c4
    obtain rfl := Option.some.inj H
    go_enter Try.func44, Try.ntmps44
    go_wp2_with (first | ((with_reducible refine gate_dst (N := 1) rfl ?_); (try (refine gate_guard (by rfl) ?_; dsimp only)); refine box_event ?hg (N := 1) ?hd (cs := #[.int .i64 a0_0, .int .i64 a0_1, .slice A0_2 l0_2.length c0_2]) (t := 24) ?hr ?_; (case hd => rfl); (case hg => rfl); (case hr => first | (go_simp; done) | (go_simp; rfl)); intro gb173 hg w10 hbox hb; have n0_ := Aside0.mk (below_step (by repeat (first | (with_reducible first | exact HB.out | apply below_alloc | apply pw_below_drewN | apply below_drew1) | exact HB.out)) hb); have n1_ := Aside0.mk (hbox); have n2_ := Aside0.mk ((by rw [hg]; exact (below_size (by repeat (first | (with_reducible first | exact HB.out | apply below_alloc | apply pw_below_drewN | apply below_drew1) | exact HB.out))) : w.heap.size ≤ gb173)); have n3_ := Aside0.mk ((by rw [hg]; exact (below_size (by repeat (first | (with_reducible first | exact HB.out | apply below_alloc | apply pw_below_drewN | apply below_drew1) | exact HB.out))) : w.heap.size ≤ gb173)); clear HB; have HB := n0_; have BK173 := n1_; have GW173 := n2_; have GE173 := n3_; clear n0_ n1_ n2_ n3_; clear hb hbox hg; have hcz11_0 : w10.cell? ⟨gb173, 0, none⟩ = some (.int .i64 a0_0) := (blk_cell BK173.out 0).trans rfl; have hcz11_1 : w10.cell? ⟨gb173, 1, none⟩ = some (.int .i64 a0_1) := (blk_cell BK173.out 1).trans rfl; have hcz11_2 : w10.cell? ⟨gb173, 2, none⟩ = some (.slice A0_2 l0_2.length c0_2) := (blk_cell BK173.out 2).trans rfl; have hfz11_0 := blk_frozen BK173.out 0; have hfz11_1 := blk_frozen BK173.out 1; have hfz11_2 := blk_frozen BK173.out 2))
    go_ret
    exact ⟨by first | rfl | (simp [errW_none, errW_some] <;> rfl) | (simp [*, errW_none, errW_some] <;> rfl), by repeat (first | (with_reducible first | exact HB.out | apply below_alloc | apply pw_below_drewN | apply below_drew1 | refine below_set ?_ GE173.out) | exact HB.out)⟩
  ·rw [if_neg c3] at H
   have c3b0 : decide (a0_0 ≤ 50) = false := decide_eq_false c3
   clear c3
   obtain rfl := Option.some.inj H
   go_enter Try.func44, Try.ntmps44
   go_wp2_with (first | ((with_reducible refine gate_dst (N := 1) rfl ?_); (try (refine gate_guard (by rfl) ?_; dsimp only)); refine box_event ?hg (N := 1) ?hd (cs := #[.int .i64 a0_0, .int .i64 a0_1, .slice A0_2 l0_2.length c0_2]) (t := 24) ?hr ?_; (case hd => rfl); (case hg => rfl); (case hr => first | (go_simp; done) | (go_simp; rfl)); intro gb173 hg w12 hbox hb; have n0_ := Aside0.mk (below_step (by repeat (first | (with_reducible first | exact HB.out | apply below_alloc | apply pw_below_drewN | apply below_drew1) | exact HB.out)) hb); have n1_ := Aside0.mk (hbox); have n2_ := Aside0.mk ((by rw [hg]; exact (below_size (by repeat (first | (with_reducible first | exact HB.out | apply below_alloc | apply pw_below_drewN | apply below_drew1) | exact HB.out))) : w.heap.size ≤ gb173)); have n3_ := Aside0.mk ((by rw [hg]; exact (below_size (by repeat (first | (with_reducible first | exact HB.out | apply below_alloc | apply pw_below_drewN | apply below_drew1) | exact HB.out))) : w.heap.size ≤ gb173)); clear HB; have HB := n0_; have BK173 := n1_; have GW173 := n2_; have GE173 := n3_; clear n0_ n1_ n2_ n3_; clear hb hbox hg; have hcz13_0 : w12.cell? ⟨gb173, 0, none⟩ = some (.int .i64 a0_0) := (blk_cell BK173.out 0).trans rfl; have hcz13_1 : w12.cell? ⟨gb173, 1, none⟩ = some (.int .i64 a0_1) := (blk_cell BK173.out 1).trans rfl; have hcz13_2 : w12.cell? ⟨gb173, 2, none⟩ = some (.slice A0_2 l0_2.length c0_2) := (blk_cell BK173.out 2).trans rfl; have hfz13_0 := blk_frozen BK173.out 0; have hfz13_1 := blk_frozen BK173.out 1; have hfz13_2 := blk_frozen BK173.out 2))
   go_ret
   exact ⟨by first | rfl | (simp [errW_none, errW_some] <;> rfl) | (simp [*, errW_none, errW_some] <;> rfl), by repeat (first | (with_reducible first | exact HB.out | apply below_alloc | apply pw_below_drewN | apply below_drew1 | refine below_set ?_ GE173.out) | exact HB.out)⟩
 ·rw [if_neg c2] at H
  have c2b0 : decide (1 ≤ a0_0) = false := decide_eq_false c2
  clear c2
  obtain rfl := Option.some.inj H
  go_enter Try.func44, Try.ntmps44
  go_wp2_with (first | ((with_reducible refine gate_dst (N := 1) rfl ?_); (try (refine gate_guard (by rfl) ?_; dsimp only)); refine box_event ?hg (N := 1) ?hd (cs := #[.int .i64 a0_0, .int .i64 a0_1, .slice A0_2 l0_2.length c0_2]) (t := 24) ?hr ?_; (case hd => rfl); (case hg => rfl); (case hr => first | (go_simp; done) | (go_simp; rfl)); intro gb173 hg w14 hbox hb; have n0_ := Aside0.mk (below_step (by repeat (first | (with_reducible first | exact HB.out | apply below_alloc | apply pw_below_drewN | apply below_drew1) | exact HB.out)) hb); have n1_ := Aside0.mk (hbox); have n2_ := Aside0.mk ((by rw [hg]; exact (below_size (by repeat (first | (with_reducible first | exact HB.out | apply below_alloc | apply pw_below_drewN | apply below_drew1) | exact HB.out))) : w.heap.size ≤ gb173)); have n3_ := Aside0.mk ((by rw [hg]; exact (below_size (by repeat (first | (with_reducible first | exact HB.out | apply below_alloc | apply pw_below_drewN | apply below_drew1) | exact HB.out))) : w.heap.size ≤ gb173)); clear HB; have HB := n0_; have BK173 := n1_; have GW173 := n2_; have GE173 := n3_; clear n0_ n1_ n2_ n3_; clear hb hbox hg; have hcz15_0 : w14.cell? ⟨gb173, 0, none⟩ = some (.int .i64 a0_0) := (blk_cell BK173.out 0).trans rfl; have hcz15_1 : w14.cell? ⟨gb173, 1, none⟩ = some (.int .i64 a0_1) := (blk_cell BK173.out 1).trans rfl; have hcz15_2 : w14.cell? ⟨gb173, 2, none⟩ = some (.slice A0_2 l0_2.length c0_2) := (blk_cell BK173.out 2).trans rfl; have hfz15_0 := blk_frozen BK173.out 0; have hfz15_1 := blk_frozen BK173.out 1; have hfz15_2 := blk_frozen BK173.out 2))
  go_ret
  exact ⟨by first | rfl | (simp [errW_none, errW_some] <;> rfl) | (simp [*, errW_none, errW_some] <;> rfl), by repeat (first | (with_reducible first | exact HB.out | apply below_alloc | apply pw_below_drewN | apply below_drew1 | refine below_set ?_ GE173.out) | exact HB.out)⟩

-- NOT PRINTED: function 83 (impl_Item_83)

/-! ### impl_Item_72: function 72 · BY HAND -/
/-- Is one of the items not valid? -/
def badItem (x : S24) : Bool := impl_Item_valid.f x.f0 x.f1 x.f2 == some false
def impl_Item_72.f (l0 : List S24) (a1 : Int) : Option Bool := some (l0.any badItem)
theorem item_told (a b : Int) (l : List Int) : ∃ v, impl_Item_valid.f a b l = some v := by
 unfold impl_Item_valid.f
 split
 ·split
  ·split
   ·split
    ·exact ⟨_, rfl⟩
    ·exact ⟨_, rfl⟩
   ·exact ⟨_, rfl⟩
  ·exact ⟨_, rfl⟩
 ·exact ⟨_, rfl⟩
theorem bad_not (x : S24) (v : Bool) (h : impl_Item_valid.f x.f0 x.f1 x.f2 = some v) : badItem x = !v := by
 unfold badItem
 rw [h]
 cases v <;> rfl
set_option maxHeartbeats 8000000 in
set_option maxRecDepth 100000 in
theorem badItem.calls (a b : Int) (A : Option Addr) (c : Nat) (l : List Int) (v : Bool) (w : World) (hr : Kd.C (Kd.int .u8) w A l.length l) (hc : l.length ≤ c) (h : impl_Item_valid.f a b l = some v) :
 Calls Try.prog 73 #[.agg #[.int .i64 a, .int .i64 b, .slice A l.length c]] w fun e w' => e = .returned (.bool (!v)) ∧ Below w.heap.size w w' := by
 have hu := Try.underlying24
 have HR := Aside0.mk hr
 have HC := Aside0.mk hc
 have HH := Aside0.mk h
 clear hr hc h
 go_enter Try.func73, Try.ntmps73
 go_wp2_with (go_at_call 44; refine (impl_Item_valid.calls a b A c l v _ (Kd.C_alloc HR.out _) HC.out HH.out).mono ?_; rintro e w1 ⟨rfl, hb⟩; have HB := Aside0.mk hb; clear hb)
 go_ret
 exact ⟨rfl, Below.trans (below_alloc (Below.refl _ _) _) (HB.out.mono (by simp))⟩
def FoundItem (l : List S24) (w : World) (e : Ending) (w' : World) : Prop := ∃ j : Int, e = .returned (.int .i64 j) ∧ decide (0 ≤ j) = l.any badItem ∧ Below w.heap.size w w'
theorem any_hit (l : List S24) (i : Nat) (h : i < l.length) (hb : badItem (rd_T24 l i) = true) : l.any badItem = true := by
 rw [List.any_eq_true]
 refine ⟨l[i], List.getElem_mem h, ?_⟩
 have e : rd_T24 l i = l[i] := by simp [rd_T24, List.getD, h]
 rw [← e]; exact hb
theorem any_none (l : List S24) (h : ∀ i, i < l.length → badItem (rd_T24 l (i : Nat)) = false) : l.any badItem = false := by
 rw [List.any_eq_false]
 intro x hx
 obtain ⟨i, hi, rfl⟩ := List.getElem_of_mem hx
 have := h i hi
 have e : rd_T24 l i = l[i] := by simp [rd_T24, List.getD, hi]
 rw [← e, this]; simp
set_option maxHeartbeats 8000000 in
set_option maxRecDepth 100000 in
theorem indexItem.calls (A : Option Addr) (c : Nat) (l : List S24) (w : World) (hr : Kd.C k24 w A l.length l) :
 Calls Try.prog 83 #[.slice A l.length c, .func (.func 73) #[] #[]] w (FoundItem l w) := by
 have hu := Try.underlying24
 have HR := Aside0.mk hr
 have HMX := Aside0.mk hr.2.1
 clear hr
 go_enter Try.func83, Try.ntmps83
 go_wp2
 go_loopg [5, 8] l.length (fun gk v5 v8 w' => ∃ (i : Nat) (u : Value), v5 = u ∧ v8 = .int .i64 (i : Nat) ∧ Aside0 (gk + i = l.length) ∧ Aside0 (∀ j, j < i → badItem (rd_T24 l (j : Nat)) = false) ∧ Aside0 (Below w.heap.size w w'))
 case atStart => exact ⟨0, _, rfl, rfl, ⟨by omega⟩, ⟨fun j hj => by omega⟩, ⟨Below.refl _ _⟩⟩
 case round =>
  obtain ⟨i, u, rfl, rfl, HG, HN, HB⟩ := hrel
  by_cases hlt : i < l.length
  ·obtain ⟨k1, hk1⟩ : ∃ m, gk = m + 1 := ⟨gk - 1, by have := HG.out; omega⟩
   subst hk1
   obtain ⟨ad, A2, c2, ha, hx0, hx1, hx2, hl2, hC⟩ := at_T24 HR.out (i : Int) (by omega) (by omega)
   cases ha
   obtain ⟨x, hx⟩ : ∃ x, x = rd_T24 l (i : Int) := ⟨_, rfl⟩
   rw [← hx] at hx0 hx1 hx2 hl2 hC
   rw [Int.toNat_natCast] at hx0 hx1 hx2
   replace hx0 := (HB.out.cell (World.block_lt_of_cell? w _ hx0)).trans hx0
   replace hx1 := (HB.out.cell (World.block_lt_of_cell? w _ hx1)).trans hx1
   replace hx2 := (HB.out.cell (World.block_lt_of_cell? w _ hx2)).trans hx2
   have HX := Aside0.mk hx
   have HL2 := Aside0.mk hl2
   have HC := Aside0.mk (Kd.C_below hC HB.out)
   have hmx : (i : Int) < 9223372036854775807 := by have := HMX.out; omega
   clear hx hl2 hC
   obtain ⟨v, hv⟩ := item_told x.f0 x.f1 x.f2
   have HV := Aside0.mk hv
   clear hv
   cases v with
   | true =>
    go_wp2_with (go_at_call 73; refine (badItem.calls x.f0 x.f1 A2 c2 x.f2 true _ HC.out HL2.out HV.out).mono ?_; rintro e w1 ⟨rfl, hb⟩; have HB2 := Aside0.mk hb; clear hb)
    go_roundg k1
    case measure => omega
    case rel => exact ⟨i + 1, _, rfl, by go_num, ⟨by have := HG.out; omega⟩, ⟨fun j hj => by
     by_cases e : j = i
     ·rw [e, ← HX.out]; exact bad_not x true HV.out
     ·exact HN.out j (by omega)⟩, ⟨below_step HB.out HB2.out⟩⟩
   | false =>
    go_wp2_with (go_at_call 73; refine (badItem.calls x.f0 x.f1 A2 c2 x.f2 false _ HC.out HL2.out HV.out).mono ?_; rintro e w1 ⟨rfl, hb⟩; have HB2 := Aside0.mk hb; clear hb)
    go_ret
    refine ⟨(i : Int), rfl, ?_, below_step HB.out HB2.out⟩
    rw [decide_eq_true (by omega), any_hit l i hlt (by rw [← HX.out]; exact bad_not x false HV.out)]
  ·have hfin := any_none l (fun j hj => HN.out j (by have := HG.out; omega))
   have HF := Aside0.mk hfin
   have tlt : decide (i < l.length) = false := decide_eq_false hlt
   clear hfin hlt
   go_wp2
   go_ret
   exact ⟨-1, rfl, by rw [HF.out]; rfl, HB.out⟩
set_option maxHeartbeats 8000000 in
set_option maxRecDepth 100000 in
theorem impl_Item_72.calls (A0 : Option Addr) (c0 : Nat) (l0 : List S24) (a1 : Int) (r : Bool) (w : World) (hr0 : Kd.C k24 w A0 l0.length l0) (_hc0 : l0.length ≤ c0) (h : impl_Item_72.f l0 a1 = some r) :
 Calls Try.prog 72 #[.slice A0 l0.length c0, .func (.func 73) #[] #[]] w fun e w' => e = .returned (.bool r) ∧ Below w.heap.size w w' := by
 obtain rfl := Option.some.inj h
 have HR := Aside0.mk hr0
 clear hr0 h
 go_enter Try.func72, Try.ntmps72
 go_wp2_with (go_at_call 83; refine (indexItem.calls A0 c0 l0 _ HR.out).mono ?_; rintro e w1 ⟨j, rfl, hj, hb⟩; have HB := Aside0.mk hb; clear hb)
 go_ret
 exact ⟨rfl, HB.out⟩
/-! ### end of what is BY HAND -/


/-! ### impl_Service_count: function 74 -/
def impl_Service_count.f (a0_0 : Int) (l0_1 : List (S24)) (l0_2 : List (S74)) : Option (Int) := some (wrap64 (a0_0 + (l0_1.length : Int)))
set_option maxHeartbeats 8000000 in
set_option maxRecDepth 100000 in
theorem impl_Service_count.calls (a0_0 : Int) (A0_1 : Option Addr) (c0_1 : Nat) (l0_1 : List (S24)) (A0_2 : Option Addr) (c0_2 : Nat) (l0_2 : List (S74)) (r : Int) (w : World) (hr0_1 : Kd.C k24 w A0_1 l0_1.length l0_1) (hc0_1 : l0_1.length ≤ c0_1) (hr0_2 : Kd.C k74 w A0_2 l0_2.length l0_2) (hc0_2 : l0_2.length ≤ c0_2) (h : impl_Service_count.f a0_0 l0_1 l0_2 = some r) :
 Calls Try.prog 74 #[.agg #[.int .i64 a0_0, .slice A0_1 l0_1.length c0_1, .slice A0_2 l0_2.length c0_2]] w fun e w' => e = .returned (.int .i64 r) ∧ Below w.heap.size w w' := by
 have hu48 := Try.underlying48
 have HR0_1 := Aside0.mk hr0_1
 have HC0_1 := Aside0.mk hc0_1
 clear hr0_1 hc0_1
 have HR0_2 := Aside0.mk hr0_2
 have HC0_2 := Aside0.mk hc0_2
 clear hr0_2 hc0_2
 have HB := Aside0.mk (Below.refl w.heap.size w)
 have H : (some (wrap64 (a0_0 + (l0_1.length : Int)))) = some r := h
 clear h
 obtain rfl := Option.some.inj H
 go_enter Try.func74, Try.ntmps74
 go_wp2_with (first | ((with_reducible refine gate_dst (N := 1) rfl ?_); refine box_event ?hg (N := 1) ?hd (cs := #[.int .i64 a0_0, .slice A0_1 l0_1.length c0_1, .slice A0_2 l0_2.length c0_2]) (t := 48) ?hr ?_; (case hd => rfl); (case hg => rfl); (case hr => first | (go_simp; done) | (go_simp; rfl)); intro gb174 hg w2 hbox hb; have n0_ := Aside0.mk (below_step (by repeat (first | (with_reducible first | exact HB.out | apply below_alloc | apply pw_below_drewN | apply below_drew1) | exact HB.out)) hb); have n1_ := Aside0.mk (hbox); have n2_ := Aside0.mk ((by rw [hg]; exact (below_size (by repeat (first | (with_reducible first | exact HB.out | apply below_alloc | apply pw_below_drewN | apply below_drew1) | exact HB.out))) : w.heap.size ≤ gb174)); have n3_ := Aside0.mk ((by rw [hg]; exact (below_size (by repeat (first | (with_reducible first | exact HB.out | apply below_alloc | apply pw_below_drewN | apply below_drew1) | exact HB.out))) : w.heap.size ≤ gb174)); clear HB; have HB := n0_; have BK174 := n1_; have GW174 := n2_; have GE174 := n3_; clear n0_ n1_ n2_ n3_; clear hb hbox hg; have hcz3_0 : w2.cell? ⟨gb174, 0, none⟩ = some (.int .i64 a0_0) := (blk_cell BK174.out 0).trans rfl; have hcz3_1 : w2.cell? ⟨gb174, 1, none⟩ = some (.slice A0_1 l0_1.length c0_1) := (blk_cell BK174.out 1).trans rfl; have hcz3_2 : w2.cell? ⟨gb174, 2, none⟩ = some (.slice A0_2 l0_2.length c0_2) := (blk_cell BK174.out 2).trans rfl; have hfz3_0 := blk_frozen BK174.out 0; have hfz3_1 := blk_frozen BK174.out 1; have hfz3_2 := blk_frozen BK174.out 2))
 go_ret
 exact ⟨by first | rfl | (simp [errW_none, errW_some] <;> rfl) | (simp [*, errW_none, errW_some] <;> rfl), by repeat (first | (with_reducible first | exact HB.out | apply below_alloc | apply pw_below_drewN | apply below_drew1 | refine below_set ?_ GE174.out) | exact HB.out)⟩

end Go.Proofs.Ytladodfapnigfaa.XFnExactEncodeState
