/- Contracts of the functions that FnExactDecodeState comes to, each proved over the translation. Written by this session's program xprint.py; the parts between 'BY HAND' rows are typed by hand. Conditions: each theorem's own hypotheses. -/
import Derived.Test.YtladodfapnigfaaXFnExactDecodeStatex0
import Derived.Test.YtladodfapnigfaaXFnExactDecodeStatex1
import Derived.Test.YtladodfapnigfaaXFnExactDecodeStatex2
import Derived.Test.YtladodfapnigfaaXFnExactDecodeStatex3
import Derived.Test.YtladodfapnigfaaXFnExactDecodeStatex6
import Derived.Test.YtladodfapnigfaaXFnExactDecodeStatex8
import Derived.Test.YtladodfapnigfaaXFnExactDecodeStatex9
import Derived.Test.YtladodfapnigfaaXFnExactDecodeStatex10
namespace Go.Proofs.Ytladodfapnigfaa.XFnExactDecodeState
open Go.RowKit Go.Proofs.YtladodfapnigfaaW.PrintWords Go.Proofs.YtladodfapnigfaaW.PrintLast Go.Proofs.YtladodfapnigfaaW.PrintMore
attribute [local go_sem] max2_int min2_int max_two min_two max_three min_three max_four min_four   -- for this text's walks alone
set_option linter.unusedVariables false
set_option linter.unusedSimpArgs false

/-! ### laws_FnExactDecodeState: function 6 · BY HAND -/
def XsAt (w : World) (a b : Nat) (v : Value) (z : List Int) (W : World) : Prop := w.heap.size ≤ a ∧ b ≤ W.heap.size ∧ Kd.R (Kd.int .u8) 5 W w.heap.size (fun k => a ≤ k ∧ k < b) v z
theorem XsAt.below {w : World} {a b : Nat} {v : Value} {z : List Int} {W W' : World} (h : XsAt w a b v z W) (hb : Below W.heap.size W W') : XsAt w a b v z W' := ⟨h.1, Nat.le_trans h.2.1 hb.size, Kd.R_below h.2.2 hb⟩
theorem XsAt.new {w W W' : World} {v : Value} {z : List Int} (hw : w.heap.size ≤ W.heap.size) (h : Kd.R (Kd.int .u8) 5 W' W.heap.size (fun _ => True) v z) : XsAt w W.heap.size W'.heap.size v z W' :=
 ⟨hw, Nat.le_refl _, Kd.R_lower (Kd.R_mono (Kd.R_bound h) (fun k hk => ⟨hk.2.1, hk.2.2.1⟩)) hw⟩
def SvAt (w : World) (a b : Nat) (v1 v2 : Value) (ss : List S74) (W : World) : Prop :=
 w.heap.size ≤ a ∧ b ≤ W.heap.size ∧ Kd.S k24 24 W w.heap.size (fun k => a ≤ k ∧ k < b) v1 [] ∧ Kd.S k74 74 W w.heap.size (fun k => a ≤ k ∧ k < b) v2 ss
theorem SvAt.below {w : World} {a b : Nat} {v1 v2 : Value} {ss : List S74} {W W' : World} (h : SvAt w a b v1 v2 ss W) (hb : Below W.heap.size W W') : SvAt w a b v1 v2 ss W' :=
 ⟨h.1, Nat.le_trans h.2.1 hb.size, Kd.S_below h.2.2.1 hb, Kd.S_below h.2.2.2 hb⟩
theorem SvAt.kept {w : World} {a b : Nat} {v1 v2 : Value} {ss : List S74} {W W' : World} {S : Nat → Prop} (h : SvAt w a b v1 v2 ss W) (hk : Kept W W' S) (hs : ∀ k, a ≤ k → k < b → ¬ S k) : SvAt w a b v1 v2 ss W' :=
 ⟨h.1, Nat.le_trans h.2.1 hk.1, Kd.S_kept h.2.2.1 hk (fun k hk => hs k hk.1 hk.2), Kd.S_kept h.2.2.2 hk (fun k hk => hs k hk.1 hk.2)⟩
theorem SvAt.new {w W W' : World} {v1 v2 : Value} {ss : List S74} (hw : w.heap.size ≤ W.heap.size)
 (h1 : Kd.S k24 24 W' W.heap.size (fun _ => True) v1 []) (h2 : Kd.S k74 74 W' W.heap.size (fun _ => True) v2 ss) : SvAt w W.heap.size W'.heap.size v1 v2 ss W' :=
 ⟨hw, Nat.le_refl _, Kd.S_lower (Kd.S_mono (Kd.S_bound h1) (fun k hk => ⟨hk.2.1, hk.2.2.1⟩)) hw, Kd.S_lower (Kd.S_mono (Kd.S_bound h2) (fun k hk => ⟨hk.2.1, hk.2.2.1⟩)) hw⟩
/-- What the pure side tells of the calls. -/
structure DsPure (k : Nat) (l0 : List Int) (valid : Bool) (r1 : Int) (r3 : List S74) (r4 : Int) (z2 : List Int) : Prop where
 small : l0.length ≤ 1048576
 good : Go.Proofs.Ytladodfapnigfaa.Num.Bytes l0
 cp : laws_toByteS.f k l0 = some l0
 sp : spec_DecodeState.f k l0 = some (r1, [], r3, r4)
 va : impl_Service_valid.f k (dsBase l0).1 [] (dsRun l0).2.2 = some valid
 im : dsTell l0 valid = (r1, r3, r4)
 eqb : laws_eqByteS.f k l0 l0 = some true
 eqs : laws_eqService.f k r1 [] r3 r1 [] r3 = some true
 mark : laws_markByteS.f k l0 1 = some ((1 : Int) + (l0.length : Int), z2)
 tot : (1 : Int) + (sessTot r3 : Int) ≤ 281474976710656
 len : r3.length ≤ 281474976710656
 held : ∀ m2, MarkedSess 1 r3 r3.length m2 → laws_heldService.f k r1 [] m2 1 = some ((1 : Int) + (sessTot r3 : Int))
set_option maxHeartbeats 8000000 in
set_option maxRecDepth 100000 in
theorem lawDecodeState.calls (k : Nat) (A0 : Option Addr) (c0 : Nat) (l0 : List Int) (valid : Bool) (r1 : Int) (r3 : List S74) (r4 : Int) (z2 : List Int) (w : World) (hr0 : Kd.C (Kd.int .u8) w A0 l0.length l0) (hc0 : l0.length ≤ c0) (hp : DsPure k l0 valid r1 r3 r4 z2) :
 Calls Try.prog 6 #[.slice A0 l0.length c0] w fun e w' => e = .returned (.bool true) ∧ Below w.heap.size w w' := by
 have hu1 := Try.underlying48
 have HR0 := Aside0.mk hr0
 have HC0 := Aside0.mk hc0
 have HP := Aside0.mk hp
 have HGd := Aside0.mk (show Good l0 from ⟨hp.good, by have := hp.small; omega⟩)
 have tbig : decide ((1048576 : Int) < (l0.length : Int)) = false := decide_eq_false (by have := hp.small; omega)
 have tbig2 : decide (1048576 < l0.length) = false := decide_eq_false (by have := hp.small; omega)
 clear hr0 hc0 hp
 go_enter Try.func6, Try.ntmps6
 go_wp2_with fail
 clear tbig tbig2
 refine (laws_toByteS.calls k A0 c0 l0 l0 _ HR0.out HC0.out HP.out.cp).mono ?_
 rintro e w1 ⟨v1, rfl, hr, hb⟩
 obtain ⟨A1, c1, e1, hc1, hC1⟩ := Kd.R_reads hr
 subst e1
 have HX := Aside0.mk (And.intro hC1 hc1)
 have HB := Aside0.mk hb
 clear hr hb hc1 hC1
 go_wp2_with fail
 refine (spec_DecodeState.calls k A1 c1 l0 r1 [] r3 r4 _ HX.out.1 HX.out.2 HP.out.sp).mono ?_
 rintro e w2 ⟨u1, u2, rfl, hs1, hs2, hb⟩
 have HS3 := Aside0.mk (SvAt.new HB.out.size hs1 hs2)
 have HB2 := Aside0.mk (below_step HB.out hb)
 obtain ⟨E1, d1, e1⟩ := Kd.S_slice hs1
 obtain ⟨E2, d2, e2⟩ := Kd.S_slice hs2
 subst e1 e2
 clear HX HB hs1 hs2 hb
 go_wp2_with fail
 obtain ⟨g3, hg⟩ : ∃ g, g = w2.heap.size := ⟨_, rfl⟩
 have b : (w2.alloc (Obj.cells #[.int .i64 r1, .slice E1 0 d1, .slice E2 r3.length d2] 48)).heap[g3]? = some (.cells #[.int .i64 r1, .slice E1 0 d1, .slice E2 r3.length d2] 48 (0, 0)) := by rw [hg]; exact blk_new _ _
 have hb : Below w2.heap.size w2 (w2.alloc (Obj.cells #[.int .i64 r1, .slice E1 0 d1, .slice E2 r3.length d2] 48)) := below_alloc (Below.refl _ _) _
 rw [← hg]
 obtain ⟨w3, hw⟩ : ∃ W, W = (w2.alloc (Obj.cells #[.int .i64 r1, .slice E1 0 d1, .slice E2 r3.length d2] 48)) := ⟨_, rfl⟩
 rw [← hw] at b hb ⊢
 have HLT := Aside0.mk (show w2.heap.size ≤ w3.heap.size ∧ g3 < w3.heap.size from ⟨hb.size, blk_lt b⟩)
 have HS3n := Aside0.mk (HS3.out.below hb)
 have HB := Aside0.mk (below_step HB2.out hb)
 have BK3 := Aside0.mk b
 clear HS3 HB2 b hb hg hw
 have HS3 := HS3n
 clear HS3n
 refine (laws_toByteS.calls k A0 c0 l0 l0 _ (Kd.C_below HR0.out HB.out) HC0.out HP.out.cp).mono ?_
 rintro e w4 ⟨v1, rfl, hr, hb⟩
 have HXS := Aside0.mk (XsAt.new HB.out.size hr)
 have HW34 := Aside0.mk (show w3.heap.size ≤ w4.heap.size from hb.size)
 obtain ⟨Ax, cx, e1⟩ := Kd.R_slice hr
 subst e1
 clear hr
 have n_HS3 := Aside0.mk (HS3.out.below hb)
 have n_BK3 := Aside0.mk (blk_below BK3.out hb)
 have n_HB := Aside0.mk (below_step HB.out hb)
 clear hb HS3 BK3 HB
 have HS3 := n_HS3
 have BK3 := n_BK3
 have HB := n_HB
 clear n_HS3 n_BK3 n_HB
 go_wp2_with fail
 refine (decodeState.calls k Ax cx l0 _ (Kd.R_reads' HXS.out.2.2).2.2 (Kd.R_reads' HXS.out.2.2).2.1 HGd.out valid HP.out.va).mono ?_
 intro e w5 ht
 rw [HP.out.im] at ht
 obtain ⟨u3, rfl, hs, hb⟩ := ht
 have HS6 := Aside0.mk (SvAt.new HB.out.size (Kd.S_nil _ _ _ _ _) hs)
 have HL4 := Aside0.mk (show w4.heap.size ≤ w5.heap.size from hb.size)
 obtain ⟨E3, d3, e3⟩ := Kd.S_slice hs
 subst e3
 clear hs
 have n_HS3 := Aside0.mk (HS3.out.below hb)
 have n_BK3 := Aside0.mk (blk_below BK3.out hb)
 have n_HXS := Aside0.mk (HXS.out.below hb)
 have n_HB := Aside0.mk (below_step HB.out hb)
 clear hb HS3 BK3 HXS HB
 have HS3 := n_HS3
 have BK3 := n_BK3
 have HXS := n_HXS
 have HB := n_HB
 clear n_HS3 n_BK3 n_HXS n_HB
 go_upto_region 6 with fail
 obtain ⟨g6, hg⟩ : ∃ g, g = w5.heap.size := ⟨_, rfl⟩
 have b : (w5.alloc (Obj.cells #[.int .i64 r1, .slice none 0 0, .slice E3 r3.length d3] 48)).heap[g6]? = some (.cells #[.int .i64 r1, .slice none 0 0, .slice E3 r3.length d3] 48 (0, 0)) := by rw [hg]; exact blk_new _ _
 have hb : Below w5.heap.size w5 (w5.alloc (Obj.cells #[.int .i64 r1, .slice none 0 0, .slice E3 r3.length d3] 48)) := below_alloc (Below.refl _ _) _
 rw [← hg]
 obtain ⟨w6, hw⟩ : ∃ W, W = (w5.alloc (Obj.cells #[.int .i64 r1, .slice none 0 0, .slice E3 r3.length d3] 48)) := ⟨_, rfl⟩
 rw [← hw] at b hb ⊢
 have HLT6 := Aside0.mk (show w5.heap.size ≤ g6 from by rw [hg]; exact Nat.le_refl _)
 have BK6 := Aside0.mk b
 clear hg hw b
 have n_HS3 := Aside0.mk (HS3.out.below hb)
 have n_BK3 := Aside0.mk (blk_below BK3.out hb)
 have n_HXS := Aside0.mk (HXS.out.below hb)
 have n_HS6 := Aside0.mk (HS6.out.below hb)
 have n_HB := Aside0.mk (below_step HB.out hb)
 clear hb HS3 BK3 HXS HS6 HB
 have HS3 := n_HS3
 have BK3 := n_BK3
 have HXS := n_HXS
 have HS6 := n_HS6
 have HB := n_HB
 clear n_HS3 n_BK3 n_HXS n_HS6 n_HB
 have k30 := blk_cell BK3.out 0
 have k31 := blk_cell BK3.out 1
 have k32 := blk_cell BK3.out 2
 have k60 := blk_cell BK6.out 0
 have k61 := blk_cell BK6.out 1
 have k62 := blk_cell BK6.out 2
 go_wp2_with fail
 refine (laws_eqService.calls k r1 none 0 [] E3 d3 r3 r1 E1 d1 [] E2 d2 r3 true _ (Kd.C_nil _ _) (Nat.le_refl _) (Kd.S_reads' HS6.out.2.2.2).2.2 (Kd.S_reads' HS6.out.2.2.2).2.1 (Kd.S_reads' HS3.out.2.2.1).2.2 (Kd.S_reads' HS3.out.2.2.1).2.1 (Kd.S_reads' HS3.out.2.2.2).2.2 (Kd.S_reads' HS3.out.2.2.2).2.1 HP.out.eqs).mono ?_
 rintro e w7 ⟨rfl, hb⟩
 clear k30 k31 k32
 clear k60 k61 k62
 have n_HS3 := Aside0.mk (HS3.out.below hb)
 have n_BK3 := Aside0.mk (blk_below BK3.out hb)
 have n_BK6 := Aside0.mk (blk_below BK6.out hb)
 have n_HXS := Aside0.mk (HXS.out.below hb)
 have n_HS6 := Aside0.mk (HS6.out.below hb)
 have n_HB := Aside0.mk (below_step HB.out hb)
 clear hb HS3 BK3 BK6 HXS HS6 HB
 have HS3 := n_HS3
 have BK3 := n_BK3
 have BK6 := n_BK6
 have HXS := n_HXS
 have HS6 := n_HS6
 have HB := n_HB
 clear n_HS3 n_BK3 n_BK6 n_HXS n_HS6 n_HB
 go_wp2_with fail
 refine (laws_toByteS.calls k A0 c0 l0 l0 _ (Kd.C_below HR0.out HB.out) HC0.out HP.out.cp).mono ?_
 rintro e w8 ⟨v1, rfl, hr, hb⟩
 obtain ⟨Ay, cy, e1, hcy, hCy⟩ := Kd.R_reads hr
 subst e1
 have HY := Aside0.mk (And.intro hCy hcy)
 clear hr hcy hCy
 have n_HS3 := Aside0.mk (HS3.out.below hb)
 have n_BK3 := Aside0.mk (blk_below BK3.out hb)
 have n_BK6 := Aside0.mk (blk_below BK6.out hb)
 have n_HXS := Aside0.mk (HXS.out.below hb)
 have n_HS6 := Aside0.mk (HS6.out.below hb)
 have n_HB := Aside0.mk (below_step HB.out hb)
 clear hb HS3 BK3 BK6 HXS HS6 HB
 have HS3 := n_HS3
 have BK3 := n_BK3
 have BK6 := n_BK6
 have HXS := n_HXS
 have HS6 := n_HS6
 have HB := n_HB
 clear n_HS3 n_BK3 n_BK6 n_HXS n_HS6 n_HB
 go_wp2_with fail
 refine (laws_eqByteS.calls k Ax cx l0 Ay cy l0 true _ (Kd.R_reads' HXS.out.2.2).2.2 (Kd.R_reads' HXS.out.2.2).2.1 HY.out.1 HY.out.2 HP.out.eqb).mono ?_
 rintro e w9 ⟨rfl, hd⟩
 have hb := hd.below
 clear hd HY
 have n_HS3 := Aside0.mk (HS3.out.below hb)
 have n_BK3 := Aside0.mk (blk_below BK3.out hb)
 have n_BK6 := Aside0.mk (blk_below BK6.out hb)
 have n_HXS := Aside0.mk (HXS.out.below hb)
 have n_HS6 := Aside0.mk (HS6.out.below hb)
 have n_HB := Aside0.mk (below_step HB.out hb)
 clear hb HS3 BK3 BK6 HXS HS6 HB
 have HS3 := n_HS3
 have BK3 := n_BK3
 have BK6 := n_BK6
 have HXS := n_HXS
 have HS6 := n_HS6
 have HB := n_HB
 clear n_HS3 n_BK3 n_BK6 n_HXS n_HS6 n_HB
 go_wp2_with fail
 refine (laws_markByteS.calls k _ _ l0 1 _ z2 w _ HB.out HXS.out.2.2 HP.out.mark).mono ?_
 rintro e w10 ⟨rfl, _, hb, hk⟩
 have n1 := Aside0.mk (HS3.out.kept hk (fun k _ h2 h => by have := HLT.out.1; have := h.1; omega))
 have n2 := Aside0.mk (blk_kept BK3.out hk (fun h => by have := HLT.out.2; have := h.1; omega))
 have n3 := Aside0.mk (HS6.out.kept hk (fun k h1 _ h => by have := h.2; omega))
 have n4 := Aside0.mk (blk_kept BK6.out hk (fun h => by have := HLT6.out; have := HL4.out; have := h.2; omega))
 clear HS3 BK3 HS6 BK6 HB HXS hk
 have HS3 := n1
 have BK3 := n2
 have HS6 := n3
 have BK6 := n4
 have HB := Aside0.mk hb
 clear n1 n2 n3 n4 hb
 have tneg : decide ((1 : Int) + (l0.length : Int) < 0) = false := decide_eq_false (by omega)
 have k30 := blk_cell BK3.out 0
 have k31 := blk_cell BK3.out 1
 have k32 := blk_cell BK3.out 2
 have k60 := blk_cell BK6.out 0
 have k61 := blk_cell BK6.out 1
 have k62 := blk_cell BK6.out 2
 go_wp2_with fail
 refine (laws_eqService.calls k r1 none 0 [] E3 d3 r3 r1 E1 d1 [] E2 d2 r3 true _ (Kd.C_nil _ _) (Nat.le_refl _) (Kd.S_reads' HS6.out.2.2.2).2.2 (Kd.S_reads' HS6.out.2.2.2).2.1 (Kd.S_reads' HS3.out.2.2.1).2.2 (Kd.S_reads' HS3.out.2.2.1).2.1 (Kd.S_reads' HS3.out.2.2.2).2.2 (Kd.S_reads' HS3.out.2.2.2).2.1 HP.out.eqs).mono ?_
 rintro e w11 ⟨rfl, hb⟩
 clear k30 k31 k32
 clear k60 k61 k62
 have n_HS3 := Aside0.mk (HS3.out.below hb)
 have n_BK3 := Aside0.mk (blk_below BK3.out hb)
 have n_BK6 := Aside0.mk (blk_below BK6.out hb)
 have n_HS6 := Aside0.mk (HS6.out.below hb)
 have n_HB := Aside0.mk (below_step HB.out hb)
 clear hb HS3 BK3 BK6 HS6 HB
 have HS3 := n_HS3
 have BK3 := n_BK3
 have BK6 := n_BK6
 have HS6 := n_HS6
 have HB := n_HB
 clear n_HS3 n_BK3 n_BK6 n_HS6 n_HB
 have k60 := blk_cell BK6.out 0
 have k61 := blk_cell BK6.out 1
 have k62 := blk_cell BK6.out 2
 go_wp2_with fail
 clear tneg
 have HX6 := Aside0.mk (show w3.heap.size ≤ w4.heap.size from HW34.out)
 clear k60 k61 k62
 refine (markService.calls w w11 (fun _ => False) _ (fun _ h _ => h) (fun _ h => h.elim) (fun k h => by have := h.2; have := HS6.out.2.1; omega) r1 _ _ [] r3 1 (by omega) (by have := HP.out.tot; simp only [itemsTot]; omega) (by simp) HP.out.len HB.out (Kd.S_nil _ _ _ _ _) HS6.out.2.2.2).mono ?_
 rintro e w12 ⟨m1, m2, rfl, hm1, hm2, hsm1, hsm2, hb, hk⟩
 have n1 := Aside0.mk (HS3.out.kept hk (fun k _ h2 h => by have := HLT.out.1; have := HX6.out; rcases h with h | h; exact h; have := h.1; omega))
 have n2 := Aside0.mk (blk_kept BK3.out hk (fun h => by have := HLT.out.2; have := HX6.out; rcases h with h | h; exact h; have := h.1; omega))
 have n4 := Aside0.mk (blk_kept BK6.out hk (fun h => by have := HLT6.out; rcases h with h | h; exact h; have := h.2; omega))
 have HM := Aside0.mk (And.intro (Kd.S_reads' hsm2) (show MarkedSess 1 r3 r3.length m2 by simpa [itemsTot] using hm2))
 clear HS3 BK3 HS6 BK6 HB hm1 hm2 hsm1 hsm2 hk
 have HS3 := n1
 have BK3 := n2
 have BK6 := n4
 have HB := Aside0.mk hb
 clear n1 n2 n4 hb
 rw [show (1 : Int) + (itemsTot [] : Int) + (sessTot r3 : Int) = 1 + (sessTot r3 : Int) by simp [itemsTot]]
 have k60 := blk_cell BK6.out 0
 have k61 := blk_cell BK6.out 1
 have k62 := blk_cell BK6.out 2
 go_wp2_with fail
 refine calls_of_args (args' := #[.agg #[.int .i64 r1, .slice none 0 0, .slice E3 m2.length d3], .int .i64 1]) (by rw [HM.out.2.1]) ?_
 refine (laws_heldService.calls k r1 none 0 [] E3 d3 m2 1 _ _ (Kd.C_nil _ _) (Nat.le_refl _) HM.out.1.2.2 (by have h := HM.out.1.2.1; rwa [← HM.out.2.1] at h) (HP.out.held m2 HM.out.2)).mono ?_
 rintro e w13 ⟨rfl, hb⟩
 clear HM
 clear k60 k61 k62
 have n_HS3 := Aside0.mk (HS3.out.below hb)
 have n_BK3 := Aside0.mk (blk_below BK3.out hb)
 have n_HB := Aside0.mk (below_step HB.out hb)
 clear hb HS3 BK3 HB
 have HS3 := n_HS3
 have BK3 := n_BK3
 have HB := n_HB
 clear n_HS3 n_BK3 n_HB
 have tneg : decide ((1 : Int) + (sessTot r3 : Int) < 0) = false := decide_eq_false (by omega)
 go_wp2_with fail
 refine (laws_toByteS.calls k A0 c0 l0 l0 _ (Kd.C_below HR0.out HB.out) HC0.out HP.out.cp).mono ?_
 rintro e w14 ⟨v1, rfl, hr, hb⟩
 obtain ⟨Ay, cy, e1, hcy, hCy⟩ := Kd.R_reads hr
 subst e1
 have HY := Aside0.mk (And.intro hCy hcy)
 clear hr hcy hCy tneg
 have n_HS3 := Aside0.mk (HS3.out.below hb)
 have n_BK3 := Aside0.mk (blk_below BK3.out hb)
 have n_HB := Aside0.mk (below_step HB.out hb)
 clear hb HS3 BK3 HB
 have HS3 := n_HS3
 have BK3 := n_BK3
 have HB := n_HB
 clear n_HS3 n_BK3 n_HB
 go_wp2_with fail
 refine (decodeState.calls k Ay cy l0 _ HY.out.1 HY.out.2 HGd.out valid HP.out.va).mono ?_
 intro e w15 ht
 rw [HP.out.im] at ht
 obtain ⟨u3, rfl, hs, hb⟩ := ht
 have HS11 := Aside0.mk (SvAt.new HB.out.size (Kd.S_nil _ _ _ _ _) hs)
 obtain ⟨E5, d5, e5⟩ := Kd.S_slice hs
 subst e5
 clear hs HY
 have n_HS3 := Aside0.mk (HS3.out.below hb)
 have n_BK3 := Aside0.mk (blk_below BK3.out hb)
 have n_HB := Aside0.mk (below_step HB.out hb)
 clear hb HS3 BK3 HB
 have HS3 := n_HS3
 have BK3 := n_BK3
 have HB := n_HB
 clear n_HS3 n_BK3 n_HB
 go_upto_region 23 with fail
 obtain ⟨g11, hg⟩ : ∃ g, g = w15.heap.size := ⟨_, rfl⟩
 have b : (w15.alloc (Obj.cells #[.int .i64 r1, .slice none 0 0, .slice E5 r3.length d5] 48)).heap[g11]? = some (.cells #[.int .i64 r1, .slice none 0 0, .slice E5 r3.length d5] 48 (0, 0)) := by rw [hg]; exact blk_new _ _
 have hb : Below w15.heap.size w15 (w15.alloc (Obj.cells #[.int .i64 r1, .slice none 0 0, .slice E5 r3.length d5] 48)) := below_alloc (Below.refl _ _) _
 rw [← hg]
 obtain ⟨w16, hw⟩ : ∃ W, W = (w15.alloc (Obj.cells #[.int .i64 r1, .slice none 0 0, .slice E5 r3.length d5] 48)) := ⟨_, rfl⟩
 rw [← hw] at b hb ⊢
 have BK6 := Aside0.mk b
 clear hg hw b
 have n_HS3 := Aside0.mk (HS3.out.below hb)
 have n_BK3 := Aside0.mk (blk_below BK3.out hb)
 have n_HS11 := Aside0.mk (HS11.out.below hb)
 have n_HB := Aside0.mk (below_step HB.out hb)
 clear hb HS3 BK3 HS11 HB
 have HS3 := n_HS3
 have BK3 := n_BK3
 have HS11 := n_HS11
 have HB := n_HB
 clear n_HS3 n_BK3 n_HS11 n_HB
 have k30 := blk_cell BK3.out 0
 have k31 := blk_cell BK3.out 1
 have k32 := blk_cell BK3.out 2
 have k60 := blk_cell BK6.out 0
 have k61 := blk_cell BK6.out 1
 have k62 := blk_cell BK6.out 2
 go_wp2_with fail
 refine (laws_eqService.calls k r1 none 0 [] E5 d5 r3 r1 E1 d1 [] E2 d2 r3 true _ (Kd.C_nil _ _) (Nat.le_refl _) (Kd.S_reads' HS11.out.2.2.2).2.2 (Kd.S_reads' HS11.out.2.2.2).2.1 (Kd.S_reads' HS3.out.2.2.1).2.2 (Kd.S_reads' HS3.out.2.2.1).2.1 (Kd.S_reads' HS3.out.2.2.2).2.2 (Kd.S_reads' HS3.out.2.2.2).2.1 HP.out.eqs).mono ?_
 rintro e w17 ⟨rfl, hb⟩
 have HF := Aside0.mk (below_step HB.out hb)
 clear hb
 go_wp2
 go_ret
 exact ⟨rfl, HF.out⟩
set_option maxHeartbeats 8000000 in
set_option maxRecDepth 100000 in
theorem lawDecodeState.large (A0 : Option Addr) (c0 : Nat) (l0 : List Int) (w : World) (hbig : 1048576 < l0.length) :
 Calls Try.prog 6 #[.slice A0 l0.length c0] w fun e w' => e = .returned (.bool true) ∧ Below w.heap.size w w' := by
 have tbig : decide ((1048576 : Int) < (l0.length : Int)) = true := decide_eq_true (by omega)
 have tbig2 : decide (1048576 < l0.length) = true := decide_eq_true hbig
 clear hbig
 go_enter Try.func6, Try.ntmps6
 go_wp2
 go_ret
 exact ⟨rfl, Below.refl _ _⟩
/-! ### end of what is BY HAND -/


end Go.Proofs.Ytladodfapnigfaa.XFnExactDecodeState
