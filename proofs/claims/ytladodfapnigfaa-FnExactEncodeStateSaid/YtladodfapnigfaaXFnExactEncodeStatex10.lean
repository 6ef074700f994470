/- Contracts of the functions that FnExactEncodeState comes to, each proved over the translation. Written by this session's program xprint.py; the parts between 'BY HAND' rows are typed by hand. Conditions: each theorem's own hypotheses. -/
import Derived.Test.YtladodfapnigfaaXFnExactEncodeStatex0
import Derived.Test.YtladodfapnigfaaXFnExactEncodeStatex1
import Derived.Test.YtladodfapnigfaaXFnExactEncodeStatex4
import Derived.Test.YtladodfapnigfaaXFnExactEncodeStatex5
import Derived.Test.YtladodfapnigfaaXFnExactEncodeStatex7
import Derived.Test.YtladodfapnigfaaXFnExactEncodeStatex9
namespace Go.Proofs.Ytladodfapnigfaa.XFnExactEncodeState
open Go.RowKit Go.Proofs.YtladodfapnigfaaW.PrintWords Go.Proofs.YtladodfapnigfaaW.PrintLast Go.Proofs.YtladodfapnigfaaW.PrintMore
attribute [local go_sem] max2_int min2_int max_two min_two max_three min_three max_four min_four   -- for this text's walks alone
set_option linter.unusedVariables false
set_option linter.unusedSimpArgs false

/-! ### laws_FnExactEncodeState: function 5 · BY HAND -/
def EsA (w : World) (g1 : Nat) (cs1 : Array Value) (W : World) : Prop := Below w.heap.size w W ∧ W.heap[g1]? = some (.cells cs1 42 (0, 0))
theorem EsA.below {w : World} {g1 : Nat} {cs1 : Array Value} {W W' : World} (h : EsA w g1 cs1 W) (hb : Below W.heap.size W W') : EsA w g1 cs1 W' := ⟨below_step h.1 hb, blk_below h.2 hb⟩
def BytesAt (w : World) (a b : Nat) (v : Value) (z : List Int) (W : World) : Prop := w.heap.size ≤ a ∧ b ≤ W.heap.size ∧ Kd.R (Kd.int .u8) 5 W w.heap.size (fun k => a ≤ k ∧ k < b) v z
theorem BytesAt.below {w : World} {a b : Nat} {v : Value} {z : List Int} {W W' : World} (h : BytesAt w a b v z W) (hb : Below W.heap.size W W') : BytesAt w a b v z W' := ⟨h.1, Nat.le_trans h.2.1 hb.size, Kd.R_below h.2.2 hb⟩
theorem BytesAt.kept {w : World} {a b : Nat} {v : Value} {z : List Int} {W W' : World} {S : Nat → Prop} (h : BytesAt w a b v z W) (hk : Kept W W' S) (hs : ∀ k, a ≤ k → k < b → ¬ S k) : BytesAt w a b v z W' := ⟨h.1, Nat.le_trans h.2.1 hk.1, Kd.R_kept h.2.2 hk (fun k hk => hs k hk.1 hk.2)⟩
theorem BytesAt.new {w W W' : World} {v : Value} {z : List Int} (hw : w.heap.size ≤ W.heap.size) (h : Kd.R (Kd.int .u8) 5 W' W.heap.size (fun _ => True) v z) : BytesAt w W.heap.size W'.heap.size v z W' :=
 ⟨hw, Nat.le_refl _, Kd.R_lower (Kd.R_mono (Kd.R_bound h) (fun k hk => ⟨hk.2.1, hk.2.2.1⟩)) hw⟩
theorem BytesAt.form {w : World} {a b : Nat} {v : Value} {z : List Int} {W : World} (h : BytesAt w a b v z W) : ∃ A c, v = .slice A z.length c ∧ z.length ≤ c ∧ Kd.C (Kd.int .u8) W A z.length z := Kd.R_reads h.2.2
def ServiceAt (w : World) (a n b : Nat) (v1 v2 : Value) (ks : List S24) (ss : List S74) (W : World) : Prop :=
 w.heap.size ≤ a ∧ a ≤ n ∧ b ≤ W.heap.size ∧ Kd.S k24 24 W w.heap.size (fun k => a ≤ k ∧ k < n) v1 ks ∧ Kd.S k74 74 W w.heap.size (fun k => n ≤ k ∧ k < b) v2 ss
theorem ServiceAt.below {w : World} {a n b : Nat} {v1 v2 : Value} {ks : List S24} {ss : List S74} {W W' : World} (h : ServiceAt w a n b v1 v2 ks ss W) (hb : Below W.heap.size W W') : ServiceAt w a n b v1 v2 ks ss W' :=
 ⟨h.1, h.2.1, Nat.le_trans h.2.2.1 hb.size, Kd.S_below h.2.2.2.1 hb, Kd.S_below h.2.2.2.2 hb⟩
theorem ServiceAt.kept {w : World} {a n b : Nat} {v1 v2 : Value} {ks : List S24} {ss : List S74} {W W' : World} {S : Nat → Prop} (h : ServiceAt w a n b v1 v2 ks ss W) (hk : Kept W W' S) (hs : ∀ k, a ≤ k → k < b → ¬ S k) (hn : n ≤ b) : ServiceAt w a n b v1 v2 ks ss W' :=
 ⟨h.1, h.2.1, Nat.le_trans h.2.2.1 hk.1, Kd.S_kept h.2.2.2.1 hk (fun k hk => hs k hk.1 (by omega)), Kd.S_kept h.2.2.2.2 hk (fun k hk => hs k (by have := h.2.1; omega) hk.2)⟩
theorem ServiceAt.new {w W W' : World} {v1 v2 : Value} {N : Nat} {ks : List S24} {ss : List S74} (hw : w.heap.size ≤ W.heap.size) (hN : W.heap.size ≤ N)
 (h1 : Kd.S k24 24 W' W.heap.size (fun k => W.heap.size ≤ k ∧ k < N) v1 ks) (h2 : Kd.S k74 74 W' W.heap.size (fun k => N ≤ k ∧ k < W'.heap.size) v2 ss) : ServiceAt w W.heap.size N W'.heap.size v1 v2 ks ss W' :=
 ⟨hw, hN, Nat.le_refl _, Kd.S_lower h1 hw, Kd.S_lower h2 hw⟩
theorem ServiceAt.form {w : World} {a n b : Nat} {v1 v2 : Value} {ks : List S24} {ss : List S74} {W : World} (h : ServiceAt w a n b v1 v2 ks ss W) :
 ∃ A1 c1 A2 c2, v1 = .slice A1 ks.length c1 ∧ ks.length ≤ c1 ∧ Kd.C k24 W A1 ks.length ks ∧ v2 = .slice A2 ss.length c2 ∧ ss.length ≤ c2 ∧ Kd.C k74 W A2 ss.length ss := by
 obtain ⟨A1, c1, e1, h1, h2⟩ := Kd.S_reads h.2.2.2.1
 obtain ⟨A2, c2, e2, h3, h4⟩ := Kd.S_reads h.2.2.2.2
 exact ⟨A1, c1, A2, c2, e1, h1, h2, e2, h3, h4⟩
/-- What the pure side tells of the calls. -/
structure EsPure (k : Nat) (a0 : Int) (l1 : List S33) (l2 : List S96) (ks : List S24) (ss : List S74) (left : Int) (z z2 : List Int) (c : Int) : Prop where
 sz : laws_szService.f k a0 l1 l2 1048576 = some left
 nonneg : ¬ left < 0
 cp1 : laws_toItemS.f l1 = some ks
 cp2 : laws_toSessionS.f l2 = some ss
 sp : spec_EncodeState.f k a0 ks ss = some (z, c)
 im : impl_EncodeState.f k a0 ks ss = some (z, c)
 eqb : laws_eqByteS.f k z z = some true
 eqs : laws_eqService.f k a0 ks ss a0 ks ss = some true
 mark : laws_markByteS.f k z 1 = some ((1 : Int) + (z.length : Int), z2)
 held : laws_heldByteS.f k z2 1 = some ((1 : Int) + (z.length : Int))
 tot : (1 : Int) + (itemsTot ks : Int) + (sessTot ss : Int) ≤ 281474976710656
 len1 : ks.length ≤ 281474976710656
 len2 : ss.length ≤ 281474976710656
set_option maxHeartbeats 8000000 in
set_option maxRecDepth 100000 in
theorem lawEncodeState.calls (k : Nat) (a0 : Int) (A1 : Option Addr) (c1 : Nat) (l1 : List S33) (A2 : Option Addr) (c2 : Nat) (l2 : List S96) (ks : List S24) (ss : List S74) (left : Int) (z z2 : List Int) (c : Int) (w : World)
 (hr1 : Kd.C k33 w A1 l1.length l1) (hc1 : l1.length ≤ c1) (hr2 : Kd.C k96 w A2 l2.length l2) (hc2 : l2.length ≤ c2) (hp : EsPure k a0 l1 l2 ks ss left z z2 c) :
 Calls Try.prog 5 #[.agg #[.int .i64 a0, .slice A1 l1.length c1, .slice A2 l2.length c2]] w fun e w' => e = .returned (.bool true) ∧ Below w.heap.size w w' := by
 have hu1 := Try.underlying42
 have hu2 := Try.underlying48
 have HR1 := Aside0.mk hr1
 have HC1 := Aside0.mk hc1
 have HR2 := Aside0.mk hr2
 have HC2 := Aside0.mk hc2
 have HP := Aside0.mk hp
 have tl : decide (left < 0) = false := decide_eq_false hp.nonneg
 clear hr1 hc1 hr2 hc2 hp
 go_enter Try.func5, Try.ntmps5
 go_wp2_with ((with_reducible refine gate_dst (N := 1) rfl ?_); refine box_event ?hg (N := 1) ?hd (cs := #[.int .i64 a0, .slice A1 l1.length c1, .slice A2 l2.length c2]) (t := 42) ?hr ?_; (case hd => rfl); (case hg => rfl); (case hr => first | (go_simp; done) | (go_simp; rfl)); intro g1 hg1 w1 bk1 hb1; have HA := Aside0.mk (show EsA w g1 _ w1 from ⟨hb1, bk1⟩); have k0 : w1.cell? ⟨g1, 0, none⟩ = some (.int .i64 a0) := blk_cell bk1 0; have k1 : w1.cell? ⟨g1, 1, none⟩ = some (.slice A1 l1.length c1) := blk_cell bk1 1; have k2 : w1.cell? ⟨g1, 2, none⟩ = some (.slice A2 l2.length c2) := blk_cell bk1 2; clear hg1 bk1 hb1)
 refine (laws_szService.calls k a0 A1 c1 l1 A2 c2 l2 1048576 left _ (Kd.C_below HR1.out HA.out.1) HC1.out (Kd.C_below HR2.out HA.out.1) HC2.out HP.out.sz).mono ?_
 rintro e w2 ⟨rfl, hb⟩
 replace HA := Aside0.mk (HA.out.below hb)
 clear hb k0 k1 k2
 have k0 : w2.cell? ⟨g1, 0, none⟩ = some (.int .i64 a0) := blk_cell HA.out.2 0
 have k1 : w2.cell? ⟨g1, 1, none⟩ = some (.slice A1 l1.length c1) := blk_cell HA.out.2 1
 have k2 : w2.cell? ⟨g1, 2, none⟩ = some (.slice A2 l2.length c2) := blk_cell HA.out.2 2
 go_wp2_with fail
 refine (copyService.calls a0 A1 c1 l1 A2 c2 l2 ks ss _ (Kd.C_below HR1.out HA.out.1) HC1.out (Kd.C_below HR2.out HA.out.1) HC2.out HP.out.cp1 HP.out.cp2).mono ?_
 rintro e w3 ⟨v1, v2, N, rfl, hN, hN2, hs1, hs2, hb⟩
 have HS := Aside0.mk (ServiceAt.new HA.out.1.size hN hs1 hs2)
 replace HA := Aside0.mk (HA.out.below hb)
 clear hN hN2 hs1 hs2 hb k0 k1 k2
 obtain ⟨B1, d1, B2, d2, e1, hd1, hC1, e2, hd2, hC2⟩ := HS.out.form
 subst e1 e2
 have HX := Aside0.mk (And.intro hd1 (And.intro hC1 (And.intro hd2 hC2)))
 clear hd1 hC1 hd2 hC2
 go_wp2_with fail
 refine (spec_EncodeState.calls k a0 B1 d1 ks B2 d2 ss z c _ HX.out.2.1 HX.out.1 HX.out.2.2.2 HX.out.2.2.1 HP.out.sp).mono ?_
 rintro e w4 ⟨vz, rfl, hz, hb⟩
 have HZ := Aside0.mk (BytesAt.new HA.out.1.size hz)
 replace HA := Aside0.mk (HA.out.below hb)
 have HG1 := Aside0.mk (blk_lt HA.out.2)
 clear hz hb HS HX
 obtain ⟨Bz, dz, ez, _, _⟩ := HZ.out.form
 subst ez
 have k0 : w4.cell? ⟨g1, 0, none⟩ = some (.int .i64 a0) := blk_cell HA.out.2 0
 have k1 : w4.cell? ⟨g1, 1, none⟩ = some (.slice A1 l1.length c1) := blk_cell HA.out.2 1
 have k2 : w4.cell? ⟨g1, 2, none⟩ = some (.slice A2 l2.length c2) := blk_cell HA.out.2 2
 go_wp2_with fail
 refine (copyService.calls a0 A1 c1 l1 A2 c2 l2 ks ss _ (Kd.C_below HR1.out HA.out.1) HC1.out (Kd.C_below HR2.out HA.out.1) HC2.out HP.out.cp1 HP.out.cp2).mono ?_
 rintro e w5 ⟨v1, v2, N, rfl, hN, hN2, hs1, hs2, hb⟩
 have HS := Aside0.mk (ServiceAt.new HA.out.1.size hN hs1 hs2)
 replace HZ := Aside0.mk (HZ.out.below hb)
 replace HA := Aside0.mk (HA.out.below hb)
 have HN5 := Aside0.mk hN2
 clear hN hN2 hs1 hs2 hb k0 k1 k2
 obtain ⟨B1, d1, B2, d2, e1, _, _, e2, _, _⟩ := HS.out.form
 subst e1 e2
 go_wp2_with ((with_reducible refine gate_dst (N := 6) rfl ?_); refine box_event ?hg (N := 6) ?hd (cs := #[.int .i64 0, .slice none 0 0, .slice none 0 0]) (t := 48) ?hr ?_; (case hd => rfl); (case hg => rfl); (case hr => first | (go_simp; done) | (go_simp; rfl)); intro g6 hg6 w6 bk6 hb6; have HG6 := Aside0.mk hg6; have BK6 := Aside0.mk bk6; have HB6 := Aside0.mk hb6; have k60 : w6.cell? ⟨g6, 0, none⟩ = some (.int .i64 0) := blk_cell bk6 0; have k61 : w6.cell? ⟨g6, 1, none⟩ = some (.slice none 0 0) := blk_cell bk6 1; have k62 : w6.cell? ⟨g6, 2, none⟩ = some (.slice none 0 0) := blk_cell bk6 2; have f60 := blk_frozen bk6 0; have f61 := blk_frozen bk6 1; have f62 := blk_frozen bk6 2; clear hg6 bk6 hb6)
 have hKp : Kept w6 (((w6.setCell ⟨g6, 0, none⟩ (.int .i64 a0)).setCell ⟨g6, 1, none⟩ (.slice B1 ks.length d1)).setCell ⟨g6, 2, none⟩ (.slice B2 ss.length d2)) (fun k => k = g6) := Kept.setCell (S := fun k => k = g6) (p := ⟨g6, 2, none⟩) (Kept.setCell (S := fun k => k = g6) (p := ⟨g6, 1, none⟩) (Kept.setCell (S := fun k => k = g6) (p := ⟨g6, 0, none⟩) (Kept.refl _ _) (.inl rfl) _) (.inl rfl) _) (.inl rfl) _
 have hge6 : w.heap.size ≤ g6 := by have := HG6.out; have := HA.out.1.size; omega
 have hBl : Below w.heap.size w (((w6.setCell ⟨g6, 0, none⟩ (.int .i64 a0)).setCell ⟨g6, 1, none⟩ (.slice B1 ks.length d1)).setCell ⟨g6, 2, none⟩ (.slice B2 ss.length d2)) := below_set (below_set (below_set (below_step HA.out.1 HB6.out) hge6) hge6) hge6
 have hn16 : g1 ≠ g6 := by have := blk_lt HA.out.2; have := HG6.out; omega
 have hb1' := blk_far (p := ⟨g6, 2, none⟩) (blk_far (p := ⟨g6, 1, none⟩) (blk_far (p := ⟨g6, 0, none⟩) (blk_below HA.out.2 HB6.out) hn16 (.int .i64 a0)) hn16 (.slice B1 ks.length d1)) hn16 (.slice B2 ss.length d2)
 have hb6' := blk_put (cs' := #[.int .i64 a0, .slice B1 ks.length d1, .slice B2 ss.length d2]) (blk_put (cs' := #[.int .i64 a0, .slice B1 ks.length d1, .slice none 0 0]) (blk_put (cs' := #[.int .i64 a0, .slice none 0 0, .slice none 0 0]) BK6.out 0 (.int .i64 a0) rfl) 1 (.slice B1 ks.length d1) rfl) 2 (.slice B2 ss.length d2) rfl
 obtain ⟨w7, hw7⟩ : ∃ W, W = (((w6.setCell ⟨g6, 0, none⟩ (.int .i64 a0)).setCell ⟨g6, 1, none⟩ (.slice B1 ks.length d1)).setCell ⟨g6, 2, none⟩ (.slice B2 ss.length d2)) := ⟨_, rfl⟩
 rw [← hw7] at hKp hBl hb1' hb6' ⊢
 replace HZ := Aside0.mk ((HZ.out.below HB6.out).kept hKp (fun k _ h e => by have := HZ.out.2.1; have := HG6.out; omega))
 replace HS := Aside0.mk ((HS.out.below HB6.out).kept hKp (fun k _ h e => by have := HS.out.2.2.1; have := HG6.out; omega) HN5.out)
 replace HA := Aside0.mk (show EsA w g1 _ w7 from ⟨hBl, hb1'⟩)
 replace BK6 := Aside0.mk hb6'
 have HGE6 := Aside0.mk hge6
 have HN16 := Aside0.mk hn16
 clear hw7 hKp hBl hb1' hb6' hge6 hn16 k60 k61 k62 f60 f61 f62 HB6 w6
 obtain ⟨_, _, _, _, e1, hd1, hC1, e2, hd2, hC2⟩ := HS.out.form
 injection e1 with e1 _ e1'
 injection e2 with e2 _ e2'
 subst e1 e1' e2 e2'
 have HX := Aside0.mk (And.intro hd1 (And.intro hC1 (And.intro hd2 hC2)))
 clear hd1 hC1 hd2 hC2
 refine (impl_EncodeState.calls k a0 B1 d1 ks B2 d2 ss z c _ HX.out.2.1 HX.out.1 HX.out.2.2.2 HX.out.2.2.1 HP.out.im).mono ?_
 rintro e w8 ⟨vg, rfl, hz, hb⟩
 have HGo := Aside0.mk (BytesAt.new HA.out.1.size hz)
 have HSG := Aside0.mk (show w7.heap.size ≤ w8.heap.size from hb.size)
 have HS7 := Aside0.mk HS.out.2.2.1
 have HZ7 := Aside0.mk HZ.out.2.1
 replace HA := Aside0.mk (HA.out.below hb)
 replace HZ := Aside0.mk (HZ.out.below hb)
 replace HS := Aside0.mk (HS.out.below hb)
 replace BK6 := Aside0.mk (blk_below BK6.out hb)
 clear hz hb HX
 obtain ⟨Bg, dg, eg, hdg, hCg⟩ := HGo.out.form
 subst eg
 obtain ⟨_, _, ez, hdz, hCz⟩ := HZ.out.form
 injection ez with ez _ ez'
 subst ez ez'
 have HX := Aside0.mk (And.intro hdg (And.intro hCg (And.intro hdz hCz)))
 clear hdg hCg hdz hCz
 go_wp2_with fail
 refine (laws_eqByteS.calls k Bg dg z Bz dz z true _ HX.out.2.1 HX.out.1 HX.out.2.2.2 HX.out.2.2.1 HP.out.eqb).mono ?_
 rintro e w9 ⟨rfl, hd⟩
 replace HA := Aside0.mk (HA.out.below hd.below)
 replace HZ := Aside0.mk (HZ.out.below hd.below)
 replace HS := Aside0.mk (HS.out.below hd.below)
 replace HGo := Aside0.mk (HGo.out.below hd.below)
 replace BK6 := Aside0.mk (blk_below BK6.out hd.below)
 clear hd HX
 have k0 : w9.cell? ⟨g1, 0, none⟩ = some (.int .i64 a0) := blk_cell HA.out.2 0
 have k1 : w9.cell? ⟨g1, 1, none⟩ = some (.slice A1 l1.length c1) := blk_cell HA.out.2 1
 have k2 : w9.cell? ⟨g1, 2, none⟩ = some (.slice A2 l2.length c2) := blk_cell HA.out.2 2
 have k60 : w9.cell? ⟨g6, 0, none⟩ = some (.int .i64 a0) := blk_cell BK6.out 0
 have k61 : w9.cell? ⟨g6, 1, none⟩ = some (.slice B1 ks.length d1) := blk_cell BK6.out 1
 have k62 : w9.cell? ⟨g6, 2, none⟩ = some (.slice B2 ss.length d2) := blk_cell BK6.out 2
 go_wp2_with fail
 have HB9 := Aside0.mk HA.out.1
 go_region_with (first | (go_at_call 24; refine (copyService.calls a0 A1 c1 l1 A2 c2 l2 ks ss _ ?x1 HC1.out ?x2 HC2.out HP.out.cp1 HP.out.cp2).mono ?_; (case x1 => exact Kd.C_below HR1.out (below_step HB9.out (by repeat (first | exact Below.refl _ _ | apply below_drew1 | apply pw_below_drewN)))); (case x2 => exact Kd.C_below HR2.out (below_step HB9.out (by repeat (first | exact Below.refl _ _ | apply below_drew1 | apply pw_below_drewN)))); rintro e w10 ⟨v1, v2, N, rfl, hN, hN2, hs1, hs2, hb⟩; have hb' : Below w9.heap.size w9 w10 := below_step (by repeat (first | exact Below.refl _ _ | apply below_drew1 | apply pw_below_drewN)) hb; have HS2 := Aside0.mk (ServiceAt.new (w := w) (below_step HB9.out (by repeat (first | exact Below.refl _ _ | apply below_drew1 | apply pw_below_drewN))).size hN hs1 hs2); have HB10 := Aside0.mk hb'; obtain ⟨E1, q1, E2, q2, e1, hq1, hE1, e2, hq2, hE2⟩ := HS2.out.form; subst e1 e2; have HX := Aside0.mk (And.intro hq1 (And.intro hE1 (And.intro hq2 hE2))); have j60 : w10.cell? ⟨g6, 0, none⟩ = some (.int .i64 a0) := blk_cell (blk_below BK6.out hb') 0; have j61 : w10.cell? ⟨g6, 1, none⟩ = some (.slice B1 ks.length d1) := blk_cell (blk_below BK6.out hb') 1; have j62 : w10.cell? ⟨g6, 2, none⟩ = some (.slice B2 ss.length d2) := blk_cell (blk_below BK6.out hb') 2; have hS10 := HS.out.below hb'; have HY := Aside0.mk (And.intro (Kd.S_reads' hS10.2.2.2.1) (Kd.S_reads' hS10.2.2.2.2)); clear hN hN2 hs1 hs2 hb hb' hq1 hE1 hq2 hE2 hS10) | (go_at_call 26; refine (laws_eqService.calls k a0 B1 d1 ks B2 d2 ss a0 E1 q1 ks E2 q2 ss true _ ?r1 HY.out.1.2.1 ?r3 HY.out.2.2.1 ?r5 HX.out.1 ?r7 HX.out.2.2.1 HP.out.eqs).mono ?_; (case r1 => exact Kd.C_below HY.out.1.2.2 (by repeat (first | exact Below.refl _ _ | apply below_drew1 | apply pw_below_drewN))); (case r3 => exact Kd.C_below HY.out.2.2.2 (by repeat (first | exact Below.refl _ _ | apply below_drew1 | apply pw_below_drewN))); (case r5 => exact Kd.C_below HX.out.2.1 (by repeat (first | exact Below.refl _ _ | apply below_drew1 | apply pw_below_drewN))); (case r7 => exact Kd.C_below HX.out.2.2.2 (by repeat (first | exact Below.refl _ _ | apply below_drew1 | apply pw_below_drewN))); rintro e w11 ⟨rfl, hb⟩; have HB11 := Aside0.mk (below_step HB10.out (below_step (by repeat (first | exact Below.refl _ _ | apply below_drew1 | apply pw_below_drewN)) hb)); clear hb))
 all_goals (
  replace HA := Aside0.mk (HA.out.below HB11.out)
  replace HZ := Aside0.mk (HZ.out.below HB11.out)
  replace HS := Aside0.mk (HS.out.below HB11.out)
  replace HGo := Aside0.mk (HGo.out.below HB11.out)
  replace BK6 := Aside0.mk (blk_below BK6.out HB11.out)
  clear k0 k1 k2 k60 k61 k62 j60 j61 j62 HX HY HS2 HB9 HB10 HB11
  have k60 : w11.cell? ⟨g6, 0, none⟩ = some (.int .i64 a0) := blk_cell BK6.out 0
  have k61 : w11.cell? ⟨g6, 1, none⟩ = some (.slice B1 ks.length d1) := blk_cell BK6.out 1
  have k62 : w11.cell? ⟨g6, 2, none⟩ = some (.slice B2 ss.length d2) := blk_cell BK6.out 2
  go_wp2_with fail
  refine (markService.calls w w11 _ _ (fun k h1 h2 => by have := h1.2; have := h2.1; omega) (fun k h => by have := h.2; have := HS.out.2.2.1; have := HN5.out; omega) (fun k h => by have := h.2; have := HS.out.2.2.1; omega) a0 _ _ ks ss 1 (by omega) HP.out.tot HP.out.len1 HP.out.len2 HA.out.1 HS.out.2.2.2.1 HS.out.2.2.2.2).mono ?_
  rintro e w12 ⟨m1, m2, rfl, _, _, _, _, hb, hk⟩
  replace HA := Aside0.mk (show EsA w g1 _ w12 from ⟨hb, blk_kept HA.out.2 hk (fun h => by have := HG1.out; have := HS.out.2.1; rcases h with h | h <;> omega)⟩)
  replace HZ := Aside0.mk (HZ.out.kept hk (fun k _ h2 h => by have := HS.out.2.1; rcases h with h | h <;> omega))
  replace HGo := Aside0.mk (HGo.out.kept hk (fun k h1 _ h => by have := HS7.out; have := HN5.out; rcases h with h | h <;> omega))
  clear hb hk k60 k61 k62 BK6 HS
  have tneg : decide ((1 : Int) + (itemsTot ks : Int) + (sessTot ss : Int) < 0) = false := decide_eq_false (by omega)
  obtain ⟨_, _, eg, hdg, hCg⟩ := HGo.out.form
  injection eg with eg _ eg'
  subst eg eg'
  obtain ⟨_, _, ez, hdz, hCz⟩ := HZ.out.form
  injection ez with ez _ ez'
  subst ez ez'
  have HX := Aside0.mk (And.intro hdg (And.intro hCg (And.intro hdz hCz)))
  clear hdg hCg hdz hCz
  go_wp2_with fail
  refine (laws_eqByteS.calls k Bg dg z Bz dz z true _ HX.out.2.1 HX.out.1 HX.out.2.2.2 HX.out.2.2.1 HP.out.eqb).mono ?_
  rintro e w13 ⟨rfl, hd⟩
  replace HA := Aside0.mk (HA.out.below hd.below)
  replace HZ := Aside0.mk (HZ.out.below hd.below)
  replace HGo := Aside0.mk (HGo.out.below hd.below)
  clear hd HX tneg
  go_wp2_with fail
  refine (laws_markByteS.calls k _ _ z 1 _ z2 w _ HA.out.1 HGo.out.2.2 HP.out.mark).mono ?_
  rintro e w14 ⟨rfl, hr, hb, hk⟩
  have HM := Aside0.mk hr
  replace HA := Aside0.mk (show EsA w g1 _ w14 from ⟨hb, blk_kept HA.out.2 hk (fun h => by have := HG1.out; have := HS7.out; have := HZ7.out; have := h.1; omega)⟩)
  replace HZ := Aside0.mk (HZ.out.kept hk (fun k _ h2 h => by have := HZ7.out; have := h.1; omega))
  clear hr hb hk HGo
  have tneg : decide ((1 : Int) + (z.length : Int) < 0) = false := decide_eq_false (by omega)
  have hl := Kd.R_reads' HM.out
  have HL := Aside0.mk hl
  clear hl
  go_wp2_with fail
  refine calls_of_args (args' := #[.slice Bg z2.length dg, .int .i64 1]) (by rw [HL.out.1]) ?_
  refine (laws_heldByteS.calls k Bg dg z2 1 _ _ HL.out.2.2 (by rw [← HL.out.1]; exact HL.out.2.1) HP.out.held).mono ?_
  rintro e w15 ⟨rfl, hd⟩
  replace HA := Aside0.mk (HA.out.below hd.below)
  replace HZ := Aside0.mk (HZ.out.below hd.below)
  clear hd HM HL
  have k0 : w15.cell? ⟨g1, 0, none⟩ = some (.int .i64 a0) := blk_cell HA.out.2 0
  have k1 : w15.cell? ⟨g1, 1, none⟩ = some (.slice A1 l1.length c1) := blk_cell HA.out.2 1
  have k2 : w15.cell? ⟨g1, 2, none⟩ = some (.slice A2 l2.length c2) := blk_cell HA.out.2 2
  go_wp2_with fail
  refine (copyService.calls a0 A1 c1 l1 A2 c2 l2 ks ss _ (Kd.C_below HR1.out HA.out.1) HC1.out (Kd.C_below HR2.out HA.out.1) HC2.out HP.out.cp1 HP.out.cp2).mono ?_
  rintro e w16 ⟨v1, v2, N3, rfl, hN, hN2, hs1, hs2, hb⟩
  have HS := Aside0.mk (ServiceAt.new HA.out.1.size hN hs1 hs2)
  replace HA := Aside0.mk (HA.out.below hb)
  replace HZ := Aside0.mk (HZ.out.below hb)
  clear hN hN2 hs1 hs2 hb k0 k1 k2 tneg
  obtain ⟨E1, q1, E2, q2, e1, hq1, hE1, e2, hq2, hE2⟩ := HS.out.form
  subst e1 e2
  have HX := Aside0.mk (And.intro hq1 (And.intro hE1 (And.intro hq2 hE2)))
  clear hq1 hE1 hq2 hE2
  go_wp2_with fail
  refine (impl_EncodeState.calls k a0 E1 q1 ks E2 q2 ss z c _ HX.out.2.1 HX.out.1 HX.out.2.2.2 HX.out.2.2.1 HP.out.im).mono ?_
  rintro e w17 ⟨vh, rfl, hz, hb⟩
  have HH := Aside0.mk (BytesAt.new HA.out.1.size hz)
  replace HA := Aside0.mk (HA.out.below hb)
  replace HZ := Aside0.mk (HZ.out.below hb)
  clear hz hb HX HS
  obtain ⟨Bh, dh, eh, hdh, hCh⟩ := HH.out.form
  subst eh
  obtain ⟨_, _, ez, hdz, hCz⟩ := HZ.out.form
  injection ez with ez _ ez'
  subst ez ez'
  have HX := Aside0.mk (And.intro hdh (And.intro hCh (And.intro hdz hCz)))
  clear hdh hCh hdz hCz
  go_wp2_with fail
  refine (laws_eqByteS.calls k Bh dh z Bz dz z true _ HX.out.2.1 HX.out.1 HX.out.2.2.2 HX.out.2.2.1 HP.out.eqb).mono ?_
  rintro e w18 ⟨rfl, hd⟩
  have HF := Aside0.mk (HA.out.below hd.below).1
  clear hd
  go_wp2
  go_ret
  exact ⟨rfl, HF.out⟩
 )
set_option maxHeartbeats 8000000 in
set_option maxRecDepth 100000 in
theorem lawEncodeState.large (k : Nat) (a0 : Int) (A1 : Option Addr) (c1 : Nat) (l1 : List S33) (A2 : Option Addr) (c2 : Nat) (l2 : List S96) (left : Int) (w : World)
 (hr1 : Kd.C k33 w A1 l1.length l1) (hc1 : l1.length ≤ c1) (hr2 : Kd.C k96 w A2 l2.length l2) (hc2 : l2.length ≤ c2) (hs : laws_szService.f k a0 l1 l2 1048576 = some left) (hn : left < 0) :
 Calls Try.prog 5 #[.agg #[.int .i64 a0, .slice A1 l1.length c1, .slice A2 l2.length c2]] w fun e w' => e = .returned (.bool true) ∧ Below w.heap.size w w' := by
 have hu1 := Try.underlying42
 have HR1 := Aside0.mk hr1
 have HC1 := Aside0.mk hc1
 have HR2 := Aside0.mk hr2
 have HC2 := Aside0.mk hc2
 have HS := Aside0.mk hs
 have tl : decide (left < 0) = true := decide_eq_true hn
 clear hr1 hc1 hr2 hc2 hs hn
 go_enter Try.func5, Try.ntmps5
 go_wp2_with ((with_reducible refine gate_dst (N := 1) rfl ?_); refine box_event ?hg (N := 1) ?hd (cs := #[.int .i64 a0, .slice A1 l1.length c1, .slice A2 l2.length c2]) (t := 42) ?hr ?_; (case hd => rfl); (case hg => rfl); (case hr => first | (go_simp; done) | (go_simp; rfl)); intro g1 hg1 w1 bk1 hb1; have HA := Aside0.mk hb1; have k0 : w1.cell? ⟨g1, 0, none⟩ = some (.int .i64 a0) := blk_cell bk1 0; have k1 : w1.cell? ⟨g1, 1, none⟩ = some (.slice A1 l1.length c1) := blk_cell bk1 1; have k2 : w1.cell? ⟨g1, 2, none⟩ = some (.slice A2 l2.length c2) := blk_cell bk1 2; clear hg1 bk1 hb1)
 refine (laws_szService.calls k a0 A1 c1 l1 A2 c2 l2 1048576 left _ (Kd.C_below HR1.out HA.out) HC1.out (Kd.C_below HR2.out HA.out) HC2.out HS.out).mono ?_
 rintro e w2 ⟨rfl, hb⟩
 have HF := Aside0.mk (below_step HA.out hb)
 clear hb k0 k1 k2
 go_wp2
 go_ret
 exact ⟨rfl, HF.out⟩
/-! ### end of what is BY HAND -/


end Go.Proofs.Ytladodfapnigfaa.XFnExactEncodeState
