/- T18 -/
import Derived.Test.YtibhaklgajkalaaGreatDoorYTellx0
import Derived.Deep.RegionHeld3
import Derived.Test.YtibhaklgajkalaaGreatDoorYTellT6
import Derived.Test.YtibhaklgajkalaaGreatDoorYTellT15
import Derived.Test.YtibhaklgajkalaaGreatDoorYTellT16
import Derived.Test.YtibhaklgajkalaaGreatDoorYTellT17
namespace Go.Proofs.YtibhaklgajkalaaGreatDoor.YTell
open Go.RowKit Go.Proofs.YtibhaklgajkalaaGreatDoorW.PrintWords Go.Proofs.YtibhaklgajkalaaGreatDoorW.PrintLast Go.Proofs.YtibhaklgajkalaaGreatDoorW.PrintMore
attribute [local go_sem] max2_int min2_int max_two min_two max_three min_three max_four min_four
set_option linter.unusedVariables false
set_option linter.unusedSimpArgs false
open Go.Proofs.YtibhaklgajkalaaGreatDoor.Num
def TaA (w : World) (g1 : Nat) (cs1 : Array Value) (W : World) : Prop := Below w.heap.size w W ∧ W.heap[g1]? = some (.cells cs1 24 (0, 0))
theorem TaA.below {w : World} {g1 : Nat} {cs1 : Array Value} {W W' : World} (h : TaA w g1 cs1 W) (hb : Below W.heap.size W W') : TaA w g1 cs1 W' := ⟨below_step h.1 hb, blk_below h.2 hb⟩
def BytesAt (w : World) (a b : Nat) (v : Value) (z : List Int) (W : World) : Prop := w.heap.size ≤ a ∧ b ≤ W.heap.size ∧ Kd.R (Kd.int .u8) 5 W w.heap.size (fun k => a ≤ k ∧ k < b) v z
theorem BytesAt.below {w : World} {a b : Nat} {v : Value} {z : List Int} {W W' : World} (h : BytesAt w a b v z W) (hb : Below W.heap.size W W') : BytesAt w a b v z W' := ⟨h.1, Nat.le_trans h.2.1 hb.size, Kd.R_below h.2.2 hb⟩
theorem BytesAt.kept {w : World} {a b : Nat} {v : Value} {z : List Int} {W W' : World} {S : Nat → Prop} (h : BytesAt w a b v z W) (hk : Kept W W' S) (hs : ∀ k, a ≤ k → k < b → ¬ S k) : BytesAt w a b v z W' := ⟨h.1, Nat.le_trans h.2.1 hk.1, Kd.R_kept h.2.2 hk (fun k hk => hs k hk.1 hk.2)⟩
theorem BytesAt.new {w W W' : World} {v : Value} {z : List Int} (hw : w.heap.size ≤ W.heap.size) (h : Kd.R (Kd.int .u8) 5 W' W.heap.size (fun _ => True) v z) : BytesAt w W.heap.size W'.heap.size v z W' :=
 ⟨hw, Nat.le_refl _, Kd.R_lower (Kd.R_mono (Kd.R_bound h) (fun k hk => ⟨hk.2.1, hk.2.2.1⟩)) hw⟩
theorem BytesAt.form {w : World} {a b : Nat} {v : Value} {z : List Int} {W : World} (h : BytesAt w a b v z W) : ∃ A c, v = .slice A z.length c ∧ z.length ≤ c ∧ Kd.C (Kd.int .u8) W A z.length z := Kd.R_reads h.2.2
/-- A report's copy, in blocks of its own. -/
def ObsAt (w : World) (a b : Nat) (v : Value) (l : List S50) (W : World) : Prop := w.heap.size ≤ a ∧ b ≤ W.heap.size ∧ Kd.R k50 50 W w.heap.size (fun k => a ≤ k ∧ k < b) v l
theorem ObsAt.below {w : World} {a b : Nat} {v : Value} {l : List S50} {W W' : World} (h : ObsAt w a b v l W) (hb : Below W.heap.size W W') : ObsAt w a b v l W' := ⟨h.1, Nat.le_trans h.2.1 hb.size, Kd.R_below h.2.2 hb⟩
theorem ObsAt.kept {w : World} {a b : Nat} {v : Value} {l : List S50} {W W' : World} {S : Nat → Prop} (h : ObsAt w a b v l W) (hk : Kept W W' S) (hs : ∀ k, a ≤ k → k < b → ¬ S k) : ObsAt w a b v l W' := ⟨h.1, Nat.le_trans h.2.1 hk.1, Kd.R_kept h.2.2 hk (fun k hk => hs k hk.1 hk.2)⟩
theorem ObsAt.new {w W W' : World} {v : Value} {l : List S50} (hw : w.heap.size ≤ W.heap.size) (h : Kd.R k50 50 W' W.heap.size (fun _ => True) v l) : ObsAt w W.heap.size W'.heap.size v l W' :=
 ⟨hw, Nat.le_refl _, Kd.R_lower (Kd.R_mono (Kd.R_bound h) (fun k hk => ⟨hk.2.1, hk.2.2.1⟩)) hw⟩
theorem ObsAt.form {w : World} {a b : Nat} {v : Value} {l : List S50} {W : World} (h : ObsAt w a b v l W) : ∃ A c, v = .slice A l.length c ∧ l.length ≤ c ∧ Kd.C k50 W A l.length l := Kd.R_reads h.2.2
/-- What the pure side tells of the calls. -/
structure TellPure (k : Nat) (x : S24) (l : List S50) (T : List UInt8) (z2 : List Int) : Prop where
 fit : x.f1.length ≤ 9223372036854775807 ∧ ∀ y ∈ x.f1, ObsFit y
 nonneg : ¬ szT (rowsTot totObs x.f1) 1048576 < 0
 small : x.f1.length ≤ 1048576 ∧ ∀ y ∈ x.f1, ObsSmall y
 copy : x.f1.map convObs = l
 len : x.f1.length = l.length
 code : IntOk x.f0
 ok : ∀ o ∈ l, ObsOk o
 text : T = textD x.f0 l
 room : (textD x.f0 l).length ≤ 1099510000000
 lim : ReportLim ⟨x.f0, l⟩
 eqb : laws_eqByteS.f k (toI T) (toI T) = some true
 mark : laws_markByteS.f k (toI T) 1 = some ((1 : Int) + ((toI T).length : Int), z2)
 held : laws_heldByteS.f k z2 1 = some ((1 : Int) + ((toI T).length : Int))
 tot : (1 : Int) + sumTo mtObs l l.length ≤ 281474976710656
theorem toReport_l {k : Nat} {x : S24} {l : List S50} {T : List UInt8} {z2 : List Int} (hp : TellPure k x l T z2) (A1 : Option Addr) (c1 : Nat) (w : World) (hr1 : Kd.C k83 w A1 x.f1.length x.f1) (hc1 : x.f1.length ≤ c1) :
 Calls Tryz.prog 6 #[.agg #[.int .i64 x.f0, .slice A1 x.f1.length c1]] w fun e w' => ∃ (B : Option Addr) (d : Nat), e = .returned (.agg #[.int .i64 x.f0, .slice B l.length d]) ∧ Kd.R k50 50 w' w.heap.size (fun _ => True) (.slice B l.length d) l ∧ Below w.heap.size w w' := by
 have h := toReport_calls x.f0 A1 c1 x.f1 w hr1 hc1 hp.small
 rw [hp.copy] at h
 have e := hp.len
 refine Calls.mono h ?_
 rintro e w' ⟨B, d, h1, h2, h3⟩
 exact ⟨B, d, by rw [← hp.len]; exact h1, by rw [← hp.len]; exact h2, h3⟩
set_option maxHeartbeats 8000000 in
set_option maxRecDepth 100000 in
theorem lawTell.calls (k : Nat) (x : S24) (A1 : Option Addr) (c1 : Nat) (l : List S50) (T : List UInt8) (z2 : List Int) (w : World) (hr1 : Kd.C k83 w A1 x.f1.length x.f1) (hc1 : x.f1.length ≤ c1) (he : Env w) (hp : TellPure k x l T z2) :
 Calls Tryz.prog 3 #[.agg #[.int .i64 x.f0, .slice A1 x.f1.length c1]] w fun e w' => e = .returned (.bool true) ∧ Below w.heap.size w w' := by
 have hu1 := Tryz.underlying24
 have hu2 := Tryz.underlying30
 have HR1 := Aside0.mk hr1
 have HC1 := Aside0.mk hc1
 have HP := Aside0.mk hp
 have HE := Aside0.mk he
 have tl : decide (szT (rowsTot totObs x.f1) 1048576 < 0) = false := decide_eq_false hp.nonneg
 clear hr1 hc1 hp he
 go_enter Tryz.func3, Tryz.ntmps3
 go_wp2_with ((with_reducible refine gate_dst (N := 1) rfl ?_); refine box_event ?hg (N := 1) ?hd (cs := #[.int .i64 x.f0, .slice A1 x.f1.length c1]) (t := 24) ?hr ?_; (case hd => rfl); (case hg => rfl); (case hr => first | (go_simp; done) | (go_simp; rfl)); intro g1 hg1 w1 bk1 hb1; have HA := Aside0.mk (show TaA w g1 _ w1 from ⟨hb1, bk1⟩); have k0 : w1.cell? ⟨g1, 0, none⟩ = some (.int .i64 x.f0) := blk_cell bk1 0; have k1 : w1.cell? ⟨g1, 1, none⟩ = some (.slice A1 x.f1.length c1) := blk_cell bk1 1; clear hg1 bk1 hb1)
 refine Calls.mono (szReport_calls x A1 c1 1048576 _ (Kd.C_below HR1.out HA.out.1) HC1.out (by decide) (by decide) HP.out.fit) ?_
 rintro e w2 ⟨rfl, hb⟩
 replace HA := Aside0.mk (HA.out.below hb)
 clear hb k0 k1
 have k0 : w2.cell? ⟨g1, 0, none⟩ = some (.int .i64 x.f0) := blk_cell HA.out.2 0
 have k1 : w2.cell? ⟨g1, 1, none⟩ = some (.slice A1 x.f1.length c1) := blk_cell HA.out.2 1
 go_wp2_with fail
 refine Calls.mono (toReport_calls x.f0 A1 c1 x.f1 _ (Kd.C_below HR1.out HA.out.1) HC1.out HP.out.small) ?_
 rintro e w3 ⟨B1, d1, rfl, hs, hb⟩
 have HS := Aside0.mk (show ObsAt w w2.heap.size w3.heap.size (.slice B1 x.f1.length d1) l w3 from ObsAt.new HA.out.1.size (by have := hs; rwa [HP.out.copy] at this))
 replace HA := Aside0.mk (HA.out.below hb)
 clear hs hb k0 k1
 rw [HP.out.len] at HS ⊢
 obtain ⟨_, _, e1, hd1, hC1⟩ := HS.out.form
 injection e1 with e1 _ e1'
 subst e1 e1'
 have HX := Aside0.mk (And.intro hd1 hC1)
 clear hd1 hC1
 have HLL := Aside0.mk (show l.length ≤ 1048576 by have := HP.out.small.1; have := HP.out.len; omega)
 go_wp2_with fail
 refine Calls.mono (specTell_calls x.f0 B1 d1 l _ HX.out.2 HX.out.1 HP.out.code HP.out.ok HLL.out HP.out.room) ?_
 rintro e w4 ⟨vz, rfl, hz, hb⟩
 have HZ := Aside0.mk (show BytesAt w w3.heap.size w4.heap.size vz (toI T) w4 from BytesAt.new HA.out.1.size (by rw [HP.out.text]; exact hz))
 replace HA := Aside0.mk (HA.out.below hb)
 have HG1 := Aside0.mk (blk_lt HA.out.2)
 clear hz hb HS HX
 obtain ⟨Bz, dz, ez, _, _⟩ := HZ.out.form
 subst ez
 have k0 : w4.cell? ⟨g1, 0, none⟩ = some (.int .i64 x.f0) := blk_cell HA.out.2 0
 have k1 : w4.cell? ⟨g1, 1, none⟩ = some (.slice A1 x.f1.length c1) := blk_cell HA.out.2 1
 go_wp2_with fail
 refine Calls.mono (toReport_calls x.f0 A1 c1 x.f1 _ (Kd.C_below HR1.out HA.out.1) HC1.out HP.out.small) ?_
 rintro e w5 ⟨B1, d1, rfl, hs, hb⟩
 have HS := Aside0.mk (show ObsAt w w4.heap.size w5.heap.size (.slice B1 x.f1.length d1) l w5 from ObsAt.new HA.out.1.size (by have := hs; rwa [HP.out.copy] at this))
 replace HZ := Aside0.mk (HZ.out.below hb)
 replace HA := Aside0.mk (HA.out.below hb)
 clear hs hb k0 k1
 rw [HP.out.len] at HS ⊢
 go_wp2_with ((with_reducible refine gate_dst (N := 5) rfl ?_); refine box_event ?hg (N := 5) ?hd (cs := #[.int .i64 0, .slice none 0 0]) (t := 30) ?hr ?_; (case hd => rfl); (case hg => rfl); (case hr => first | (go_simp; done) | (go_simp; rfl)); intro g6 hg6 w6 bk6 hb6; have HG6 := Aside0.mk hg6; have BK6 := Aside0.mk bk6; have HB6 := Aside0.mk hb6; have k60 : w6.cell? ⟨g6, 0, none⟩ = some (.int .i64 0) := blk_cell bk6 0; have k61 : w6.cell? ⟨g6, 1, none⟩ = some (.slice none 0 0) := blk_cell bk6 1; have f60 := blk_frozen bk6 0; have f61 := blk_frozen bk6 1; clear hg6 bk6 hb6)
 have hKp : Kept w6 ((w6.setCell ⟨g6, 0, none⟩ (.int .i64 x.f0)).setCell ⟨g6, 1, none⟩ (.slice B1 l.length d1)) (fun k => k = g6) := Kept.setCell (S := fun k => k = g6) (p := ⟨g6, 1, none⟩) (Kept.setCell (S := fun k => k = g6) (p := ⟨g6, 0, none⟩) (Kept.refl _ _) (.inl rfl) _) (.inl rfl) _
 have hge6 : w.heap.size ≤ g6 := by have := HG6.out; have := HA.out.1.size; omega
 have hBl : Below w.heap.size w ((w6.setCell ⟨g6, 0, none⟩ (.int .i64 x.f0)).setCell ⟨g6, 1, none⟩ (.slice B1 l.length d1)) := below_set (below_set (below_step HA.out.1 HB6.out) hge6) hge6
 have hn16 : g1 ≠ g6 := by have := blk_lt HA.out.2; have := HG6.out; omega
 have hb1' := blk_far (p := ⟨g6, 1, none⟩) (blk_far (p := ⟨g6, 0, none⟩) (blk_below HA.out.2 HB6.out) hn16 (.int .i64 x.f0)) hn16 (.slice B1 l.length d1)
 have hb6' := blk_put (cs' := #[.int .i64 x.f0, .slice B1 l.length d1]) (blk_put (cs' := #[.int .i64 x.f0, .slice none 0 0]) BK6.out 0 (.int .i64 x.f0) rfl) 1 (.slice B1 l.length d1) rfl
 obtain ⟨w7, hw7⟩ : ∃ W, W = ((w6.setCell ⟨g6, 0, none⟩ (.int .i64 x.f0)).setCell ⟨g6, 1, none⟩ (.slice B1 l.length d1)) := ⟨_, rfl⟩
 rw [← hw7] at hKp hBl hb1' hb6' ⊢
 replace HZ := Aside0.mk ((HZ.out.below HB6.out).kept hKp (fun k _ h e => by have := HZ.out.2.1; have := HG6.out; omega))
 replace HS := Aside0.mk ((HS.out.below HB6.out).kept hKp (fun k _ h e => by have := HS.out.2.1; have := HG6.out; omega))
 replace HA := Aside0.mk (show TaA w g1 _ w7 from ⟨hBl, hb1'⟩)
 replace BK6 := Aside0.mk hb6'
 have HGE6 := Aside0.mk hge6
 have HN16 := Aside0.mk hn16
 clear hw7 hKp hBl hb1' hb6' hge6 hn16 k60 k61 f60 f61 HB6 w6
 obtain ⟨_, _, e1, hd1, hC1⟩ := HS.out.form
 injection e1 with e1 _ e1'
 subst e1 e1'
 have HX := Aside0.mk (And.intro hd1 hC1)
 clear hd1 hC1
 refine Calls.mono (implTell_calls x.f0 B1 d1 l _ HX.out.2 HX.out.1 HP.out.code HP.out.ok HLL.out (by have := HP.out.room; omega) (HE.out.below HA.out.1)) ?_
 rintro e w8 ⟨vg, rfl, hz, hb⟩
 have HGo := Aside0.mk (show BytesAt w w7.heap.size w8.heap.size vg (toI T) w8 from BytesAt.new HA.out.1.size (by rw [HP.out.text]; exact R_of_bytes hz rfl rfl))
 have HSG := Aside0.mk (show w7.heap.size ≤ w8.heap.size from hb.size)
 have HS7 := Aside0.mk HS.out.2.1
 have HZ7 := Aside0.mk HZ.out.2.1
 replace HA := Aside0.mk (HA.out.below hb)
 replace HZ := Aside0.mk (HZ.out.below hb)
 replace HS := Aside0.mk (HS.out.below hb)
 replace BK6 := Aside0.mk (blk_below BK6.out hb)
 clear hz hb HX
 obtain ⟨Bg, dg, eg, hdg, hCg⟩ := HGo.out.form
 subst eg
 obtain ⟨_, _, ez, hdz, hCz⟩ := HZ.out.form
 injection ez with ez _ ez'
 subst ez ez'
 have HX := Aside0.mk (And.intro hdg (And.intro hCg (And.intro hdz hCz)))
 clear hdg hCg hdz hCz
 go_wp2_with fail
 refine Calls.mono (laws_eqByteS.calls k Bg dg (toI T) Bz dz (toI T) true _ HX.out.2.1 HX.out.1 HX.out.2.2.2 HX.out.2.2.1 HP.out.eqb) ?_
 rintro e w9 ⟨rfl, hd⟩
 replace HA := Aside0.mk (HA.out.below hd.below)
 replace HZ := Aside0.mk (HZ.out.below hd.below)
 replace HS := Aside0.mk (HS.out.below hd.below)
 replace HGo := Aside0.mk (HGo.out.below hd.below)
 replace BK6 := Aside0.mk (blk_below BK6.out hd.below)
 clear hd HX
 have k0 : w9.cell? ⟨g1, 0, none⟩ = some (.int .i64 x.f0) := blk_cell HA.out.2 0
 have k1 : w9.cell? ⟨g1, 1, none⟩ = some (.slice A1 x.f1.length c1) := blk_cell HA.out.2 1
 have k60 : w9.cell? ⟨g6, 0, none⟩ = some (.int .i64 x.f0) := blk_cell BK6.out 0
 have k61 : w9.cell? ⟨g6, 1, none⟩ = some (.slice B1 l.length d1) := blk_cell BK6.out 1
 go_wp2_with fail
 have HB9 := Aside0.mk HA.out.1
 go_region_with (first | (go_at_call 6; refine Calls.mono (toReport_l HP.out A1 c1 _ ?x1 HC1.out) ?_; (case x1 => exact Kd.C_below HR1.out (below_step HB9.out (by repeat (first | exact Below.refl _ _ | apply below_drew1 | apply pw_below_drewN)))); rintro e w10 ⟨E1, q1, rfl, hs, hb⟩; have hb' : Below w9.heap.size w9 w10 := below_step (by repeat (first | exact Below.refl _ _ | apply below_drew1 | apply pw_below_drewN)) hb; have HS2 := Aside0.mk (Kd.R_reads' hs); have HB10 := Aside0.mk hb'; have j60 : w10.cell? ⟨g6, 0, none⟩ = some (.int .i64 x.f0) := blk_cell (blk_below BK6.out hb') 0; have j61 : w10.cell? ⟨g6, 1, none⟩ = some (.slice B1 l.length d1) := blk_cell (blk_below BK6.out hb') 1; have HY := Aside0.mk (Kd.R_reads' (HS.out.below hb').2.2); clear hs hb hb') | (go_at_call 9; refine Calls.mono (eqReport_calls ⟨x.f0, l⟩ B1 d1 E1 q1 _ ?r1 HY.out.2.1 ?r3 HS2.out.2.1 HP.out.lim) ?_; (case r1 => exact Kd.C_below HY.out.2.2 (by repeat (first | exact Below.refl _ _ | apply below_drew1 | apply pw_below_drewN))); (case r3 => exact Kd.C_below HS2.out.2.2 (by repeat (first | exact Below.refl _ _ | apply below_drew1 | apply pw_below_drewN))); rintro e w11 ⟨rfl, hb⟩; have HB11 := Aside0.mk (below_step HB10.out (below_step (by repeat (first | exact Below.refl _ _ | apply below_drew1 | apply pw_below_drewN)) hb)); clear hb))
 all_goals (
  replace HA := Aside0.mk (HA.out.below HB11.out)
  replace HZ := Aside0.mk (HZ.out.below HB11.out)
  replace HS := Aside0.mk (HS.out.below HB11.out)
  replace HGo := Aside0.mk (HGo.out.below HB11.out)
  replace BK6 := Aside0.mk (blk_below BK6.out HB11.out)
  clear k0 k1 k60 k61 j60 j61 HY HS2 HB9 HB10 HB11
  have k60 : w11.cell? ⟨g6, 0, none⟩ = some (.int .i64 x.f0) := blk_cell BK6.out 0
  have k61 : w11.cell? ⟨g6, 1, none⟩ = some (.slice B1 l.length d1) := blk_cell BK6.out 1
  go_wp2_with fail
  refine Calls.mono (markReport_sh w w11 (fun k => w4.heap.size ≤ k ∧ k < w5.heap.size) x.f0 _ l 1 (by omega) HP.out.tot HP.out.lim.2.1 (fun k h => Nat.le_trans HS.out.1 h.1) HA.out.1 HP.out.lim.2.2 (ShRow.of_R HS.out.2.2 (fun k h => h) (fun y cs h => ShObs.of_M (fun k h => h) h))) ?_
  rintro e w12 ⟨b, rfl, hbv, hsc⟩
  have hb := hsc.below
  have hk := hsc.kept
  replace HA := Aside0.mk (show TaA w g1 _ w12 from ⟨hb, blk_kept HA.out.2 hk (fun h => by have := HG1.out; have := h.1; omega)⟩)
  replace HZ := Aside0.mk (HZ.out.kept hk (fun k _ h2 h => by have := h.1; omega))
  replace HGo := Aside0.mk (HGo.out.kept hk (fun k h1 _ h => by have := HS7.out; have := h.2; omega))
  have tneg : decide (b < 0) = false := decide_eq_false (by omega)
  clear hb hk hsc hbv k60 k61 BK6 HS
  obtain ⟨_, _, eg, hdg, hCg⟩ := HGo.out.form
  injection eg with eg _ eg'
  subst eg eg'
  obtain ⟨_, _, ez, hdz, hCz⟩ := HZ.out.form
  injection ez with ez _ ez'
  subst ez ez'
  have HX := Aside0.mk (And.intro hdg (And.intro hCg (And.intro hdz hCz)))
  clear hdg hCg hdz hCz
  go_wp2_with fail
  refine Calls.mono (laws_eqByteS.calls k Bg dg (toI T) Bz dz (toI T) true _ HX.out.2.1 HX.out.1 HX.out.2.2.2 HX.out.2.2.1 HP.out.eqb) ?_
  rintro e w13 ⟨rfl, hd⟩
  replace HA := Aside0.mk (HA.out.below hd.below)
  replace HZ := Aside0.mk (HZ.out.below hd.below)
  replace HGo := Aside0.mk (HGo.out.below hd.below)
  clear hd HX tneg
  go_wp2_with fail
  refine Calls.mono (laws_markByteS.calls k _ _ (toI T) 1 _ z2 w _ HA.out.1 HGo.out.2.2 HP.out.mark) ?_
  rintro e w14 ⟨rfl, hr, hb, hk⟩
  have HM := Aside0.mk hr
  replace HA := Aside0.mk (show TaA w g1 _ w14 from ⟨hb, blk_kept HA.out.2 hk (fun h => by have := HG1.out; have := HS7.out; have := HZ7.out; have := h.1; omega)⟩)
  replace HZ := Aside0.mk (HZ.out.kept hk (fun k _ h2 h => by have := HZ7.out; have := h.1; omega))
  clear hr hb hk HGo
  have tneg : decide ((1 : Int) + ((toI T).length : Int) < 0) = false := decide_eq_false (by omega)
  have hl := Kd.R_reads' HM.out
  have HL := Aside0.mk hl
  clear hl
  go_wp2_with fail
  refine calls_of_args (args' := #[.slice Bg z2.length dg, .int .i64 1]) (by rw [HL.out.1]) ?_
  refine Calls.mono (laws_heldByteS.calls k Bg dg z2 1 _ _ HL.out.2.2 (by rw [← HL.out.1]; exact HL.out.2.1) HP.out.held) ?_
  rintro e w15 ⟨rfl, hd⟩
  replace HA := Aside0.mk (HA.out.below hd.below)
  replace HZ := Aside0.mk (HZ.out.below hd.below)
  clear hd HM HL
  have k0 : w15.cell? ⟨g1, 0, none⟩ = some (.int .i64 x.f0) := blk_cell HA.out.2 0
  have k1 : w15.cell? ⟨g1, 1, none⟩ = some (.slice A1 x.f1.length c1) := blk_cell HA.out.2 1
  go_wp2_with fail
  refine Calls.mono (toReport_l HP.out A1 c1 _ (Kd.C_below HR1.out HA.out.1) HC1.out) ?_
  rintro e w16 ⟨E1, q1, rfl, hs, hb⟩
  replace HA := Aside0.mk (HA.out.below hb)
  replace HZ := Aside0.mk (HZ.out.below hb)
  have HX := Aside0.mk (Kd.R_reads' hs)
  clear hs hb k0 k1 tneg
  go_wp2_with fail
  refine Calls.mono (implTell_calls x.f0 E1 q1 l _ HX.out.2.2 HX.out.2.1 HP.out.code HP.out.ok HLL.out (by have := HP.out.room; omega) (HE.out.below HA.out.1)) ?_
  rintro e w17 ⟨vh, rfl, hz, hb⟩
  have HH := Aside0.mk (show BytesAt w w16.heap.size w17.heap.size vh (toI T) w17 from BytesAt.new HA.out.1.size (by rw [HP.out.text]; exact R_of_bytes hz rfl rfl))
  replace HA := Aside0.mk (HA.out.below hb)
  replace HZ := Aside0.mk (HZ.out.below hb)
  clear hz hb HX
  obtain ⟨Bh, dh, eh, hdh, hCh⟩ := HH.out.form
  subst eh
  obtain ⟨_, _, ez, hdz, hCz⟩ := HZ.out.form
  injection ez with ez _ ez'
  subst ez ez'
  have HX := Aside0.mk (And.intro hdh (And.intro hCh (And.intro hdz hCz)))
  clear hdh hCh hdz hCz
  go_wp2_with fail
  refine Calls.mono (laws_eqByteS.calls k Bh dh (toI T) Bz dz (toI T) true _ HX.out.2.1 HX.out.1 HX.out.2.2.2 HX.out.2.2.1 HP.out.eqb) ?_
  rintro e w18 ⟨rfl, hd⟩
  have HF := Aside0.mk (HA.out.below hd.below).1
  clear hd
  go_wp2
  go_ret
  exact ⟨rfl, HF.out⟩
 )
set_option maxHeartbeats 8000000 in
set_option maxRecDepth 100000 in
theorem lawTell.large (x : S24) (A1 : Option Addr) (c1 : Nat) (w : World) (hr1 : Kd.C k83 w A1 x.f1.length x.f1) (hc1 : x.f1.length ≤ c1) (hf : x.f1.length ≤ 9223372036854775807 ∧ ∀ y ∈ x.f1, ObsFit y) (hn : szT (rowsTot totObs x.f1) 1048576 < 0) :
 Calls Tryz.prog 3 #[.agg #[.int .i64 x.f0, .slice A1 x.f1.length c1]] w fun e w' => e = .returned (.bool true) ∧ Below w.heap.size w w' := by
 have hu1 := Tryz.underlying24
 have HR1 := Aside0.mk hr1
 have HC1 := Aside0.mk hc1
 have HFT := Aside0.mk hf
 have tl : decide (szT (rowsTot totObs x.f1) 1048576 < 0) = true := decide_eq_true hn
 clear hr1 hc1 hf hn
 go_enter Tryz.func3, Tryz.ntmps3
 go_wp2_with ((with_reducible refine gate_dst (N := 1) rfl ?_); refine box_event ?hg (N := 1) ?hd (cs := #[.int .i64 x.f0, .slice A1 x.f1.length c1]) (t := 24) ?hr ?_; (case hd => rfl); (case hg => rfl); (case hr => first | (go_simp; done) | (go_simp; rfl)); intro g1 hg1 w1 bk1 hb1; have HA := Aside0.mk hb1; have k0 : w1.cell? ⟨g1, 0, none⟩ = some (.int .i64 x.f0) := blk_cell bk1 0; have k1 : w1.cell? ⟨g1, 1, none⟩ = some (.slice A1 x.f1.length c1) := blk_cell bk1 1; clear hg1 bk1 hb1)
 refine Calls.mono (szReport_calls x A1 c1 1048576 _ (Kd.C_below HR1.out HA.out) HC1.out (by decide) (by decide) HFT.out) ?_
 rintro e w2 ⟨rfl, hb⟩
 have HF := Aside0.mk (below_step HA.out hb)
 clear hb k0 k1
 go_wp2
 go_ret
 exact ⟨rfl, HF.out⟩

end Go.Proofs.YtibhaklgajkalaaGreatDoor.YTell
