/- T6 -/
import Derived.Test.YtibhaklgajkalaaGreatDoorYTellx0
import Derived.Test.YtibhaklgajkalaaGreatDoorYTellT1
import Derived.Test.YtibhaklgajkalaaGreatDoorYTellT2
import Derived.Test.YtibhaklgajkalaaGreatDoorYTellT5
namespace Go.Proofs.YtibhaklgajkalaaGreatDoor.YTell
open Go.RowKit Go.Proofs.YtibhaklgajkalaaGreatDoorW.PrintWords Go.Proofs.YtibhaklgajkalaaGreatDoorW.PrintLast Go.Proofs.YtibhaklgajkalaaGreatDoorW.PrintMore
attribute [local go_sem] max2_int min2_int max_two min_two max_three min_three max_four min_four
set_option linter.unusedVariables false
set_option linter.unusedSimpArgs false
def convAck (x : S140) : S53 := ⟨x.f0, x.f1, x.f2, x.f3, x.f4⟩
def convView (x : S81) : S48 := ⟨x.f0, x.f1, x.f2, x.f3, x.f4, x.f5, x.f6, x.f7⟩
def convService (x : S78) : S44 := ⟨x.f0, x.f1.map convItem, x.f2.map convSession⟩
def convObs (x : S83) : S50 := ⟨x.f0, x.f1, convItem x.f2, convService x.f3, x.f4.map convAck, x.f5.map convMessage, convView x.f6⟩
def ServiceSmall (x : S78) : Prop := (x.f1.length ≤ 1048576 ∧ ∀ y ∈ x.f1, ItemSmall y) ∧ (x.f2.length ≤ 1048576 ∧ ∀ y ∈ x.f2, SessionSmall y)
def ObsSmall (x : S83) : Prop := ItemSmall x.f2 ∧ ServiceSmall x.f3 ∧ x.f4.length ≤ 1048576 ∧ (x.f5.length ≤ 1048576 ∧ ∀ y ∈ x.f5, MessageSmall y)
theorem acks_copied (x : List S140) (hx : x.length ≤ 1048576) (d : Nat) : ∀ (k i : Nat) (y : List S53), y.length = x.length → i ≤ x.length → x.length - i = d → d < k → (∀ j, j < i → y[j]? = (x.map convAck)[j]?) →
 laws_toAckS.l0 k x y (i : Int) = some (x.map convAck) := by
 induction d with
 | zero =>
  intro k i y hl hi hd hk ht
  obtain ⟨k, rfl⟩ : ∃ m, k = m + 1 := ⟨k - 1, by omega⟩
  rw [laws_toAckS.l0, if_neg (by omega)]
  rw [made_end convAck x y hl (fun j hj => ht j (by omega))]
 | succ d ih =>
  intro k i y hl hi hd hk ht
  obtain ⟨k, rfl⟩ : ∃ m, k = m + 1 := ⟨k - 1, by omega⟩
  rw [laws_toAckS.l0, if_pos (by omega), if_pos (by omega)]
  show (if ((i : Nat) : Int) < (y.length : Int) then laws_toAckS.l0 k x (y.set ((i : Nat) : Int).toNat ⟨(rd_T140 x (i : Int)).f0, (rd_T140 x (i : Int)).f1, (rd_T140 x (i : Int)).f2, (rd_T140 x (i : Int)).f3, (rd_T140 x (i : Int)).f4⟩) (wrap64 ((i : Int) + 1)) else none) = _
  rw [if_pos (by omega), Go.Proofs.YtibhaklgajkalaaGreatDoor.Num.w64n (by omega)]
  refine ih k (i + 1) _ (by simpa using hl) (by omega) (by omega) (by omega) ?_
  rw [Int.toNat_natCast]
  have hlt : i < x.length := by omega
  exact made_set convAck x y i _ hl hlt (by simp [rd_T140, List.getD, hlt, convAck]) ht
theorem acks_copy (x : List S140) (hx : x.length ≤ 1048576) : laws_toAckS.f 1048577 x = some (x.map convAck) := by
 unfold laws_toAckS.f
 rw [if_pos (by omega), if_pos (by omega)]
 exact acks_copied x hx x.length _ 0 _ (by simp) (by omega) (by omega) (by omega) (fun j hj => by omega)
theorem service_told (x : S78) (h : ServiceSmall x) : laws_toService.f x.f0 x.f1 x.f2 = some (x.f0, x.f1.map convItem, x.f2.map convSession) := by
 unfold laws_toService.f
 rw [toItemS_told x.f1 h.1, toSessionS_told x.f2 h.2]
 rfl
theorem below_row {w W : World} {g : Nat} {cs : Array Value} (h : Below w.heap.size w W) (hg : w.heap.size ≤ g) : Below w.heap.size w (W.setRow g cs) :=
 ⟨h.os, h.tape, h.output, by rw [setRow_size]; exact h.size, fun k hk => (setRow_other W g k cs (by omega)).trans (h.block k hk)⟩
theorem Kept.row {w W : World} {S : Nat → Prop} {g : Nat} {cs : Array Value} (h : Kept w W S) (hg : S g) : Kept w (W.setRow g cs) S :=
 ⟨by rw [setRow_size]; exact h.1, fun i hi hn => (setRow_other W g i cs (fun e => hn (e ▸ hg))).trans (h.2 i hi hn)⟩
theorem add0 (g j : Nat) : (⟨g, 0, none⟩ : Addr).add j = ⟨g, j, none⟩ := by simp [Addr.add]; omega
theorem there_of_blk {w : World} {g t o n : Nat} {cs : Array Value} (h : w.heap[g]? = some (.cells cs t (0, 0))) (hn : o + n ≤ cs.size) : w.there g o n := fun j hj => by
 rw [blk_cell h, blk_frozen h, Array.getElem?_eq_getElem (by omega)]
 exact ⟨rfl, rfl⟩
theorem isz_48 : (Tryz.prog.info? 48).map (·.size) = some 8 := by kernel_rfl
theorem isz_50 : (Tryz.prog.info? 50).map (·.size) = some 18 := by kernel_rfl

set_option maxHeartbeats 8000000 in
set_option maxRecDepth 100000 in
theorem toObs_calls (x : S83) (A4 : Option Addr) (c4 : Nat) (A6 : Option Addr) (c6 : Nat) (A7 : Option Addr) (c7 : Nat) (A8 : Option Addr) (c8 : Nat) (A9 : Option Addr) (c9 : Nat) (w : World) (hr4 : Kd.C (Kd.int .u8) w A4 x.f2.f2.length x.f2.f2) (hc4 : x.f2.f2.length ≤ c4) (hr6 : Kd.C k74 w A6 x.f3.f1.length x.f3.f1) (hc6 : x.f3.f1.length ≤ c6) (hr7 : Kd.C k160 w A7 x.f3.f2.length x.f3.f2) (hc7 : x.f3.f2.length ≤ c7) (hr8 : Kd.C k140 w A8 x.f4.length x.f4) (hc8 : x.f4.length ≤ c8) (hr9 : Kd.C k136 w A9 x.f5.length x.f5) (hc9 : x.f5.length ≤ c9) (hs : ObsSmall x) :
 Calls Tryz.prog 28 #[.agg #[.int .i64 x.f0, .int .i64 x.f1, .int .i64 x.f2.f0, .int .i64 x.f2.f1, .slice A4 x.f2.f2.length c4, .int .i64 x.f3.f0, .slice A6 x.f3.f1.length c6, .slice A7 x.f3.f2.length c7, .slice A8 x.f4.length c8, .slice A9 x.f5.length c9, .int .i64 x.f6.f0, .int .i64 x.f6.f1, .int .i64 x.f6.f2, .int .i64 x.f6.f3, .int .i64 x.f6.f4, .int .i64 x.f6.f5, .int .i64 x.f6.f6, .int .i64 x.f6.f7]] w fun e w' => ∃ cs : List Value, e = .returned (.agg cs.toArray) ∧ k50.M w' w.heap.size (fun _ => True) (convObs x) cs ∧ Below w.heap.size w w' := by
 have hu83 := Tryz.underlying83
 have hu50 := Tryz.underlying50
 have hu74 := Tryz.underlying74
 have hu40 := Tryz.underlying40
 have hu78 := Tryz.underlying78
 have hu44 := Tryz.underlying44
 have hu81 := Tryz.underlying81
 have hu48 := Tryz.underlying48
 have HR4 := Aside0.mk hr4
 have HC4 := Aside0.mk hc4
 have HR6 := Aside0.mk hr6
 have HC6 := Aside0.mk hc6
 have HR7 := Aside0.mk hr7
 have HC7 := Aside0.mk hc7
 have HR8 := Aside0.mk hr8
 have HC8 := Aside0.mk hc8
 have HR9 := Aside0.mk hr9
 have HC9 := Aside0.mk hc9
 have HS := Aside0.mk hs
 clear hs hr4 hc4 hr6 hc6 hr7 hc7 hr8 hc8 hr9 hc9
 go_enter Tryz.func28, Tryz.ntmps28
 go_wp2_with (first | ((with_reducible refine gate_dst (N := 1) rfl ?_); refine box_event ?hg (N := 1) ?hd (cs := #[.int .i64 x.f0, .int .i64 x.f1, .int .i64 x.f2.f0, .int .i64 x.f2.f1, .slice A4 x.f2.f2.length c4, .int .i64 x.f3.f0, .slice A6 x.f3.f1.length c6, .slice A7 x.f3.f2.length c7, .slice A8 x.f4.length c8, .slice A9 x.f5.length c9, .int .i64 x.f6.f0, .int .i64 x.f6.f1, .int .i64 x.f6.f2, .int .i64 x.f6.f3, .int .i64 x.f6.f4, .int .i64 x.f6.f5, .int .i64 x.f6.f6, .int .i64 x.f6.f7]) (t := 83) ?hr ?_; (case hd => rfl); (case hg => rfl); (case hr => first | (go_simp; done) | (go_simp; rfl)); intro g1 hgg1 w1 bkg1 hbg1; have G1 := Aside0.mk hgg1; have K1 := Aside0.mk bkg1; have HB1 := Aside0.mk hbg1; clear hgg1 bkg1 hbg1) | ((with_reducible refine gate_dst (N := 2) rfl ?_); refine box_event ?hg (N := 2) ?hd (cs := #[.int .i64 0, .int .i64 0, .int .i64 0, .int .i64 0, .slice none 0 0, .int .i64 0, .slice none 0 0, .slice none 0 0, .slice none 0 0, .slice none 0 0, .int .i64 0, .int .i64 0, .int .i64 0, .int .i64 0, .int .i64 0, .int .i64 0, .int .i64 0, .int .i64 0]) (t := 50) ?hr ?_; (case hd => rfl); (case hg => rfl); (case hr => first | (go_simp; done) | (go_simp; rfl)); intro g2 hgg2 w2 bkg2 hbg2; have G2 := Aside0.mk hgg2; have K2 := Aside0.mk bkg2; have L2 := Aside0.mk (blk_lt bkg2); have HB2 := Aside0.mk hbg2; clear hgg2 bkg2 hbg2) | ((with_reducible refine gate_dst (N := 3) rfl ?_); refine box_event ?hg (N := 3) ?hd (cs := #[.int .i64 0, .int .i64 0, .int .i64 0, .int .i64 0, .slice none 0 0, .int .i64 0, .slice none 0 0, .slice none 0 0, .slice none 0 0, .slice none 0 0, .int .i64 0, .int .i64 0, .int .i64 0, .int .i64 0, .int .i64 0, .int .i64 0, .int .i64 0, .int .i64 0]) (t := 50) ?hr ?_; (case hd => rfl); (case hg => rfl); (case hr => first | (go_simp; done) | (go_simp; rfl)); intro g3 hgg3 w3 bkg3 hbg3; have G3 := Aside0.mk hgg3; have K3 := Aside0.mk bkg3; have HB3 := Aside0.mk hbg3; replace K1 := Aside0.mk (blk_below (blk_below K1.out HB2.out) HB3.out); replace K2 := Aside0.mk (blk_below K2.out HB3.out); have k1_0 : w3.cell? ⟨g1, 0, none⟩ = some (.int .i64 x.f0) := blk_cell K1.out 0; have k1_1 : w3.cell? ⟨g1, 1, none⟩ = some (.int .i64 x.f1) := blk_cell K1.out 1; have k1_2 : w3.cell? ⟨g1, 2, none⟩ = some (.int .i64 x.f2.f0) := blk_cell K1.out 2; have k1_3 : w3.cell? ⟨g1, 3, none⟩ = some (.int .i64 x.f2.f1) := blk_cell K1.out 3; have k1_4 : w3.cell? ⟨g1, 4, none⟩ = some (.slice A4 x.f2.f2.length c4) := blk_cell K1.out 4; have k3_0 : w3.cell? ⟨g3, 0, none⟩ = some (.int .i64 0) := blk_cell K3.out 0; have f3_0 : w3.frozen? ⟨g3, 0, none⟩ = false := blk_frozen K3.out 0; have k3_1 : w3.cell? ⟨g3, 1, none⟩ = some (.int .i64 0) := blk_cell K3.out 1; have f3_1 : w3.frozen? ⟨g3, 1, none⟩ = false := blk_frozen K3.out 1; clear hgg3 bkg3 hbg3))
 have N13 := Aside0.mk (show ¬ g1 = g3 from fun e => by have h1 := K1.out; have h3 := K3.out; rw [e, h3] at h1; injection h1 with h1; injection h1 with _ h1; exact absurd h1 (by decide))
 have N23 := Aside0.mk (show ¬ g2 = g3 by have := G3.out; have := L2.out; omega)
 have HGE := Aside0.mk (show w.heap.size ≤ g3 by have := G3.out; have := HB1.out.size; have := HB2.out.size; omega)
 have HGE2 := Aside0.mk (show w.heap.size ≤ g2 by have := G2.out; have := HB1.out.size; omega)
 have HB := Aside0.mk (show Below w.heap.size w w3 from below_step (below_step HB1.out HB2.out) HB3.out)
 clear HB1 HB2 HB3 G1 G2 G3 L2 k1_0 k1_1 k1_2 k1_3 k1_4 k3_0 f3_0 k3_1 f3_1
 have KW := Aside0.mk (show Kept w3 ((w3.setCell ⟨g3, 0, none⟩ (.int .i64 x.f0)).setCell ⟨g3, 1, none⟩ (.int .i64 x.f1)) (fun q => q = g3) from ((Kept.refl w3 (fun q => q = g3)).setCell (p := ⟨g3, 0, none⟩) (.inl rfl) _).setCell (p := ⟨g3, 1, none⟩) (.inl rfl) _)
 have BW := Aside0.mk (show Below w.heap.size w ((w3.setCell ⟨g3, 0, none⟩ (.int .i64 x.f0)).setCell ⟨g3, 1, none⟩ (.int .i64 x.f1)) from below_set (below_set (HB.out) HGE.out) HGE.out)
 have K3W := Aside0.mk (blk_put (cs' := #[.int .i64 x.f0, .int .i64 x.f1, .int .i64 0, .int .i64 0, .slice none 0 0, .int .i64 0, .slice none 0 0, .slice none 0 0, .slice none 0 0, .slice none 0 0, .int .i64 0, .int .i64 0, .int .i64 0, .int .i64 0, .int .i64 0, .int .i64 0, .int .i64 0, .int .i64 0]) (blk_put (cs' := #[.int .i64 x.f0, .int .i64 0, .int .i64 0, .int .i64 0, .slice none 0 0, .int .i64 0, .slice none 0 0, .slice none 0 0, .slice none 0 0, .slice none 0 0, .int .i64 0, .int .i64 0, .int .i64 0, .int .i64 0, .int .i64 0, .int .i64 0, .int .i64 0, .int .i64 0]) (K3.out) 0 _ rfl) 1 _ rfl)
 clear K3
 refine (laws_toItem.calls 1048577 _ _ A4 c4 _ _ _ _ _ (Kd.C_below HR4.out BW.out) HC4.out (Item_told x.f2 HS.out.1)).mono ?_
 rintro e w4 ⟨v4, rfl, ho4, hb⟩
 as_aux_lemma =>
 have KK := Aside0.mk (KW.out.below hb)
 have RD4 := Aside0.mk (show Kd.R (Kd.int .u8) 5 w4 w.heap.size (fun q => q ≠ g3 ∧ q ≠ g2) v4 x.f2.f2 from Kd.R_lower (Kd.R_mono (Kd.R_bound ho4) (fun q hq => by have h1 := hq.2.1; have h2 := blk_lt K3W.out; have h3 := blk_lt (blk_kept K2.out KW.out N23.out); exact ⟨by omega, by omega⟩)) BW.out.size)
 replace K1 := Aside0.mk (blk_kept K1.out KK.out N13.out)
 replace K2 := Aside0.mk (blk_kept K2.out KK.out N23.out)
 have K3 := Aside0.mk (blk_below K3W.out hb)
 replace HB := Aside0.mk (below_step BW.out hb)
 obtain ⟨B4, d4, e4⟩ := Kd.R_slice RD4.out
 subst e4
 clear KW BW K3W KK hb ho4
 have k1_5 : w4.cell? ⟨g1, 5, none⟩ = some (.int .i64 x.f3.f0) := blk_cell K1.out 5
 have k1_6 : w4.cell? ⟨g1, 6, none⟩ = some (.slice A6 x.f3.f1.length c6) := blk_cell K1.out 6
 have k1_7 : w4.cell? ⟨g1, 7, none⟩ = some (.slice A7 x.f3.f2.length c7) := blk_cell K1.out 7
 have k3_2 : w4.cell? ⟨g3, 2, none⟩ = some (.int .i64 0) := blk_cell K3.out 2; have f3_2 : w4.frozen? ⟨g3, 2, none⟩ = false := blk_frozen K3.out 2
 have k3_3 : w4.cell? ⟨g3, 3, none⟩ = some (.int .i64 0) := blk_cell K3.out 3; have f3_3 : w4.frozen? ⟨g3, 3, none⟩ = false := blk_frozen K3.out 3
 have k3_4 : w4.cell? ⟨g3, 4, none⟩ = some (.slice none 0 0) := blk_cell K3.out 4; have f3_4 : w4.frozen? ⟨g3, 4, none⟩ = false := blk_frozen K3.out 4
 go_wp2_with fail
 clear k1_5 k1_6 k1_7 k3_2 f3_2 k3_3 f3_3 k3_4 f3_4
 have KW := Aside0.mk (show Kept w4 (((w4.setCell ⟨g3, 2, none⟩ (.int .i64 x.f2.f0)).setCell ⟨g3, 3, none⟩ (.int .i64 x.f2.f1)).setCell ⟨g3, 4, none⟩ (.slice B4 x.f2.f2.length d4)) (fun q => q = g3) from (((Kept.refl w4 (fun q => q = g3)).setCell (p := ⟨g3, 2, none⟩) (.inl rfl) _).setCell (p := ⟨g3, 3, none⟩) (.inl rfl) _).setCell (p := ⟨g3, 4, none⟩) (.inl rfl) _)
 have BW := Aside0.mk (show Below w.heap.size w (((w4.setCell ⟨g3, 2, none⟩ (.int .i64 x.f2.f0)).setCell ⟨g3, 3, none⟩ (.int .i64 x.f2.f1)).setCell ⟨g3, 4, none⟩ (.slice B4 x.f2.f2.length d4)) from below_set (below_set (below_set (HB.out) HGE.out) HGE.out) HGE.out)
 have K3W := Aside0.mk (blk_put (cs' := #[.int .i64 x.f0, .int .i64 x.f1, .int .i64 x.f2.f0, .int .i64 x.f2.f1, .slice B4 x.f2.f2.length d4, .int .i64 0, .slice none 0 0, .slice none 0 0, .slice none 0 0, .slice none 0 0, .int .i64 0, .int .i64 0, .int .i64 0, .int .i64 0, .int .i64 0, .int .i64 0, .int .i64 0, .int .i64 0]) (blk_put (cs' := #[.int .i64 x.f0, .int .i64 x.f1, .int .i64 x.f2.f0, .int .i64 x.f2.f1, .slice none 0 0, .int .i64 0, .slice none 0 0, .slice none 0 0, .slice none 0 0, .slice none 0 0, .int .i64 0, .int .i64 0, .int .i64 0, .int .i64 0, .int .i64 0, .int .i64 0, .int .i64 0, .int .i64 0]) (blk_put (cs' := #[.int .i64 x.f0, .int .i64 x.f1, .int .i64 x.f2.f0, .int .i64 0, .slice none 0 0, .int .i64 0, .slice none 0 0, .slice none 0 0, .slice none 0 0, .slice none 0 0, .int .i64 0, .int .i64 0, .int .i64 0, .int .i64 0, .int .i64 0, .int .i64 0, .int .i64 0, .int .i64 0]) (K3.out) 2 _ rfl) 3 _ rfl) 4 _ rfl)
 clear K3
 refine (laws_toService.calls _ A6 c6 _ A7 c7 _ _ _ _ _ (Kd.C_below HR6.out BW.out) HC6.out (Kd.C_below HR7.out BW.out) HC7.out (service_told x.f3 HS.out.2.1)).mono ?_
 rintro e w5 ⟨v6, v7, rfl, ho6, ho7, hb⟩
 as_aux_lemma =>
 have KK := Aside0.mk (KW.out.below hb)
 have RD6 := Aside0.mk (show Kd.R k40 40 w5 w.heap.size (fun q => q ≠ g3 ∧ q ≠ g2) v6 (x.f3.f1.map convItem) from Kd.R_lower (Kd.R_mono (Kd.R_bound (Kd.S_R ho6)) (fun q hq => by have h1 := hq.2.1; have h2 := blk_lt K3W.out; have h3 := blk_lt (blk_kept K2.out KW.out N23.out); exact ⟨by omega, by omega⟩)) BW.out.size)
 have RD7 := Aside0.mk (show Kd.R k126 126 w5 w.heap.size (fun q => q ≠ g3 ∧ q ≠ g2) v7 (x.f3.f2.map convSession) from Kd.R_lower (Kd.R_mono (Kd.R_bound (Kd.S_R ho7)) (fun q hq => by have h1 := hq.2.1; have h2 := blk_lt K3W.out; have h3 := blk_lt (blk_kept K2.out KW.out N23.out); exact ⟨by omega, by omega⟩)) BW.out.size)
 replace RD4 := Aside0.mk (Kd.R_kept RD4.out KK.out (fun q hq he => hq.1 he))
 replace K1 := Aside0.mk (blk_kept K1.out KK.out N13.out)
 replace K2 := Aside0.mk (blk_kept K2.out KK.out N23.out)
 have K3 := Aside0.mk (blk_below K3W.out hb)
 replace HB := Aside0.mk (below_step BW.out hb)
 obtain ⟨B6, d6, e6⟩ := Kd.R_slice RD6.out
 rw [List.length_map] at e6
 subst e6
 obtain ⟨B7, d7, e7⟩ := Kd.R_slice RD7.out
 rw [List.length_map] at e7
 subst e7
 clear KW BW K3W KK hb ho6 ho7
 have k1_8 : w5.cell? ⟨g1, 8, none⟩ = some (.slice A8 x.f4.length c8) := blk_cell K1.out 8
 have k3_5 : w5.cell? ⟨g3, 5, none⟩ = some (.int .i64 0) := blk_cell K3.out 5; have f3_5 : w5.frozen? ⟨g3, 5, none⟩ = false := blk_frozen K3.out 5
 have k3_6 : w5.cell? ⟨g3, 6, none⟩ = some (.slice none 0 0) := blk_cell K3.out 6; have f3_6 : w5.frozen? ⟨g3, 6, none⟩ = false := blk_frozen K3.out 6
 have k3_7 : w5.cell? ⟨g3, 7, none⟩ = some (.slice none 0 0) := blk_cell K3.out 7; have f3_7 : w5.frozen? ⟨g3, 7, none⟩ = false := blk_frozen K3.out 7
 go_wp2_with fail
 clear k1_8 k3_5 f3_5 k3_6 f3_6 k3_7 f3_7
 have KW := Aside0.mk (show Kept w5 (((w5.setCell ⟨g3, 5, none⟩ (.int .i64 x.f3.f0)).setCell ⟨g3, 6, none⟩ (.slice B6 x.f3.f1.length d6)).setCell ⟨g3, 7, none⟩ (.slice B7 x.f3.f2.length d7)) (fun q => q = g3) from (((Kept.refl w5 (fun q => q = g3)).setCell (p := ⟨g3, 5, none⟩) (.inl rfl) _).setCell (p := ⟨g3, 6, none⟩) (.inl rfl) _).setCell (p := ⟨g3, 7, none⟩) (.inl rfl) _)
 have BW := Aside0.mk (show Below w.heap.size w (((w5.setCell ⟨g3, 5, none⟩ (.int .i64 x.f3.f0)).setCell ⟨g3, 6, none⟩ (.slice B6 x.f3.f1.length d6)).setCell ⟨g3, 7, none⟩ (.slice B7 x.f3.f2.length d7)) from below_set (below_set (below_set (HB.out) HGE.out) HGE.out) HGE.out)
 have K3W := Aside0.mk (blk_put (cs' := #[.int .i64 x.f0, .int .i64 x.f1, .int .i64 x.f2.f0, .int .i64 x.f2.f1, .slice B4 x.f2.f2.length d4, .int .i64 x.f3.f0, .slice B6 x.f3.f1.length d6, .slice B7 x.f3.f2.length d7, .slice none 0 0, .slice none 0 0, .int .i64 0, .int .i64 0, .int .i64 0, .int .i64 0, .int .i64 0, .int .i64 0, .int .i64 0, .int .i64 0]) (blk_put (cs' := #[.int .i64 x.f0, .int .i64 x.f1, .int .i64 x.f2.f0, .int .i64 x.f2.f1, .slice B4 x.f2.f2.length d4, .int .i64 x.f3.f0, .slice B6 x.f3.f1.length d6, .slice none 0 0, .slice none 0 0, .slice none 0 0, .int .i64 0, .int .i64 0, .int .i64 0, .int .i64 0, .int .i64 0, .int .i64 0, .int .i64 0, .int .i64 0]) (blk_put (cs' := #[.int .i64 x.f0, .int .i64 x.f1, .int .i64 x.f2.f0, .int .i64 x.f2.f1, .slice B4 x.f2.f2.length d4, .int .i64 x.f3.f0, .slice none 0 0, .slice none 0 0, .slice none 0 0, .slice none 0 0, .int .i64 0, .int .i64 0, .int .i64 0, .int .i64 0, .int .i64 0, .int .i64 0, .int .i64 0, .int .i64 0]) (K3.out) 5 _ rfl) 6 _ rfl) 7 _ rfl)
 clear K3
 refine (laws_toAckS.calls 1048577 A8 c8 _ _ _ (Kd.C_below HR8.out BW.out) HC8.out (acks_copy x.f4 HS.out.2.2.1)).mono ?_
 rintro e w6 ⟨v8, rfl, ho8, hb⟩
 as_aux_lemma =>
 have KK := Aside0.mk (KW.out.below hb)
 have RD8 := Aside0.mk (show Kd.R k53 53 w6 w.heap.size (fun q => q ≠ g3 ∧ q ≠ g2) v8 (x.f4.map convAck) from Kd.R_lower (Kd.R_mono (Kd.R_bound ho8) (fun q hq => by have h1 := hq.2.1; have h2 := blk_lt K3W.out; have h3 := blk_lt (blk_kept K2.out KW.out N23.out); exact ⟨by omega, by omega⟩)) BW.out.size)
 replace RD4 := Aside0.mk (Kd.R_kept RD4.out KK.out (fun q hq he => hq.1 he))
 replace RD6 := Aside0.mk (Kd.R_kept RD6.out KK.out (fun q hq he => hq.1 he))
 replace RD7 := Aside0.mk (Kd.R_kept RD7.out KK.out (fun q hq he => hq.1 he))
 replace K1 := Aside0.mk (blk_kept K1.out KK.out N13.out)
 replace K2 := Aside0.mk (blk_kept K2.out KK.out N23.out)
 have K3 := Aside0.mk (blk_below K3W.out hb)
 replace HB := Aside0.mk (below_step BW.out hb)
 obtain ⟨B8, d8, e8⟩ := Kd.R_slice RD8.out
 rw [List.length_map] at e8
 subst e8
 clear KW BW K3W KK hb ho8
 have k1_9 : w6.cell? ⟨g1, 9, none⟩ = some (.slice A9 x.f5.length c9) := blk_cell K1.out 9
 have k3_8 : w6.cell? ⟨g3, 8, none⟩ = some (.slice none 0 0) := blk_cell K3.out 8; have f3_8 : w6.frozen? ⟨g3, 8, none⟩ = false := blk_frozen K3.out 8
 go_wp2_with fail
 clear k1_9 k3_8 f3_8
 have KW := Aside0.mk (show Kept w6 (w6.setCell ⟨g3, 8, none⟩ (.slice B8 x.f4.length d8)) (fun q => q = g3) from (Kept.refl w6 (fun q => q = g3)).setCell (p := ⟨g3, 8, none⟩) (.inl rfl) _)
 have BW := Aside0.mk (show Below w.heap.size w (w6.setCell ⟨g3, 8, none⟩ (.slice B8 x.f4.length d8)) from below_set (HB.out) HGE.out)
 have K3W := Aside0.mk (blk_put (cs' := #[.int .i64 x.f0, .int .i64 x.f1, .int .i64 x.f2.f0, .int .i64 x.f2.f1, .slice B4 x.f2.f2.length d4, .int .i64 x.f3.f0, .slice B6 x.f3.f1.length d6, .slice B7 x.f3.f2.length d7, .slice B8 x.f4.length d8, .slice none 0 0, .int .i64 0, .int .i64 0, .int .i64 0, .int .i64 0, .int .i64 0, .int .i64 0, .int .i64 0, .int .i64 0]) (K3.out) 8 _ rfl)
 clear K3
 refine (laws_toMessageS.calls A9 c9 _ _ _ (Kd.C_below HR9.out BW.out) HC9.out (toMessageS_told x.f5 HS.out.2.2.2)).mono ?_
 rintro e w7 ⟨v9, rfl, ho9, hb⟩
 as_aux_lemma =>
 have KK := Aside0.mk (KW.out.below hb)
 have RD9 := Aside0.mk (show Kd.R k129 129 w7 w.heap.size (fun q => q ≠ g3 ∧ q ≠ g2) v9 (x.f5.map convMessage) from Kd.R_lower (Kd.R_mono (Kd.R_bound (Kd.S_R ho9)) (fun q hq => by have h1 := hq.2.1; have h2 := blk_lt K3W.out; have h3 := blk_lt (blk_kept K2.out KW.out N23.out); exact ⟨by omega, by omega⟩)) BW.out.size)
 replace RD4 := Aside0.mk (Kd.R_kept RD4.out KK.out (fun q hq he => hq.1 he))
 replace RD6 := Aside0.mk (Kd.R_kept RD6.out KK.out (fun q hq he => hq.1 he))
 replace RD7 := Aside0.mk (Kd.R_kept RD7.out KK.out (fun q hq he => hq.1 he))
 replace RD8 := Aside0.mk (Kd.R_kept RD8.out KK.out (fun q hq he => hq.1 he))
 replace K1 := Aside0.mk (blk_kept K1.out KK.out N13.out)
 replace K2 := Aside0.mk (blk_kept K2.out KK.out N23.out)
 have K3 := Aside0.mk (blk_below K3W.out hb)
 replace HB := Aside0.mk (below_step BW.out hb)
 obtain ⟨B9, d9, e9⟩ := Kd.R_slice RD9.out
 rw [List.length_map] at e9
 subst e9
 clear KW BW K3W KK hb ho9
 have k1_10 : w7.cell? ⟨g1, 10, none⟩ = some (.int .i64 x.f6.f0) := blk_cell K1.out 10
 have k1_11 : w7.cell? ⟨g1, 11, none⟩ = some (.int .i64 x.f6.f1) := blk_cell K1.out 11
 have k1_12 : w7.cell? ⟨g1, 12, none⟩ = some (.int .i64 x.f6.f2) := blk_cell K1.out 12
 have k1_13 : w7.cell? ⟨g1, 13, none⟩ = some (.int .i64 x.f6.f3) := blk_cell K1.out 13
 have k1_14 : w7.cell? ⟨g1, 14, none⟩ = some (.int .i64 x.f6.f4) := blk_cell K1.out 14
 have k1_15 : w7.cell? ⟨g1, 15, none⟩ = some (.int .i64 x.f6.f5) := blk_cell K1.out 15
 have k1_16 : w7.cell? ⟨g1, 16, none⟩ = some (.int .i64 x.f6.f6) := blk_cell K1.out 16
 have k1_17 : w7.cell? ⟨g1, 17, none⟩ = some (.int .i64 x.f6.f7) := blk_cell K1.out 17
 have k3_9 : w7.cell? ⟨g3, 9, none⟩ = some (.slice none 0 0) := blk_cell K3.out 9; have f3_9 : w7.frozen? ⟨g3, 9, none⟩ = false := blk_frozen K3.out 9
 go_wp2_with fail
 clear k1_10 k1_11 k1_12 k1_13 k1_14 k1_15 k1_16 k1_17 k3_9 f3_9
 have KW := Aside0.mk (show Kept w7 (w7.setCell ⟨g3, 9, none⟩ (.slice B9 x.f5.length d9)) (fun q => q = g3) from (Kept.refl w7 (fun q => q = g3)).setCell (p := ⟨g3, 9, none⟩) (.inl rfl) _)
 have BW := Aside0.mk (show Below w.heap.size w (w7.setCell ⟨g3, 9, none⟩ (.slice B9 x.f5.length d9)) from below_set (HB.out) HGE.out)
 have K3W := Aside0.mk (blk_put (cs' := #[.int .i64 x.f0, .int .i64 x.f1, .int .i64 x.f2.f0, .int .i64 x.f2.f1, .slice B4 x.f2.f2.length d4, .int .i64 x.f3.f0, .slice B6 x.f3.f1.length d6, .slice B7 x.f3.f2.length d7, .slice B8 x.f4.length d8, .slice B9 x.f5.length d9, .int .i64 0, .int .i64 0, .int .i64 0, .int .i64 0, .int .i64 0, .int .i64 0, .int .i64 0, .int .i64 0]) (K3.out) 9 _ rfl)
 clear K3
 refine (laws_toView.calls _ _ _ _ _ _ _ _ _ _ _ _ _ _ _ _ _ rfl).mono ?_
 rintro e w8 ⟨rfl, hb⟩
 as_aux_lemma =>
 have KK := Aside0.mk (KW.out.below hb)
 replace RD4 := Aside0.mk (Kd.R_kept RD4.out KK.out (fun q hq he => hq.1 he))
 replace RD6 := Aside0.mk (Kd.R_kept RD6.out KK.out (fun q hq he => hq.1 he))
 replace RD7 := Aside0.mk (Kd.R_kept RD7.out KK.out (fun q hq he => hq.1 he))
 replace RD8 := Aside0.mk (Kd.R_kept RD8.out KK.out (fun q hq he => hq.1 he))
 replace RD9 := Aside0.mk (Kd.R_kept RD9.out KK.out (fun q hq he => hq.1 he))
 replace K1 := Aside0.mk (blk_kept K1.out KK.out N13.out)
 replace K2 := Aside0.mk (blk_kept K2.out KK.out N23.out)
 have K3 := Aside0.mk (blk_below K3W.out hb)
 replace HB := Aside0.mk (below_step BW.out hb)
 clear KW BW K3W KK hb 
 have KW := Aside0.mk (show Kept w8 (w8.setCells g3 10 [.int .i64 x.f6.f0, .int .i64 x.f6.f1, .int .i64 x.f6.f2, .int .i64 x.f6.f3, .int .i64 x.f6.f4, .int .i64 x.f6.f5, .int .i64 x.f6.f6, .int .i64 x.f6.f7]) (fun q => q = g3 ∨ q = g2) from ((((((((Kept.refl w8 (fun q => q = g3 ∨ q = g2)).setCell (p := ⟨g3, 10, none⟩) (.inl (.inl rfl)) _).setCell (p := ⟨g3, 11, none⟩) (.inl (.inl rfl)) _).setCell (p := ⟨g3, 12, none⟩) (.inl (.inl rfl)) _).setCell (p := ⟨g3, 13, none⟩) (.inl (.inl rfl)) _).setCell (p := ⟨g3, 14, none⟩) (.inl (.inl rfl)) _).setCell (p := ⟨g3, 15, none⟩) (.inl (.inl rfl)) _).setCell (p := ⟨g3, 16, none⟩) (.inl (.inl rfl)) _).setCell (p := ⟨g3, 17, none⟩) (.inl (.inl rfl)) _)
 have BW := Aside0.mk (show Below w.heap.size w (w8.setCells g3 10 [.int .i64 x.f6.f0, .int .i64 x.f6.f1, .int .i64 x.f6.f2, .int .i64 x.f6.f3, .int .i64 x.f6.f4, .int .i64 x.f6.f5, .int .i64 x.f6.f6, .int .i64 x.f6.f7]) from below_set (below_set (below_set (below_set (below_set (below_set (below_set (below_set (HB.out) HGE.out) HGE.out) HGE.out) HGE.out) HGE.out) HGE.out) HGE.out) HGE.out)
 have K3W := Aside0.mk (show (w8.setCells g3 10 [.int .i64 x.f6.f0, .int .i64 x.f6.f1, .int .i64 x.f6.f2, .int .i64 x.f6.f3, .int .i64 x.f6.f4, .int .i64 x.f6.f5, .int .i64 x.f6.f6, .int .i64 x.f6.f7]).heap[g3]? = some (.cells #[.int .i64 x.f0, .int .i64 x.f1, .int .i64 x.f2.f0, .int .i64 x.f2.f1, .slice B4 x.f2.f2.length d4, .int .i64 x.f3.f0, .slice B6 x.f3.f1.length d6, .slice B7 x.f3.f2.length d7, .slice B8 x.f4.length d8, .slice B9 x.f5.length d9, .int .i64 x.f6.f0, .int .i64 x.f6.f1, .int .i64 x.f6.f2, .int .i64 x.f6.f3, .int .i64 x.f6.f4, .int .i64 x.f6.f5, .int .i64 x.f6.f6, .int .i64 x.f6.f7] 50 (0, 0)) from blk_put (cs' := #[.int .i64 x.f0, .int .i64 x.f1, .int .i64 x.f2.f0, .int .i64 x.f2.f1, .slice B4 x.f2.f2.length d4, .int .i64 x.f3.f0, .slice B6 x.f3.f1.length d6, .slice B7 x.f3.f2.length d7, .slice B8 x.f4.length d8, .slice B9 x.f5.length d9, .int .i64 x.f6.f0, .int .i64 x.f6.f1, .int .i64 x.f6.f2, .int .i64 x.f6.f3, .int .i64 x.f6.f4, .int .i64 x.f6.f5, .int .i64 x.f6.f6, .int .i64 x.f6.f7]) (blk_put (cs' := #[.int .i64 x.f0, .int .i64 x.f1, .int .i64 x.f2.f0, .int .i64 x.f2.f1, .slice B4 x.f2.f2.length d4, .int .i64 x.f3.f0, .slice B6 x.f3.f1.length d6, .slice B7 x.f3.f2.length d7, .slice B8 x.f4.length d8, .slice B9 x.f5.length d9, .int .i64 x.f6.f0, .int .i64 x.f6.f1, .int .i64 x.f6.f2, .int .i64 x.f6.f3, .int .i64 x.f6.f4, .int .i64 x.f6.f5, .int .i64 x.f6.f6, .int .i64 0]) (blk_put (cs' := #[.int .i64 x.f0, .int .i64 x.f1, .int .i64 x.f2.f0, .int .i64 x.f2.f1, .slice B4 x.f2.f2.length d4, .int .i64 x.f3.f0, .slice B6 x.f3.f1.length d6, .slice B7 x.f3.f2.length d7, .slice B8 x.f4.length d8, .slice B9 x.f5.length d9, .int .i64 x.f6.f0, .int .i64 x.f6.f1, .int .i64 x.f6.f2, .int .i64 x.f6.f3, .int .i64 x.f6.f4, .int .i64 x.f6.f5, .int .i64 0, .int .i64 0]) (blk_put (cs' := #[.int .i64 x.f0, .int .i64 x.f1, .int .i64 x.f2.f0, .int .i64 x.f2.f1, .slice B4 x.f2.f2.length d4, .int .i64 x.f3.f0, .slice B6 x.f3.f1.length d6, .slice B7 x.f3.f2.length d7, .slice B8 x.f4.length d8, .slice B9 x.f5.length d9, .int .i64 x.f6.f0, .int .i64 x.f6.f1, .int .i64 x.f6.f2, .int .i64 x.f6.f3, .int .i64 x.f6.f4, .int .i64 0, .int .i64 0, .int .i64 0]) (blk_put (cs' := #[.int .i64 x.f0, .int .i64 x.f1, .int .i64 x.f2.f0, .int .i64 x.f2.f1, .slice B4 x.f2.f2.length d4, .int .i64 x.f3.f0, .slice B6 x.f3.f1.length d6, .slice B7 x.f3.f2.length d7, .slice B8 x.f4.length d8, .slice B9 x.f5.length d9, .int .i64 x.f6.f0, .int .i64 x.f6.f1, .int .i64 x.f6.f2, .int .i64 x.f6.f3, .int .i64 0, .int .i64 0, .int .i64 0, .int .i64 0]) (blk_put (cs' := #[.int .i64 x.f0, .int .i64 x.f1, .int .i64 x.f2.f0, .int .i64 x.f2.f1, .slice B4 x.f2.f2.length d4, .int .i64 x.f3.f0, .slice B6 x.f3.f1.length d6, .slice B7 x.f3.f2.length d7, .slice B8 x.f4.length d8, .slice B9 x.f5.length d9, .int .i64 x.f6.f0, .int .i64 x.f6.f1, .int .i64 x.f6.f2, .int .i64 0, .int .i64 0, .int .i64 0, .int .i64 0, .int .i64 0]) (blk_put (cs' := #[.int .i64 x.f0, .int .i64 x.f1, .int .i64 x.f2.f0, .int .i64 x.f2.f1, .slice B4 x.f2.f2.length d4, .int .i64 x.f3.f0, .slice B6 x.f3.f1.length d6, .slice B7 x.f3.f2.length d7, .slice B8 x.f4.length d8, .slice B9 x.f5.length d9, .int .i64 x.f6.f0, .int .i64 x.f6.f1, .int .i64 0, .int .i64 0, .int .i64 0, .int .i64 0, .int .i64 0, .int .i64 0]) (blk_put (cs' := #[.int .i64 x.f0, .int .i64 x.f1, .int .i64 x.f2.f0, .int .i64 x.f2.f1, .slice B4 x.f2.f2.length d4, .int .i64 x.f3.f0, .slice B6 x.f3.f1.length d6, .slice B7 x.f3.f2.length d7, .slice B8 x.f4.length d8, .slice B9 x.f5.length d9, .int .i64 x.f6.f0, .int .i64 0, .int .i64 0, .int .i64 0, .int .i64 0, .int .i64 0, .int .i64 0, .int .i64 0]) (K3.out) 10 _ rfl) 11 _ rfl) 12 _ rfl) 13 _ rfl) 14 _ rfl) 15 _ rfl) 16 _ rfl) 17 _ rfl)
 have K2W := Aside0.mk (blk_kept K2.out (show Kept w8 (w8.setCells g3 10 [.int .i64 x.f6.f0, .int .i64 x.f6.f1, .int .i64 x.f6.f2, .int .i64 x.f6.f3, .int .i64 x.f6.f4, .int .i64 x.f6.f5, .int .i64 x.f6.f6, .int .i64 x.f6.f7]) (fun q => q = g3) from ((((((((Kept.refl w8 (fun q => q = g3)).setCell (p := ⟨g3, 10, none⟩) (.inl rfl) _).setCell (p := ⟨g3, 11, none⟩) (.inl rfl) _).setCell (p := ⟨g3, 12, none⟩) (.inl rfl) _).setCell (p := ⟨g3, 13, none⟩) (.inl rfl) _).setCell (p := ⟨g3, 14, none⟩) (.inl rfl) _).setCell (p := ⟨g3, 15, none⟩) (.inl rfl) _).setCell (p := ⟨g3, 16, none⟩) (.inl rfl) _).setCell (p := ⟨g3, 17, none⟩) (.inl rfl) _) N23.out)
 obtain ⟨cs, hcs⟩ : ∃ cs : List Value, cs = [.int .i64 x.f0, .int .i64 x.f1, .int .i64 x.f2.f0, .int .i64 x.f2.f1, .slice B4 x.f2.f2.length d4, .int .i64 x.f3.f0, .slice B6 x.f3.f1.length d6, .slice B7 x.f3.f2.length d7, .slice B8 x.f4.length d8, .slice B9 x.f5.length d9, .int .i64 x.f6.f0, .int .i64 x.f6.f1, .int .i64 x.f6.f2, .int .i64 x.f6.f3, .int .i64 x.f6.f4, .int .i64 x.f6.f5, .int .i64 x.f6.f6, .int .i64 x.f6.f7] := ⟨_, rfl⟩
 have HCS := Aside0.mk hcs
 have HCL := Aside0.mk (show ∀ j v, cs[j]? = some v → (w8.setCells g3 10 [.int .i64 x.f6.f0, .int .i64 x.f6.f1, .int .i64 x.f6.f2, .int .i64 x.f6.f3, .int .i64 x.f6.f4, .int .i64 x.f6.f5, .int .i64 x.f6.f6, .int .i64 x.f6.f7]).cell? ((⟨g3, 0, none⟩ : Addr).add j) = some v from fun j v h => by rw [show (⟨g3, 0, none⟩ : Addr).add j = ⟨g3, j, none⟩ from add0 g3 j, blk_cell K3W.out j]; rw [HCS.out] at h; rw [← h]; exact List.getElem?_toArray)
 have HSZ := Aside0.mk (show (Tryz.prog.info? 50).map (·.size) = some cs.length by rw [HCS.out]; exact isz_50)
 have HSA := Aside0.mk (show (Tryz.prog.info? 50).map (·.size) = some cs.toArray.size by rw [HCS.out]; exact isz_50)
 have HOL := Aside0.mk (show ((#[.int .i64 0, .int .i64 0, .int .i64 0, .int .i64 0, .slice none 0 0, .int .i64 0, .slice none 0 0, .slice none 0 0, .slice none 0 0, .slice none 0 0, .int .i64 0, .int .i64 0, .int .i64 0, .int .i64 0, .int .i64 0, .int .i64 0, .int .i64 0, .int .i64 0] : Array Value)).size = cs.toArray.size by rw [HCS.out]; rfl)
 have HM := Aside0.mk (show k50.M w8 w.heap.size (fun q => q ≠ g3 ∧ q ≠ g2) (convObs x) cs by rw [HCS.out]; exact k50_mkM _ _ _ (convObs x) RD4.out RD6.out RD7.out RD8.out RD9.out)
 have HON := Aside0.mk (all_oneCell_toArray (k50.K_one (k50.K_of_M HM.out)))
 have HO8 := Aside0.mk (show (#[.int .i64 x.f6.f0, .int .i64 x.f6.f1, .int .i64 x.f6.f2, .int .i64 x.f6.f3, .int .i64 x.f6.f4, .int .i64 x.f6.f5, .int .i64 x.f6.f6, .int .i64 x.f6.f7] : Array Value).all (·.oneCell') = true by simp [Value.oneCell'])
 have HTH := Aside0.mk (there_of_blk (o := 10) (n := 8) K3.out (by show 10 + 8 ≤ 18; omega))
 clear hcs K3
 go_wp2_with (first | ((with_reducible refine gate_store (t := 48) (p := 29) rfl ?_); refine wpList_store_mid rfl 48 (.tmp 29) (.tmp 28) rfl g3 10 #[.int .i64 x.f6.f0, .int .i64 x.f6.f1, .int .i64 x.f6.f2, .int .i64 x.f6.f3, .int .i64 x.f6.f4, .int .i64 x.f6.f5, .int .i64 x.f6.f6, .int .i64 x.f6.f7] rfl rfl HTH.out isz_48 HO8.out ?_) | ((with_reducible refine gate_dst (N := 30) rfl ?_); refine wpList_load_at rfl 50 (.tmp 3) rfl ⟨g3, 0, none⟩ rfl cs _ HCL.out hu50 rfl HSZ.out ?_) | ((with_reducible refine gate_store (t := 50) (p := 2) rfl ?_); refine wpList_store_row rfl 50 (.tmp 2) (.tmp 30) rfl g2 cs.toArray rfl rfl 50 _ K2W.out HSA.out HOL.out HON.out ?_))
 refine bodyPost_ret (results_cell_row rfl _ _ g2 50 cs.toArray (0, 0) _ rfl (setRow_heap _ g2 _ _ 50 (0, 0) K2W.out) hu50 rfl HSA.out) rfl ?_
 have KR := Aside0.mk (Kept.row (cs := cs.toArray) KW.out (.inr rfl))
 refine ⟨cs, rfl, ?_, below_row BW.out HGE2.out⟩
 exact k50.M_mono (fun _ _ => trivial) (Kd.M_kept HM.out KR.out (fun q hq he => he.elim hq.1 hq.2))
noncomputable def laws_toObsS.f (l0 : List S83) : Option (List S50) := open Classical in if l0.length ≤ 1048576 ∧ ∀ x ∈ l0, ObsSmall x then some (l0.map convObs) else none
theorem toObsS_told (l0 : List S83) (h : l0.length ≤ 1048576 ∧ ∀ x ∈ l0, ObsSmall x) : laws_toObsS.f l0 = some (l0.map convObs) := if_pos h
set_option maxHeartbeats 8000000 in
set_option maxRecDepth 100000 in
theorem laws_toObsS.calls (A0 : Option Addr) (c0 : Nat) (l0 : List S83) (r : List S50) (w : World) (hr0 : Kd.C k83 w A0 l0.length l0) (hc0 : l0.length ≤ c0) (h : laws_toObsS.f l0 = some r) :
 Calls Tryz.prog 17 #[.slice A0 l0.length c0] w fun e w' => ∃ v0_ : Value, e = .returned (v0_) ∧ Kd.S k50 50 w' w.heap.size (fun _ => True) v0_ r ∧ Below w.heap.size w w' := by
 have hu := Tryz.underlying50
 have hu2 := Tryz.underlying83
 have HR := Aside0.mk hr0
 clear hr0 hc0
 unfold laws_toObsS.f at h
 by_cases c : l0.length ≤ 1048576 ∧ ∀ x ∈ l0, ObsSmall x
 ·rw [if_pos c] at h
  obtain rfl := Option.some.inj h
  have HLEN := Aside0.mk c.1
  have HALL := Aside0.mk c.2
  clear c h
  have hn0 : 0 ≤ (l0.length : Int) := by omega
  go_enter Tryz.func17, Tryz.ntmps17
  go_wp2_with ((with_reducible refine gate_dst (N := 7) rfl ?_); refine Kd.S_make k50 _ 50 rfl (N := 7) rfl 28 _ _ rfl (l0.length : Int) rfl rfl Tryz.underlying28 (.agg #[.int .i64 0, .int .i64 0, .int .i64 0, .int .i64 0, .slice none 0 0, .int .i64 0, .slice none 0 0, .slice none 0 0, .slice none 0 0, .slice none 0 0, .int .i64 0, .int .i64 0, .int .i64 0, .int .i64 0, .int .i64 0, .int .i64 0, .int .i64 0, .int .i64 0]) 224 info50 rfl (by decide) (by omega) z50 (ok := fun _ => True) (okp := fun _ => True) (k50_mkM _ _ _ z50 (Kd.R_nil _ _ _ _ _) (Kd.R_nil _ _ _ _ _) (Kd.R_nil _ _ _ _ _) (Kd.R_nil _ _ _ _ _) (Kd.R_nil _ _ _ _ _)) (fun _ hk => hk) trivial hn0 (by have := HLEN.out; omega) (Below.refl _ _) (Nat.le_refl _) ?_; intro v1 w1 ho hb hg_ hnew_; clear hg_ hnew_; rw [Int.toNat_natCast] at ho; have HO := Aside0.mk ho; have HB := Aside0.mk hb; clear ho hb)
  go_loopg [4] l0.length (fun gk v4 w' => ∃ (i : Nat) (m : List S50), v4 = .int .i64 (i : Nat) ∧ Aside0 (gk + i = l0.length) ∧ Aside0 (m.length = l0.length ∧ ∀ j, j < i → m[j]? = (l0.map convObs)[j]?) ∧ Aside0 (Kd.S k50 50 w' w.heap.size (fun _ => True) v1 m) ∧ Aside0 (Below w.heap.size w w'))
  case atStart => exact ⟨0, List.replicate l0.length z50, rfl, ⟨by omega⟩, ⟨by simp, fun j hj => by omega⟩, HO, HB⟩
  case round =>
   clear HO HB
   obtain ⟨i, m, rfl, HG, HM, HO, HB⟩ := hrel
   by_cases hlt : i < l0.length
   ·as_aux_lemma =>
    obtain ⟨k1, hk1⟩ : ∃ m, gk = m + 1 := ⟨gk - 1, by have := HG.out; omega⟩
    subst hk1
    obtain ⟨g, cap, hv, hge, hrest⟩ := Kd.S_form HO.out (by have := HM.out.1; omega)
    subst hv
    have HGE := Aside0.mk hge
    clear hrest
    obtain ⟨ad, cs, ha, _, hK, hcl0⟩ := Kd.C_get HR.out z83 (i : Int) (by omega) (by omega)
    have hcl : ∀ j u, cs[j]? = some u → w.cell? (ad.add (i * 18 + j)) = some u := hcl0
    obtain ⟨A4, c4, A6, c6, A7, c7, A8, c8, A9, c9, hcs, hl4, hC4, hl6, hC6, hl7, hC7, hl8, hC8, hl9, hC9⟩ := k83_open hK
    cases ha
    obtain ⟨x, hx⟩ : ∃ x, x = l0.getD (i : Int).toNat z83 := ⟨_, rfl⟩
    rw [← hx] at hcs hl4 hC4 hl6 hC6 hl7 hC7 hl8 hC8 hl9 hC9
    have HX := Aside0.mk (show x = l0[i] by rw [hx, Int.toNat_natCast]; simp [List.getD, hlt])
    have HSM := Aside0.mk (show ObsSmall x from HALL.out x (by rw [HX.out]; exact List.getElem_mem hlt))
    have HCS := Aside0.mk hcs
    have HCL := Aside0.mk (show ∀ j u, cs[j]? = some u → wr.cell? ((ad.add (i * 18)).add j) = some u from fun j u h => by rw [add_add]; exact (HB.out.cell (World.block_lt_of_cell? w _ (hcl j u h))).trans (hcl j u h))
    have HSZ := Aside0.mk (show (Tryz.prog.info? 83).map (·.size) = some cs.length by rw [hcs]; exact size_83)
    have HL4 := Aside0.mk hl4
    have HC4 := Aside0.mk (Kd.C_below hC4 HB.out)
    have HL6 := Aside0.mk hl6
    have HC6 := Aside0.mk (Kd.C_below hC6 HB.out)
    have HL7 := Aside0.mk hl7
    have HC7 := Aside0.mk (Kd.C_below hC7 HB.out)
    have HL8 := Aside0.mk hl8
    have HC8 := Aside0.mk (Kd.C_below hC8 HB.out)
    have HL9 := Aside0.mk hl9
    have HC9 := Aside0.mk (Kd.C_below hC9 HB.out)
    have hml : i < m.length := by have := HM.out.1; omega
    clear hcl0 hcl hK hcs hx hge hl4 hC4 hl6 hC6 hl7 hC7 hl8 hC8 hl9 hC9
    go_wp2_with (first | ((with_reducible refine gate_dst (N := 19) rfl ?_); refine wpList_load_at rfl 83 (.tmp 18) rfl _ rfl cs _ HCL.out hu2 rfl HSZ.out ?_) | (go_at_call 28; refine (show Calls Tryz.prog 28 #[.agg cs.toArray] _ _ from by rw [HCS.out]; exact toObs_calls x A4 c4 A6 c6 A7 c7 A8 c8 A9 c9 _ HC4.out HL4.out HC6.out HL6.out HC7.out HL7.out HC8.out HL8.out HC9.out HL9.out HSM.out).mono ?_; rintro e w1 ⟨cr, rfl, hM, hb⟩; have HMM := Aside0.mk hM; have HTY := Aside0.mk (show (Tryz.prog.info? 50).map (·.size) = some cr.length by rw [k50.K_len (k50.K_of_M hM)]; exact isz_50); have HB1 := Aside0.mk hb; obtain ⟨oki, c, hcl, _, _, _, _, hH⟩ := Kd.S_elem (ok := fun k => True ∧ ¬ (wr.heap.size ≤ k)) (Kd.S_mono (Kd.S_below (Kd.S_bound HO.out) hb) (fun k hk => ⟨trivial, by have := hk.2.2.1; omega⟩)) z50 (i : Int) (by omega) (by omega); have HCLE := Aside0.mk hcl; have HH := Aside0.mk (Kd.H_more hH (fun k hk => trivial)); clear hM hb hcl hH) | ((with_reducible refine gate_store (t := 50) (p := 21) rfl ?_); refine Kd.H_store k50 (w0 := w) w.heap.size rfl rfl 50 (.tmp 21) (.tmp 20) rfl 50 (i : Int) 0 m (convObs x) (.agg cr.toArray) cr c (fun _ => True) (fun k => oki k ∨ wr.heap.size ≤ k) (fun k => wr.heap.size ≤ k) rfl ?off rfl rfl HTY.out ?hone HH.out (by omega) (by omega) (by rw [k50.K_len (k50.K_of_M HMM.out)]; exact Nat.le_of_eq (Nat.zero_add _)) ?hM (fun _ h => .inr h) (below_step HB.out HB1.out) ?_; (case off => rw [Int.toNat_natCast]; rfl); (case hone => exact k50.K_one (k50.K_of_M HMM.out)); (case hM => rw [List.take_zero, List.nil_append, List.drop_of_length_le (by rw [HCLE.out, k50.K_len (k50.K_of_M HMM.out), Nat.zero_add]; exact Nat.le_refl _), List.append_nil]; exact k50.M_mono (fun k hk => hk.2.1) (k50.M_lower HB.out.size (k50.M_bound HMM.out))); intro w2 ho hb hg; rw [Int.toNat_natCast] at ho; clear HH HO HB; have HO := Aside0.mk ho; have HB := Aside0.mk hb; clear ho hb hg))
    go_roundg k1
    case measure => omega
    case rel => exact ⟨i + 1, _, by rw [Go.Proofs.YtibhaklgajkalaaGreatDoor.Num.w64n (by have := HLEN.out; omega)], ⟨by have := HG.out; omega⟩, ⟨by rw [List.length_set]; exact HM.out.1, made_set convObs l0 m i _ HM.out.1 hlt (by rw [← HX.out]) HM.out.2⟩, HO, HB⟩
   ·as_aux_lemma =>
    have HF := Aside0.mk (made_end convObs l0 m HM.out.1 (fun j hj => HM.out.2 j (by have := HG.out; omega)))
    have tlt : decide (i < l0.length) = false := decide_eq_false hlt
    clear hlt
    go_wp2
    go_ret
    exact ⟨_, rfl, by have := HO.out; rwa [HF.out] at this, HB.out⟩
 ·rw [if_neg c] at h
  exact absurd h (by simp)

theorem isz_30 : (Tryz.prog.info? 30).map (·.size) = some 2 := by kernel_rfl
set_option maxHeartbeats 8000000 in
set_option maxRecDepth 100000 in
theorem toReport_calls (a0 : Int) (A1 : Option Addr) (c1 : Nat) (l : List S83) (w : World) (hr1 : Kd.C k83 w A1 l.length l) (hc1 : l.length ≤ c1) (hs : l.length ≤ 1048576 ∧ ∀ x ∈ l, ObsSmall x) :
 Calls Tryz.prog 6 #[.agg #[.int .i64 a0, .slice A1 l.length c1]] w fun e w' => ∃ (B : Option Addr) (d : Nat), e = .returned (.agg #[.int .i64 a0, .slice B l.length d]) ∧ Kd.R k50 50 w' w.heap.size (fun _ => True) (.slice B l.length d) (l.map convObs) ∧ Below w.heap.size w w' := by
 have hu24 := Tryz.underlying24
 have hu30 := Tryz.underlying30
 have HR1 := Aside0.mk hr1
 have HC1 := Aside0.mk hc1
 have HS := Aside0.mk hs
 clear hr1 hc1 hs
 go_enter Tryz.func6, Tryz.ntmps6
 go_wp2_with (first | ((with_reducible refine gate_dst (N := 1) rfl ?_); refine box_event ?hg (N := 1) ?hd (cs := #[.int .i64 a0, .slice A1 l.length c1]) (t := 24) ?hr ?_; (case hd => rfl); (case hg => rfl); (case hr => first | (go_simp; done) | (go_simp; rfl)); intro g1 hgg1 w1 bkg1 hbg1; have G1 := Aside0.mk hgg1; have K1 := Aside0.mk bkg1; have HB1 := Aside0.mk hbg1; clear hgg1 bkg1 hbg1) | ((with_reducible refine gate_dst (N := 2) rfl ?_); refine box_event ?hg (N := 2) ?hd (cs := #[.int .i64 0, .slice none 0 0]) (t := 30) ?hr ?_; (case hd => rfl); (case hg => rfl); (case hr => first | (go_simp; done) | (go_simp; rfl)); intro g2 hgg2 w2 bkg2 hbg2; have G2 := Aside0.mk hgg2; have K2 := Aside0.mk bkg2; have L2 := Aside0.mk (blk_lt bkg2); have HB2 := Aside0.mk hbg2; clear hgg2 bkg2 hbg2) | ((with_reducible refine gate_dst (N := 3) rfl ?_); refine box_event ?hg (N := 3) ?hd (cs := #[.int .i64 0, .slice none 0 0]) (t := 30) ?hr ?_; (case hd => rfl); (case hg => rfl); (case hr => first | (go_simp; done) | (go_simp; rfl)); intro g3 hgg3 w3 bkg3 hbg3; have G3 := Aside0.mk hgg3; have K3 := Aside0.mk bkg3; have HB3 := Aside0.mk hbg3; replace K1 := Aside0.mk (blk_below (blk_below K1.out HB2.out) HB3.out); replace K2 := Aside0.mk (blk_below K2.out HB3.out); have k1_0 : w3.cell? ⟨g1, 0, none⟩ = some (.int .i64 a0) := blk_cell K1.out 0; have k1_1 : w3.cell? ⟨g1, 1, none⟩ = some (.slice A1 l.length c1) := blk_cell K1.out 1; have k3_0 : w3.cell? ⟨g3, 0, none⟩ = some (.int .i64 0) := blk_cell K3.out 0; have f3_0 : w3.frozen? ⟨g3, 0, none⟩ = false := blk_frozen K3.out 0; clear hgg3 bkg3 hbg3))
 have N13 := Aside0.mk (show ¬ g1 = g3 from fun e => by have h1 := K1.out; have h3 := K3.out; rw [e, h3] at h1; injection h1 with h1; injection h1 with _ h1; exact absurd h1 (by decide))
 have N23 := Aside0.mk (show ¬ g2 = g3 by have := G3.out; have := L2.out; omega)
 have HGE := Aside0.mk (show w.heap.size ≤ g3 by have := G3.out; have := HB1.out.size; have := HB2.out.size; omega)
 have HGE2 := Aside0.mk (show w.heap.size ≤ g2 by have := G2.out; have := HB1.out.size; omega)
 have HB := Aside0.mk (show Below w.heap.size w w3 from below_step (below_step HB1.out HB2.out) HB3.out)
 clear HB1 HB2 HB3 G1 G2 G3 L2 k1_0 k1_1 k3_0 f3_0
 have KW := Aside0.mk (show Kept w3 (w3.setCell ⟨g3, 0, none⟩ (.int .i64 a0)) (fun q => q = g3) from (Kept.refl w3 (fun q => q = g3)).setCell (p := ⟨g3, 0, none⟩) (.inl rfl) _)
 have BW := Aside0.mk (show Below w.heap.size w (w3.setCell ⟨g3, 0, none⟩ (.int .i64 a0)) from below_set HB.out HGE.out)
 have K3W := Aside0.mk (blk_put (cs' := #[.int .i64 a0, .slice none 0 0]) K3.out 0 (.int .i64 a0) rfl)
 clear K3
 refine (laws_toObsS.calls A1 c1 l (l.map convObs) _ (Kd.C_below HR1.out BW.out) HC1.out (if_pos HS.out)).mono ?_
 rintro e w4 ⟨v1, rfl, ho1, hb⟩
 have KK := Aside0.mk (KW.out.below hb)
 have RD1 := Aside0.mk (show Kd.R k50 50 w4 w.heap.size (fun q => q ≠ g3 ∧ q ≠ g2) v1 (l.map convObs) from Kd.R_lower (Kd.R_mono (Kd.R_bound (Kd.S_R ho1)) (fun q hq => by have h1 := hq.2.1; have h2 := blk_lt K3W.out; have h3 := blk_lt (blk_kept K2.out KW.out N23.out); exact ⟨by omega, by omega⟩)) BW.out.size)
 replace K2 := Aside0.mk (blk_kept K2.out KK.out N23.out)
 have K3 := Aside0.mk (blk_below K3W.out hb)
 replace HB := Aside0.mk (below_step BW.out hb)
 obtain ⟨B1, d1, e1⟩ := Kd.R_slice RD1.out
 rw [List.length_map] at e1
 subst e1
 clear KW BW K3W KK hb ho1
 have k3_0 : w4.cell? ⟨g3, 0, none⟩ = some (.int .i64 a0) := blk_cell K3.out 0
 have k3_1 : w4.cell? ⟨g3, 1, none⟩ = some (.slice none 0 0) := blk_cell K3.out 1
 have f3_1 : w4.frozen? ⟨g3, 1, none⟩ = false := blk_frozen K3.out 1
 have KW := Aside0.mk (show Kept w4 (w4.setCell ⟨g3, 1, none⟩ (.slice B1 l.length d1)) (fun q => q = g3 ∨ q = g2) from (Kept.refl w4 (fun q => q = g3 ∨ q = g2)).setCell (p := ⟨g3, 1, none⟩) (.inl (.inl rfl)) _)
 have BW := Aside0.mk (show Below w.heap.size w (w4.setCell ⟨g3, 1, none⟩ (.slice B1 l.length d1)) from below_set HB.out HGE.out)
 have K3W := Aside0.mk (blk_put (cs' := #[.int .i64 a0, .slice B1 l.length d1]) K3.out 1 (.slice B1 l.length d1) rfl)
 have K2W := Aside0.mk (blk_kept K2.out (show Kept w4 (w4.setCell ⟨g3, 1, none⟩ (.slice B1 l.length d1)) (fun q => q = g3) from (Kept.refl w4 (fun q => q = g3)).setCell (p := ⟨g3, 1, none⟩) (.inl rfl) _) N23.out)
 obtain ⟨cs, hcs⟩ : ∃ cs : List Value, cs = [.int .i64 a0, .slice B1 l.length d1] := ⟨_, rfl⟩
 have HCS := Aside0.mk hcs
 have HCL := Aside0.mk (show ∀ j v, cs[j]? = some v → (w4.setCell ⟨g3, 1, none⟩ (.slice B1 l.length d1)).cell? ((⟨g3, 0, none⟩ : Addr).add j) = some v from fun j v h => by rw [add0 g3 j, blk_cell K3W.out j]; rw [HCS.out] at h; rw [← h]; exact List.getElem?_toArray)
 have HSZ := Aside0.mk (show (Tryz.prog.info? 30).map (·.size) = some cs.length by rw [HCS.out]; exact isz_30)
 have HSA := Aside0.mk (show (Tryz.prog.info? 30).map (·.size) = some cs.toArray.size by rw [HCS.out]; exact isz_30)
 have HOL := Aside0.mk (show (#[.int .i64 0, .slice none 0 0] : Array Value).size = cs.toArray.size by rw [HCS.out]; rfl)
 have HON := Aside0.mk (all_oneCell_toArray (cs := cs) (by rw [HCS.out]; intro v hv; simp only [List.mem_cons, List.mem_nil_iff, or_false] at hv; rcases hv with rfl | rfl <;> rfl))
 clear hcs K3
 go_wp2_with (first | ((with_reducible refine gate_dst (N := 11) rfl ?_); refine wpList_load_at rfl 30 (.tmp 3) rfl ⟨g3, 0, none⟩ rfl cs _ HCL.out hu30 rfl HSZ.out ?_) | ((with_reducible refine gate_store (t := 30) (p := 2) rfl ?_); refine wpList_store_row rfl 30 (.tmp 2) (.tmp 11) rfl g2 cs.toArray rfl rfl 30 _ K2W.out HSA.out HOL.out HON.out ?_))
 refine bodyPost_ret (results_cell_row rfl _ _ g2 30 cs.toArray (0, 0) _ rfl (setRow_heap _ g2 _ _ 30 (0, 0) K2W.out) hu30 rfl HSA.out) rfl ?_
 have KR := Aside0.mk (Kept.row (cs := cs.toArray) KW.out (.inr rfl))
 exact ⟨B1, d1, by rw [HCS.out], Kd.R_mono (Kd.R_kept RD1.out KR.out (fun q hq he => he.elim hq.1 hq.2)) (fun _ _ => trivial), below_row BW.out HGE2.out⟩

end Go.Proofs.YtibhaklgajkalaaGreatDoor.YTell
