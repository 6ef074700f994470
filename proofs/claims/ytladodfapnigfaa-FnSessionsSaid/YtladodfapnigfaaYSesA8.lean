/- A8 -/
import Derived.Test.YtladodfapnigfaaYSesx0
import Derived.Test.YtladodfapnigfaaYSesx3
import Derived.Test.YtladodfapnigfaaYSesx1
import Derived.Test.YtladodfapnigfaaYSesx2
import Derived.Test.YtladodfapnigfaaYSesx7
import Derived.Deep.RegionHeld3
import Derived.Deep.DeepCutAuto
import Derived.Test.YtladodfapnigfaaYSesA4
import Derived.Test.YtladodfapnigfaaYSesA7
namespace Go.Proofs.Ytladodfapnigfaa.YSes
open Go.RowKit Go.Proofs.YtladodfapnigfaaW.PrintWords Go.Proofs.YtladodfapnigfaaW.PrintLast Go.Proofs.YtladodfapnigfaaW.PrintMore
attribute [local go_sem] max2_int min2_int max_two min_two max_three min_three max_four min_four
set_option linter.unusedVariables false
set_option linter.unusedSimpArgs false
set_option maxHeartbeats 16000000 in
set_option maxRecDepth 100000 in
theorem take.calls (k : Nat) (base : Int) (A1 : Option Addr) (c1 : Nat) (ks : List S24) (A2 : Option Addr) (c2 : Nat) (ss : List S74) (A : Option Addr) (c : Nat) (b : List Int) (N gs : Nat) (okA okB : Nat → Prop) (ks' : List S24) (ss' : List S74) (pl code : Int) (w0 w : World)
 (hH : HeldS w0 N gs base A1 c1 ks A2 c2 ss okA okB w) (hA : ApartS w0 N gs okA okB) (hb : Kd.C (Kd.int .u8) w A b.length b) (hc : b.length ≤ c) (hba : 0 ≤ base ∧ base ≤ 1000000) (hkl : ks.length ≤ 1000000) (hsl : ss.length ≤ 1000000)
 (hx : ∀ x ∈ ss, 0 ≤ x.f0 ∧ x.f0 ≤ 4294967296) (hs : ∀ a b, a ≤ b → b < ss.length → (rd_T74 ss (a : Nat)).f0 ≤ (rd_T74 ss (b : Nat)).f0)
 (hdec : ∀ t, impl_DecodeItem.f k b = some t → t.2.2.2 = 0 → (0 ≤ t.1 ∧ t.1 ≤ 4294967296) ∧ t.2.2.1.length < 140737488355328)
 (h : takeF k base ks ss b = some (ks', ss', pl, code)) :
 Calls Try.prog 67 #[.pointer (some ⟨gs, 0, none⟩), .slice A b.length c] w fun e w' => e = .returned (.tuple #[.int .i64 pl, .int .i64 code]) ∧ ∃ A1' c1' A2' c2' okA' okB', HeldS w0 0 gs base A1' c1' ks' A2' c2' ss' okA' okB' w' ∧ ∀ k, okA' k → ¬ okB' k := by
 have hu48 := Try.underlying48
 have hu24 := Try.underlying24
 have hu74 := Try.underlying74
 have HH := Aside0.mk hH
 have HA := Aside0.mk hA
 have HB := Aside0.mk hb
 have HC := Aside0.mk hc
 have HBA := Aside0.mk hba
 have HKL := Aside0.mk hkl
 have HSL := Aside0.mk hsl
 have HX := Aside0.mk hx
 have HS := Aside0.mk hs
 have HDEC := Aside0.mk hdec
 clear hH hA hb hc hba hkl hsl hx hs hdec
 unfold takeF at h
 by_cases hbe : b = []
 ·rw [if_pos hbe] at h
  obtain ⟨rfl, rfl, rfl, rfl⟩ : ks = ks' ∧ ss = ss' ∧ (0 : Int) = pl ∧ (0 : Int) = code := by simpa using h
  subst hbe
  clear h
  go_enter Try.func67, Try.ntmps67
  go_wp2
  go_ret2
  exact ⟨rfl, _, _, _, _, okA, okB, ⟨HH.out.1, HH.out.2.1, HH.out.2.2.1, HH.out.2.2.2.1, Nat.zero_le _⟩, HA.out.1⟩
 rw [if_neg hbe] at h
 have hbl : ¬ ((b.length : Int) = 0) := by have := List.length_pos_iff.2 hbe; omega
 have hbb : ((b.length : Int) == 0) = false := by simpa using hbl
 cases hd : impl_DecodeItem.f k b with
 | none => rw [hd] at h; cases h
 | some t =>
 obtain ⟨x0, x1, xd, cd⟩ := t
 rw [hd] at h
 have HD := Aside0.mk hd
 have HT := Aside0.mk h
 clear h hd hbe
 go_enter Try.func67, Try.ntmps67
 go_upto_region 4 with (first | (go_at_call 11; refine (impl_DecodeItem.calls k A c b x0 x1 xd cd _ HB.out HC.out HD.out).mono ?_; rintro e w1 ⟨vd, rfl, hR, hb⟩; obtain ⟨Ad, cD, ed⟩ := Kd.R_slice hR; subst ed; have HR := Aside0.mk hR; have HB1 := Aside0.mk hb; clear hR hb) | ((with_reducible refine gate_dst (N := 6) rfl ?_); refine box_event ?hg (N := 6) ?hd (cs := #[.int .i64 0, .int .i64 0, .slice none 0 0]) (t := 24) ?hr ?_; (case hd => rfl); (case hg => rfl); (case hr => first | (go_simp; done) | (go_simp; rfl)); intro gx hg w2 hbox hb; have HB2 := Aside0.mk hb; have KX := Aside0.mk hbox; have HGX := Aside0.mk hg; have kx0 := blk_cell hbox 0; have kx1 := blk_cell hbox 1; have kx2 := blk_cell hbox 2; have fx0 := blk_frozen hbox 0; have fx1 := blk_frozen hbox 1; have fx2 := blk_frozen hbox 2; clear hb hbox hg))
 clear kx0 kx1 kx2 fx0 fx1 fx2
 obtain ⟨w3, hw3⟩ : ∃ W, W = ((w2.setCell ⟨gx, 0, none⟩ (.int .i64 x0)).setCell ⟨gx, 1, none⟩ (.int .i64 x1)).setCell ⟨gx, 2, none⟩ (.slice Ad xd.length cD) := ⟨_, rfl⟩
 rw [← hw3]
 have KX3 := Aside0.mk (show w3.heap[gx]? = some (.cells #[.int .i64 x0, .int .i64 x1, .slice Ad xd.length cD] 24 (0, 0)) by rw [hw3]; exact blk_put (blk_put (blk_put KX.out 0 _ rfl) 1 _ rfl) 2 _ rfl)
 have HNX := Aside0.mk (show N ≤ gx by have := HGX.out; have := HH.out.2.2.2.2; have := below_size HB1.out; omega)
 have HH3 := Aside0.mk (show HeldS w0 N gs base A1 c1 ks A2 c2 ss okA okB w3 by rw [hw3]; exact ((((HH.out.below HB1.out).below HB2.out).set HA.out HNX.out 0 _).set HA.out HNX.out 1 _).set HA.out HNX.out 2 _)
 obtain ⟨M, hM⟩ : ∃ M, M = w1.heap.size := ⟨_, rfl⟩
 have HGM := Aside0.mk (show M ≤ gx by have := HGX.out; omega)
 have HR3 := Aside0.mk (show Kd.R (Kd.int .u8) 5 w3 w0.heap.size (fun k => N ≤ k ∧ k < M) (.slice Ad xd.length cD) xd by
  have hr := Kd.R_lower (Kd.R_mono (ok' := fun k => N ≤ k ∧ k < M) (Kd.R_bound HR.out) (fun k hk => ⟨Nat.le_trans HH.out.2.2.2.2 hk.2.1, by rw [hM]; exact hk.2.2.1⟩)) (below_size HH.out.2.2.2.1)
  rw [hw3]
  exact Kd.R_set (Kd.R_set (Kd.R_set (Kd.R_below hr HB2.out) KX.out (by decide) 0 _) (blk_put KX.out 0 _ rfl) (by decide) 1 _) (blk_put (blk_put KX.out 0 _ rfl) 1 _ rfl) (by decide) 2 _)
 have HNM := Aside0.mk (show N ≤ M by have := HH.out.2.2.2.2; have := below_size HB1.out; omega)
 clear hw3 hM KX HB2 HB1 HR HGX HH HB HC
 by_cases hcd : cd = 0
 ·subst hcd
  have hdx := HDEC.out _ HD.out rfl
  have HDX := Aside0.mk hdx
  have HT2 := Aside0.mk (show takeOf base ks ss ⟨x0, x1, xd⟩ = (ks', ss', pl, code) by have := HT.out; simpa using this)
  clear hdx HT HD HDEC
  go_upto_region 6 with fail
  obtain ⟨hs0, hs1, hs2, hf0, hf1, hf2⟩ := HH3.out.cell
  have kx0 := blk_cell KX3.out 0
  have fx0 := blk_frozen KX3.out 0
  go_cut [8, 9] (fun v8 v9 W => v8 = .int .i64 (cntS ss x0 : Nat) ∧ v9 = .bool (thereS ss x0) ∧ Aside0 (Below w3.heap.size w3 W))
  case first =>
   go_region_with (first | (go_at_call 79; refine (search.calls A2 c2 ss x0 w3 _ ?x1 ?x2 ?x3 ?x4 HX.out HS.out).mono ?_; (case x1 => exact (Kd.S_reads' HH3.out.2.2.1).2.2); (case x2 => exact (by repeat (first | exact Below.refl _ _ | apply below_drew1 | apply pw_below_drewN))); (case x3 => have := HSL.out; omega); (case x4 => exact HDX.out.1); rintro e wq ⟨rfl, hb⟩; have HBq := Aside0.mk (show Below w3.heap.size w3 wq from below_step (by repeat (first | exact Below.refl _ _ | apply below_drew1 | apply pw_below_drewN)) hb); clear hb))
   all_goals (
    go_wp2_with fail
    go_meet
    exact ⟨rfl, rfl, by exact HBq⟩)
  case rest =>
   obtain ⟨rfl, rfl, HBq⟩ := hcut
   clear hs0 hs1 hs2 hf0 hf1 hf2 kx0 fx0
   have HH5 := Aside0.mk (HH3.out.below HBq.out)
   have KX5 := Aside0.mk (blk_below KX3.out HBq.out)
   have HR5 := Aside0.mk (Kd.R_below HR3.out HBq.out)
   clear HH3 KX3 HR3 HBq
   obtain ⟨th, hth⟩ : ∃ t, t = thereS ss x0 := ⟨_, rfl⟩
   rw [← hth]
   have HTH := Aside0.mk hth
   clear hth
   obtain ⟨at_, hat⟩ : ∃ t, t = cntS ss x0 := ⟨_, rfl⟩
   rw [← hat]
   have HAT := Aside0.mk hat
   clear hat
   have hall : ∀ {a : List S24} {b : List S74} {c d : Int}, takeOf base ks ss ⟨x0, x1, xd⟩ = (a, b, c, d) → ks' = a ∧ ss' = b ∧ pl = c ∧ code = d := fun h => by
    have := HT2.out.symm.trans h
    simpa using this
   have HALL := Aside0.mk @hall
   clear hall HT2
   go_upto_if 33 with fail
   go_cut [] (fun W => ∃ (A2n : Option Addr) (Wn : World), Wn = W ∧ Aside0 (HeldS w0 N gs base A1 c1 ks A2n c2 ss okA okB Wn) ∧ Aside0 (Wn.heap[gx]? = some (.cells #[.int .i64 x0, .int .i64 x1, .slice Ad xd.length cD] 24 (0, 0))) ∧ Aside0 (Kd.R (Kd.int .u8) 5 Wn w0.heap.size (fun k => N ≤ k ∧ k < M) (.slice Ad xd.length cD) xd) ∧ Aside0 (M ≤ Wn.heap.size) ∧ Aside0 (takeOf base ks ss ⟨x0, x1, xd⟩ = if (1000000 : Int) ≤ base + ks.length then (ks, ss, 0, 6) else (ks ++ [⟨x0, x1, xd⟩], (if th = true then ss.set at_ ⟨x0, x1, base + ks.length, xd⟩ else ss.take at_ ++ ⟨x0, x1, base + ks.length, xd⟩ :: ss.drop at_), base + ks.length, 0)) ∧ Aside0 (th = true → at_ < ss.length))
   case first =>
    cases th with
    | true =>
     have hlt : at_ < ss.length := by
      have := HTH.out
      unfold thereS at this
      rw [← HAT.out] at this
      by_cases hc : at_ < ss.length
      ·exact hc
      ·rw [decide_eq_false hc] at this; cases this
     obtain ⟨g, cap, eg, hgB, hgl, curg, hgb⟩ := Kd.S_form HH5.out.2.2.1 (by omega)
     cases eg
     clear hgB hgl hgb curg
     obtain ⟨hns, hcs2, hCs⟩ := Kd.S_reads' HH5.out.2.2.1
     obtain ⟨ad, A3, c3, ha, hx0, hx1, hx2, hx3, hl3, hC3⟩ := at_T74 hCs (at_ : Int) (by omega) (by omega)
     cases ha
     have hadd := addr_at g (at_ * 4)
     obtain ⟨y, hy⟩ : ∃ y, y = rd_T74 ss (at_ : Int) := ⟨_, rfl⟩
     rw [← hy] at hx0 hx1 hx2 hx3 hl3 hC3
     rw [Int.toNat_natCast, hadd] at hx0 hx1 hx2 hx3
     dsimp only at hx1 hx2 hx3
     have HY := Aside0.mk hy
     have HL3 := Aside0.mk hl3
     have HC3 := Aside0.mk hC3
     clear hy hl3 hC3 hns hcs2 hCs
     obtain ⟨hs0, hs1, hs2, hf0, hf1, hf2⟩ := HH5.out.cell
     have p0 : ((at_ : Int) < (ss.length : Int)) = True := eq_true (by omega)
     have p1 : ((0 : Int) ≤ (at_ : Int)) = True := eq_true (by omega)
     go_upto_region 9 with ((with_reducible refine gate_dst (N := 10) rfl ?_); refine box_event ?hg (N := 10) ?hd (cs := #[.int .i64 0, .int .i64 0, .int .i64 0, .slice none 0 0]) (t := 74) ?hr ?_; (case hd => rfl); (case hg => rfl); (case hr => first | (go_simp; done) | (go_simp; rfl)); intro gy hg w6 hbox hb; have HB6 := Aside0.mk hb; have KY := Aside0.mk hbox; have HGY := Aside0.mk hg; have ky0 := blk_cell hbox 0; have ky1 := blk_cell hbox 1; have ky2 := blk_cell hbox 2; have ky3 := blk_cell hbox 3; have fy0 := blk_frozen hbox 0; have fy1 := blk_frozen hbox 1; have fy2 := blk_frozen hbox 2; have fy3 := blk_frozen hbox 3; clear hb hbox hg)
     have HX3 := Aside0.mk hx3
     clear ky0 ky1 ky2 ky3 fy0 fy1 fy2 fy3 hx0 hx1 hx2 hx3
     obtain ⟨w7, hw7⟩ : ∃ W, W = (((w6.setCell ⟨gy, 0, none⟩ (.int .i64 y.f0)).setCell ⟨gy, 1, none⟩ (.int .i64 y.f1)).setCell ⟨gy, 2, none⟩ (.int .i64 y.f2)).setCell ⟨gy, 3, none⟩ (.slice A3 y.f3.length c3) := ⟨_, rfl⟩
     rw [← hw7]
     have KY7 := Aside0.mk (show w7.heap[gy]? = some (.cells #[.int .i64 y.f0, .int .i64 y.f1, .int .i64 y.f2, .slice A3 y.f3.length c3] 74 (0, 0)) by rw [hw7]; exact blk_put (blk_put (blk_put (blk_put KY.out 0 _ rfl) 1 _ rfl) 2 _ rfl) 3 _ rfl)
     have HNY := Aside0.mk (show N ≤ gy by have := HGY.out; have := HH5.out.2.2.2.2; omega)
     have NXY := Aside0.mk (show gx ≠ gy from blk_ne (blk_below KX5.out HB6.out) KY.out (by decide))
     have HH7 := Aside0.mk (show HeldS w0 N gs base A1 c1 ks (some ⟨g, 0, none⟩) c2 ss okA okB w7 by rw [hw7]; exact ((((HH5.out.below HB6.out).set HA.out HNY.out 0 _).set HA.out HNY.out 1 _).set HA.out HNY.out 2 _).set HA.out HNY.out 3 _)
     have KX7 := Aside0.mk (show w7.heap[gx]? = some (.cells #[.int .i64 x0, .int .i64 x1, .slice Ad xd.length cD] 24 (0, 0)) by rw [hw7]; exact blk_far (blk_far (blk_far (blk_far (blk_below KX5.out HB6.out) NXY.out _) NXY.out _) NXY.out _) NXY.out _)
     have HR7 := Aside0.mk (show Kd.R (Kd.int .u8) 5 w7 w0.heap.size (fun k => N ≤ k ∧ k < M) (.slice Ad xd.length cD) xd by
      rw [hw7]
      exact Kd.R_set (Kd.R_set (Kd.R_set (Kd.R_set (Kd.R_below HR5.out HB6.out) KY.out (by decide) 0 _) (blk_put KY.out 0 _ rfl) (by decide) 1 _) (blk_put (blk_put KY.out 0 _ rfl) 1 _ rfl) (by decide) 2 _) (blk_put (blk_put (blk_put KY.out 0 _ rfl) 1 _ rfl) 2 _ rfl) (by decide) 3 _)
     have HC7 := Aside0.mk (show Kd.C (Kd.int .u8) w7 A3 y.f3.length y.f3 by
      obtain ⟨ad', A3', c3', ha, _, _, _, hq3, hl3, hC3⟩ := at_T74 (Kd.S_reads' HH7.out.2.2.1).2.2 (at_ : Int) (by omega) (by omega)
      cases ha
      rw [← HY.out] at hq3 hl3 hC3
      rw [Int.toNat_natCast, hadd] at hq3
      dsimp only at hq3
      have h1 : w7.cell? ⟨g, at_ * 4 + 3, none⟩ = some (.slice A3 y.f3.length c3) := by
       have hlt5 := World.block_lt_of_cell? _ _ HX3.out
       have hneb : g ≠ gy := fun e => Nat.ne_of_lt hlt5 (e.trans HGY.out)
       refine (World.cell?_of_block ?_).trans HX3.out
       rw [hw7]
       exact ((((Below.heap_setCell _ _ _ _ hneb).trans (Below.heap_setCell _ _ _ _ hneb)).trans (Below.heap_setCell _ _ _ _ hneb)).trans (Below.heap_setCell _ _ _ _ hneb)).trans (HB6.out.block _ hlt5)
      rw [hq3] at h1
      cases h1
      exact hC3)
     clear hw7 KY HB6 HGY HH5 KX5 HR5 HC3 hs0 hs1 hs2 hf0 hf1 hf2
     obtain ⟨hs0, hs1, hs2, hf0, hf1, hf2⟩ := HH7.out.cell
     have kx0 := blk_cell KX7.out 0
     have kx1 := blk_cell KX7.out 1
     have kx2 := blk_cell KX7.out 2
     have ky0 := blk_cell KY7.out 0
     have ky1 := blk_cell KY7.out 1
     have ky2 := blk_cell KY7.out 2
     have ky3 := blk_cell KY7.out 3
     by_cases d1 : x1 < y.f1
     ·have d1b : decide (x1 < y.f1) = true := decide_eq_true d1
      obtain ⟨rfl, rfl, rfl, rfl⟩ := HALL.out (a := ks) (b := ss) (c := 0) (d := 4) (takeOf_exist HAT.out HTH.out HY.out (.inl d1))
      go_wp2
      go_ret2
      exact ⟨rfl, _, _, _, _, okA, okB, ⟨(HH7.out).1, (HH7.out).2.1, (HH7.out).2.2.1, (HH7.out).2.2.2.1, Nat.zero_le _⟩, HA.out.1⟩
     ·have d1b : decide (x1 < y.f1) = false := decide_eq_false d1
      by_cases d2 : x1 = y.f1
      ·have d2b : (x1 == y.f1) = true := by simpa using d2
       obtain ⟨r, hr⟩ : ∃ r, bytes_Equal.f xd y.f3 = some r := ⟨_, rfl⟩
       have HEQ := Aside0.mk hr
       have D1 := Aside0.mk d1
       have D2 := Aside0.mk d2
       clear hr d1 d2
       cases r with
       | false =>
        obtain ⟨rfl, rfl, rfl, rfl⟩ := HALL.out (a := ks) (b := ss) (c := 0) (d := 4) (takeOf_exist HAT.out HTH.out HY.out (.inr ⟨D2.out, by rw [HEQ.out]; simp⟩))
        go_wp2_with (go_at_call 81; refine (bytes_Equal.calls Ad cD xd A3 c3 y.f3 _ _ ?x1 ?x2 HC7.out ?x3 HEQ.out).mono ?_; (case x1 => exact (Kd.R_reads' HR7.out).2.2); (case x2 => exact (Kd.R_reads' HR7.out).2.1); (case x3 => exact HL3.out); rintro e w8 ⟨rfl, hb⟩; have HH8 := Aside0.mk (HH7.out.below hb.below); have KX8 := Aside0.mk (blk_below KX7.out hb.below); have KY8 := Aside0.mk (blk_below KY7.out hb.below); have kx08 := blk_cell KX8.out 0; have kx18 := blk_cell KX8.out 1; have ky08 := blk_cell KY8.out 0; have ky18 := blk_cell KY8.out 1; have ky28 := blk_cell KY8.out 2; clear hb)
        go_ret2
        exact ⟨rfl, _, _, _, _, okA, okB, ⟨(HH8.out).1, (HH8.out).2.1, (HH8.out).2.2.1, (HH8.out).2.2.2.1, Nat.zero_le _⟩, HA.out.1⟩
       | true =>
        obtain ⟨rfl, rfl, rfl, rfl⟩ := HALL.out (a := ks) (b := ss) (c := y.f2) (d := 0) (takeOf_same HAT.out HTH.out HY.out D2.out HEQ.out)
        go_wp2_with (go_at_call 81; refine (bytes_Equal.calls Ad cD xd A3 c3 y.f3 _ _ ?x1 ?x2 HC7.out ?x3 HEQ.out).mono ?_; (case x1 => exact (Kd.R_reads' HR7.out).2.2); (case x2 => exact (Kd.R_reads' HR7.out).2.1); (case x3 => exact HL3.out); rintro e w8 ⟨rfl, hb⟩; have HH8 := Aside0.mk (HH7.out.below hb.below); have KX8 := Aside0.mk (blk_below KX7.out hb.below); have KY8 := Aside0.mk (blk_below KY7.out hb.below); have kx08 := blk_cell KX8.out 0; have kx18 := blk_cell KX8.out 1; have ky08 := blk_cell KY8.out 0; have ky18 := blk_cell KY8.out 1; have ky28 := blk_cell KY8.out 2; clear hb)
        go_ret2
        exact ⟨rfl, _, _, _, _, okA, okB, ⟨(HH8.out).1, (HH8.out).2.1, (HH8.out).2.2.1, (HH8.out).2.2.2.1, Nat.zero_le _⟩, HA.out.1⟩
      ·have d2b : (x1 == y.f1) = false := by simpa using d2
       have D1 := Aside0.mk d1
       have D2 := Aside0.mk d2
       clear d1 d2
       go_wp2_with fail
       go_meet
       have hlt := hlt
       exact ⟨(some ⟨g, 0, none⟩), _, rfl, HH7, KX7, HR7, ⟨by have := HGM.out; have := blk_lt KX7.out; omega⟩, ⟨takeOf_later HAT.out HTH.out HY.out (by have := D1.out; show ¬ (x1 < y.f1); omega) (by have := D2.out; show ¬ (x1 = y.f1); omega)⟩, ⟨fun _ => hlt⟩⟩
    | false =>
     go_wp2_with fail
     go_meet
     exact ⟨A2, _, rfl, HH5, KX5, HR5, ⟨by have := HGM.out; have := blk_lt KX5.out; omega⟩, ⟨takeOf_new HAT.out HTH.out⟩, ⟨fun h => by cases h⟩⟩
   case rest =>
    obtain ⟨A2n, w8, rfl, HH7, KX7, HR7, HM7, HTO, HLT⟩ := hcut
    clear HH5 KX5 HR5
    have HCT := Aside0.mk (show impl_Service_count.f base ks ss = some (base + ks.length) from congrArg some (by have := HBA.out; have := HKL.out; unfold wrap64; omega))
    obtain ⟨hs0, hs1, hs2, hf0, hf1, hf2⟩ := HH7.out.cell
    go_upto_region 15 with (go_at_call 74; refine (impl_Service_count.calls base A1 c1 ks A2n c2 ss (base + ks.length) _ ?x1 ?x2 ?x3 ?x4 HCT.out).mono ?_; (case x1 => exact Kd.C_below (Kd.S_reads' HH7.out.2.1).2.2 (by repeat (first | exact Below.refl _ _ | apply below_drew1 | apply pw_below_drewN))); (case x2 => exact (Kd.S_reads' HH7.out.2.1).2.1); (case x3 => exact Kd.C_below (Kd.S_reads' HH7.out.2.2.1).2.2 (by repeat (first | exact Below.refl _ _ | apply below_drew1 | apply pw_below_drewN))); (case x4 => exact (Kd.S_reads' HH7.out.2.2.1).2.1); rintro e w9 ⟨rfl, hb⟩; have hb9 := below_step (by repeat (first | exact Below.refl _ _ | apply below_drew1 | apply pw_below_drewN)) hb; have HH9 := Aside0.mk (HH7.out.below hb9); have KX9 := Aside0.mk (blk_below KX7.out hb9); have HR9 := Aside0.mk (Kd.R_below HR7.out hb9); clear hb hb9)
    clear hs0 hs1 hs2 hf0 hf1 hf2 HH7 KX7 HR7 HM7 HCT
    by_cases df : (1000000 : Int) ≤ base + ks.length
    ·have dfb : decide ((1000000 : Int) ≤ base + ks.length) = true := decide_eq_true df
     obtain ⟨rfl, rfl, rfl, rfl⟩ := HALL.out (HTO.out.trans (if_pos df))
     go_wp2
     go_ret2
     exact ⟨rfl, _, _, _, _, okA, okB, ⟨HH9.out.1, HH9.out.2.1, HH9.out.2.2.1, HH9.out.2.2.2.1, Nat.zero_le _⟩, HA.out.1⟩
    ·have dfb : decide ((1000000 : Int) ≤ base + ks.length) = false := decide_eq_false df
     obtain ⟨eks, ess, rfl, rfl⟩ := HALL.out (HTO.out.trans (if_neg df))
     have EKS := Aside0.mk eks
     have ESS := Aside0.mk ess
     clear eks ess HTO
     have DF := Aside0.mk df
     clear df
     go_upto_region 17 with fail
     have HMS := Aside0.mk (show M ≤ w9.heap.size by have := HGM.out; have := blk_lt KX9.out; omega)
     have HCL := Aside0.mk (show slices_Clone_byte_byte.f xd = some xd from if_pos HDX.out.2)
     have HF := Aside0.mk (Below.refl w9.heap.size w9)
     have HNE := Aside0.mk (show gx ≠ w9.heap.size by have := blk_lt KX9.out; omega)
     have kx0 : w9.cell? ⟨gx, 0, none⟩ = some (.int .i64 x0) := blk_cell KX9.out 0
     have kx1 : w9.cell? ⟨gx, 1, none⟩ = some (.int .i64 x1) := blk_cell KX9.out 1
     have kx2 : w9.cell? ⟨gx, 2, none⟩ = some (.slice Ad xd.length cD) := blk_cell KX9.out 2
     have kxa0 : (w9.alloc (.cells #[.int .i64 0, .int .i64 0, .int .i64 0, .slice none 0 0] 74 (0, 0))).cell? ⟨gx, 0, none⟩ = some (.int .i64 x0) := blk_cell (blk_alloc KX9.out (.cells #[.int .i64 0, .int .i64 0, .int .i64 0, .slice none 0 0] 74 (0, 0))) 0
     have kxa1 : (w9.alloc (.cells #[.int .i64 0, .int .i64 0, .int .i64 0, .slice none 0 0] 74 (0, 0))).cell? ⟨gx, 1, none⟩ = some (.int .i64 x1) := blk_cell (blk_alloc KX9.out (.cells #[.int .i64 0, .int .i64 0, .int .i64 0, .slice none 0 0] 74 (0, 0))) 1
     have kxa2 : (w9.alloc (.cells #[.int .i64 0, .int .i64 0, .int .i64 0, .slice none 0 0] 74 (0, 0))).cell? ⟨gx, 2, none⟩ = some (.slice Ad xd.length cD) := blk_cell (blk_alloc KX9.out (.cells #[.int .i64 0, .int .i64 0, .int .i64 0, .slice none 0 0] 74 (0, 0))) 2
     go_cut [12] (fun v12 W => ∃ (gz : Nat) (Az : Option Addr) (cz : Nat) (Wn : World), Wn = W ∧ v12 = .pointer (some ⟨gz, 0, none⟩) ∧ Aside0 (HeldS w0 N gs base A1 c1 ks A2n c2 ss okA okB W) ∧ Aside0 (W.heap[gx]? = some (.cells #[.int .i64 x0, .int .i64 x1, .slice Ad xd.length cD] 24 (0, 0))) ∧ Aside0 (Kd.R (Kd.int .u8) 5 W w0.heap.size (fun k => N ≤ k ∧ k < M) (.slice Ad xd.length cD) xd) ∧ Aside0 (W.heap[gz]? = some (.cells #[.int .i64 x0, .int .i64 x1, .int .i64 (base + ks.length), .slice Az xd.length cz] 74 (0, 0))) ∧ Aside0 (Kd.R (Kd.int .u8) 5 W w0.heap.size (fun k => M ≤ k) (.slice Az xd.length cz) xd) ∧ Aside0 (N ≤ gz) ∧ Aside0 (M ≤ W.heap.size))
     case first =>
      go_region_held3 (fun w' => w'.cell? ⟨gx, 0, none⟩ = some (.int .i64 x0) ∧ w'.cell? ⟨gx, 1, none⟩ = some (.int .i64 x1) ∧ w'.cell? ⟨gx, 2, none⟩ = some (.slice Ad xd.length cD)) (first | (with_reducible exact ⟨kx0, kx1, kx2⟩) | (with_reducible exact ⟨kxa0, kxa1, kxa2⟩) | (with_reducible exact ⟨kxb0, kxb1, kxb2⟩) | (with_reducible exact keep4 HNE.out KXq.out _ _ _ _) | go_keep) (first | (go_at_call 43; refine (slices_Clone_byte_byte.calls Ad cD xd xd _ ?x1 ?x2 HCL.out).mono ?_; (case x1 => exact Kd.C_below (Kd.R_reads' HR9.out).2.2 (by repeat (first | exact Below.refl _ _ | apply below_drew1 | apply pw_below_drewN | apply below_alloc))); (case x2 => exact (Kd.R_reads' HR9.out).2.1); rintro e wq ⟨vz, rfl, hR, hb⟩; obtain ⟨Az, cz, ez⟩ := Kd.R_slice hR; subst ez; have HRq := Aside0.mk (show Kd.R (Kd.int .u8) 5 wq w0.heap.size (fun k => M ≤ k) (.slice Az xd.length cz) xd from Kd.R_lower (Kd.R_mono (Kd.R_bound hR) (fun k hk => Nat.le_trans (Nat.le_trans HMS.out (below_size (w := w9) (by repeat (first | exact Below.refl _ _ | apply below_drew1 | apply pw_below_drewN | apply below_alloc)))) hk.2.1)) (Nat.le_trans (below_size HH9.out.2.2.2.1) (below_size (w := w9) (by repeat (first | exact Below.refl _ _ | apply below_drew1 | apply pw_below_drewN | apply below_alloc))))); (try (have KZ := Aside0.mk (blk_below (g := w9.heap.size) (o := .cells #[.int .i64 0, .int .i64 0, .int .i64 0, .slice none 0 0] 74 (0, 0)) (by exact blk_new w9 _) hb); have kz0 := blk_cell KZ.out 0; have kz1 := blk_cell KZ.out 1; have kz2 := blk_cell KZ.out 2; have kz3 := blk_cell KZ.out 3; have fz0 := blk_frozen KZ.out 0; have fz1 := blk_frozen KZ.out 1; have fz2 := blk_frozen KZ.out 2; have fz3 := blk_frozen KZ.out 3)); have HFq := Aside0.mk (below_step (w := w9) (by repeat (first | exact Below.refl _ _ | apply below_drew1 | apply pw_below_drewN | apply below_alloc)) hb); clear HF kx0 kx1 kx2; have HF := HFq; clear HFq; have kx0 : wq.cell? ⟨gx, 0, none⟩ = some (.int .i64 x0) := blk_cell (blk_below KX9.out HF.out) 0; have kx1 : wq.cell? ⟨gx, 1, none⟩ = some (.int .i64 x1) := blk_cell (blk_below KX9.out HF.out) 1; have kx2 : wq.cell? ⟨gx, 2, none⟩ = some (.slice Ad xd.length cD) := blk_cell (blk_below KX9.out HF.out) 2; have KXq := Aside0.mk (blk_below KX9.out HF.out); have kxb0 : (wq.alloc (.cells #[.int .i64 0, .int .i64 0, .int .i64 0, .slice none 0 0] 74 (0, 0))).cell? ⟨gx, 0, none⟩ = some (.int .i64 x0) := blk_cell (blk_alloc (blk_below KX9.out HF.out) (.cells #[.int .i64 0, .int .i64 0, .int .i64 0, .slice none 0 0] 74 (0, 0))) 0; have kxb1 : (wq.alloc (.cells #[.int .i64 0, .int .i64 0, .int .i64 0, .slice none 0 0] 74 (0, 0))).cell? ⟨gx, 1, none⟩ = some (.int .i64 x1) := blk_cell (blk_alloc (blk_below KX9.out HF.out) (.cells #[.int .i64 0, .int .i64 0, .int .i64 0, .slice none 0 0] 74 (0, 0))) 1; have kxb2 : (wq.alloc (.cells #[.int .i64 0, .int .i64 0, .int .i64 0, .slice none 0 0] 74 (0, 0))).cell? ⟨gx, 2, none⟩ = some (.slice Ad xd.length cD) := blk_cell (blk_alloc (blk_below KX9.out HF.out) (.cells #[.int .i64 0, .int .i64 0, .int .i64 0, .slice none 0 0] 74 (0, 0))) 2; clear hR hb))
      ·(try go_wp2_with fail)
       go_meet
       have hnz : N ≤ wq.heap.size := by have := HH9.out.2.2.2.2; have := below_size HF.out; omega
       exact ⟨wq.heap.size, Az, cz, _, rfl, rfl, ⟨HH9.out.below (below_alloc HF.out _)⟩, ⟨blk_alloc (blk_below KX9.out HF.out) _⟩, ⟨Kd.R_below HR9.out (below_alloc HF.out _)⟩, ⟨blk_new wq _⟩, ⟨Kd.R_below HRq.out (below_alloc (Below.refl _ _) _)⟩, ⟨hnz⟩, ⟨by have := below_size HF.out; have := HMS.out; simp only [World.alloc, Array.size_push]; omega⟩⟩
      ·(try go_wp2_with fail)
       go_meet
       have hne : gx ≠ w9.heap.size := by have := blk_lt KX9.out; have := below_size HF.out; omega
       have hnz : N ≤ w9.heap.size := by have := HH9.out.2.2.2.2; have := below_size HF.out; omega
       exact ⟨w9.heap.size, Az, cz, _, rfl, rfl, ⟨((((HH9.out.below (HF.out)).set HA.out hnz 0 _).set HA.out hnz 1 _).set HA.out hnz 2 _).set HA.out hnz 3 _⟩, ⟨blk_far (blk_far (blk_far (blk_far (blk_below KX9.out (HF.out)) hne _) hne _) hne _) hne _⟩, ⟨Kd.R_set (Kd.R_set (Kd.R_set (Kd.R_set (Kd.R_below HR9.out (HF.out)) (KZ.out) (by decide) 0 _) (blk_put (KZ.out) 0 _ rfl) (by decide) 1 _) (blk_put (blk_put (KZ.out) 0 _ rfl) 1 _ rfl) (by decide) 2 _) (blk_put (blk_put (blk_put (KZ.out) 0 _ rfl) 1 _ rfl) 2 _ rfl) (by decide) 3 _⟩, ⟨blk_put (blk_put (blk_put (blk_put (KZ.out) 0 _ rfl) 1 _ rfl) 2 _ rfl) 3 _ rfl⟩, ⟨Kd.R_set (Kd.R_set (Kd.R_set (Kd.R_set (HRq.out) (KZ.out) (by decide) 0 _) (blk_put (KZ.out) 0 _ rfl) (by decide) 1 _) (blk_put (blk_put (KZ.out) 0 _ rfl) 1 _ rfl) (by decide) 2 _) (blk_put (blk_put (blk_put (KZ.out) 0 _ rfl) 1 _ rfl) 2 _ rfl) (by decide) 3 _⟩, ⟨hnz⟩, ⟨by have := below_size HF.out; have := HMS.out; simp only [World.setCell, Array.size_modify, World.alloc, Array.size_push]; omega⟩⟩
     case rest =>
      obtain ⟨gz, Az, cz, wc, rfl, rfl, HHr, KXr, HRr, KZr, HRz, HNZ, HMr⟩ := hcut
      clear HH9 KX9 HR9 HF kx0 kx1 kx2 kxa0 kxa1 kxa2 HMS HCL HNE dfb
      go_upto_if 83 with fail
      go_cut [] (fun W => ∃ (A2' : Option Addr) (c2' : Nat) (Wn : World), Wn = W ∧ Aside0 (Wn.heap[gs]? = some (.cells #[.int .i64 base, .slice A1 ks.length c1, .slice A2' ss'.length c2'] 48 (0, 0))) ∧ Aside0 (Kd.S k24 24 Wn w0.heap.size okA (.slice A1 ks.length c1) ks) ∧ Aside0 (Kd.S k74 74 Wn w0.heap.size (fun k => okB k ∨ M ≤ k) (.slice A2' ss'.length c2') ss') ∧ Aside0 (Below w0.heap.size w0 Wn) ∧ Aside0 (Wn.heap[gx]? = some (.cells #[.int .i64 x0, .int .i64 x1, .slice Ad xd.length cD] 24 (0, 0))) ∧ Aside0 (Kd.R (Kd.int .u8) 5 Wn w0.heap.size (fun k => N ≤ k ∧ k < M) (.slice Ad xd.length cD) xd) ∧ Aside0 (M ≤ Wn.heap.size))
      case first =>
       obtain ⟨hs0, hs1, hs2, hf0, hf1, hf2⟩ := HHr.out.cell
       have kz0 := blk_cell KZr.out 0
       have kz1 := blk_cell KZr.out 1
       have kz2 := blk_cell KZr.out 2
       have kz3 := blk_cell KZr.out 3
       cases th with
       | true =>
        have hlt := HLT.out rfl
        have ESS' := Aside0.mk (show ss' = ss.set at_ ⟨x0, x1, base + ks.length, xd⟩ from ESS.out.trans (if_pos rfl))
        obtain ⟨g, cap, eg, hgB, hgl, curg, hgb⟩ := Kd.S_form HHr.out.2.2.1 (by omega)
        cases eg
        have HGB := Aside0.mk hgb
        obtain ⟨hns, hcs2, hCs⟩ := Kd.S_reads' HHr.out.2.2.1
        obtain ⟨ad, A3, c3, ha, hx0, hx1, hx2, hx3, hl3, hC3⟩ := at_T74 hCs (at_ : Int) (by omega) (by omega)
        cases ha
        have hadd := addr_at g (at_ * 4)
        rw [Int.toNat_natCast, hadd] at hx0 hx1 hx2 hx3
        dsimp only at hx1 hx2 hx3
        have q0 := blk_frozen HGB.out (at_ * 4)
        have q1 := blk_frozen HGB.out (at_ * 4 + 1)
        have q2 := blk_frozen HGB.out (at_ * 4 + 2)
        have q3 := blk_frozen HGB.out (at_ * 4 + 3)
        have p0 : ((at_ : Int) < (ss.length : Int)) = True := eq_true (by omega)
        have p1 : ((0 : Int) ≤ (at_ : Int)) = True := eq_true (by omega)
        have HNG := Aside0.mk (show gz ≠ g by have := HA.out.2.2.1 g ((Kd.S_R HHr.out.2.2.1).1 g rfl); have := HNZ.out; omega)
        have HSG := Aside0.mk (show gs ≠ g from blk_ne HHr.out.1 HGB.out (by decide))
        clear hns hcs2 hCs hl3 hC3 hgB hgl hgb
        go_upto_region 19 with fail
        go_region_held3 (fun w' => w'.cell? ⟨gs, 2, none⟩ = some (.slice (some ⟨g, 0, none⟩) ss.length c2) ∧ w'.cell? ⟨gz, 0, none⟩ = some (.int .i64 x0) ∧ w'.cell? ⟨gz, 1, none⟩ = some (.int .i64 x1) ∧ w'.cell? ⟨gz, 2, none⟩ = some (.int .i64 (base + ks.length)) ∧ w'.cell? ⟨gz, 3, none⟩ = some (.slice Az xd.length cz)) (first | (with_reducible exact ⟨hs2, kz0, kz1, kz2, kz3⟩) | (with_reducible exact ⟨cell_far4 HSG.out hs2 _ _ _ _ _ _ _ _, cell_far4 HNG.out kz0 _ _ _ _ _ _ _ _, cell_far4 HNG.out kz1 _ _ _ _ _ _ _ _, cell_far4 HNG.out kz2 _ _ _ _ _ _ _ _, cell_far4 HNG.out kz3 _ _ _ _ _ _ _ _⟩) | go_keep) (fail)
        all_goals (
         (try go_wp2_with fail)
         go_meet
         have HSA := (setAt_of w0 wc N M gs gx at_ base A1 c1 ks g c2 ss ⟨x0, x1, base + ks.length, xd⟩ okA okB (.slice Az xd.length cz) (.slice Ad xd.length cD) (.int .i64 x0) (.int .i64 x1) xd HHr.out HA.out HNM.out HMr.out hlt HRz.out KXr.out HRr.out).drew
         rw [← ESS'.out] at HSA
         exact ⟨some ⟨g, 0, none⟩, c2, _, rfl, ⟨HSA.1⟩, ⟨HSA.2.1⟩, ⟨HSA.2.2.1⟩, ⟨HSA.2.2.2.1⟩, ⟨HSA.2.2.2.2.1⟩, ⟨HSA.2.2.2.2.2.1⟩, ⟨HSA.2.2.2.2.2.2⟩⟩)
       | false =>
        have ESS' := Aside0.mk (show ss' = ss.take at_ ++ ⟨x0, x1, base + ks.length, xd⟩ :: ss.drop at_ from ESS.out.trans (if_neg (by decide)))
        go_upto_region 20 with fail
        have hsA : (wc.alloc (.cells #[.int .i64 x0, .int .i64 x1, .int .i64 (base + ks.length), .slice Az xd.length cz] 74 (0, 0))).cell? ⟨gs, 2, none⟩ = some (.slice A2n ss.length c2) := blk_cell (blk_alloc HHr.out.1 _) 2
        go_region_with (first | (go_at_call 82; refine (insertAt.calls w0 wc _ N M gs gx at_ base A1 c1 ks A2n c2 ss ⟨x0, x1, base + ks.length, xd⟩ okA okB (.slice Az xd.length cz) (.slice Ad xd.length cD) (.int .i64 x0) (.int .i64 x1) xd ?x1 HHr.out HA.out HNM.out HMr.out ?x3 HSL.out ?x5 HRz.out KXr.out HRr.out).mono ?_; (case x1 => exact (by repeat (first | exact Below.refl _ _ | apply below_drew1 | apply pw_below_drewN | apply below_alloc))); (case x3 => rw [HAT.out]; exact List.countP_le_length); (case x5 => exact blk_new wc _); rintro e wi ⟨A2', c2', rfl, hi⟩; rw [← ESS'.out] at hi ⊢; have HI := Aside0.mk hi; have ksi := blk_cell hi.1 2; have fsi := blk_frozen hi.1 2; clear hi))
        all_goals (
         (try go_wp2_with fail)
         go_meet
         exact ⟨A2', c2', _, rfl, ⟨blk_put HI.out.1 2 _ rfl⟩, ⟨Kd.S_set HI.out.2.1 HI.out.1 (by decide) 2 _⟩, ⟨Kd.S_set HI.out.2.2.1 HI.out.1 (by decide) 2 _⟩, ⟨below_set HI.out.2.2.2.1 HA.out.2.2.2.1⟩, ⟨blk_far HI.out.2.2.2.2.1 (blk_ne HI.out.2.2.2.2.1 HI.out.1 (by decide)) _⟩, ⟨Kd.R_set HI.out.2.2.2.2.2.1 HI.out.1 (by decide) 2 _⟩, ⟨by have := HI.out.2.2.2.2.2.2; simpa [World.setCell] using this⟩⟩)
      case rest =>
       obtain ⟨A2', c2', wd, rfl, KSd, S1d, S2d, BWd, KXd, RXd, MWd⟩ := hcut
       clear HHr KXr HRr KZr HRz HMr
       have ks1 := blk_cell KSd.out 1
       have fs1 := blk_frozen KSd.out 1
       have ka1 : (wd.alloc (.cells #[.int .i64 x0, .int .i64 x1, .slice Ad xd.length cD] 24 (0, 0))).cell? ⟨gs, 1, none⟩ = some (.slice A1 ks.length c1) := blk_cell (blk_alloc KSd.out _) 1
       have kx0 := blk_cell KXd.out 0
       have kx1 := blk_cell KXd.out 1
       have kx2 := blk_cell KXd.out 2
       go_upto_region 21 with fail
       have mixed : Try.prog.follows Departure.mixedOrders = true := by kernel_rfl
       have HSD := Aside0.mk (show SetAt w0 N M gs gx 0 base A1 c1 ks A2' c2' ss' okA okB (.slice Ad xd.length cD) (.int .i64 x0) (.int .i64 x1) xd wd from ⟨KSd.out, S1d.out, S2d.out, BWd.out, KXd.out, RXd.out, MWd.out⟩)
       go_region_law_o ((refine keptAppend w0 wd N M gs gx base A1 c1 ks A2' c2' ss' okA okB Ad cD x0 x1 xd HSD.out HA.out HNM.out HKL.out (by rfl) (by rfl) (by rfl) (by rfl) ?_); intro A1' c1' w1 g1 g2 g3 g4; have G1 := Aside0.mk g1; have G2 := Aside0.mk g2; have G3 := Aside0.mk g3; have G4 := Aside0.mk g4; have k11 := blk_cell g1 1; have f11 := blk_frozen g1 1; clear g1 g2 g3 g4)
       all_goals (
        go_wp2
        go_ret2
        have hl : (ks ++ [(⟨x0, x1, xd⟩ : S24)]).length = ks.length + 1 := by simp
        have g1 := G1.out
        have g2 := G2.out
        have g3 := G3.out
        rw [hl] at g2
        refine ⟨rfl, A1', c1', A2', c2', (fun k => okA k ∨ (N ≤ k ∧ k < M) ∨ wd.heap.size ≤ k), (fun k => (okB k ∨ M ≤ k) ∧ k < wd.heap.size), ?_, ?_⟩
        ·rw [EKS.out]
         refine ⟨?_, ?_, ?_, ?_, Nat.zero_le _⟩
         ·rw [hl]; exact blk_put g1 1 _ rfl
         ·rw [hl]; exact Kd.S_set g2 g1 (by decide) 1 _
         ·exact Kd.S_set g3 g1 (by decide) 1 _
         ·exact below_set G4.out HA.out.2.2.2.1
        ·obtain ⟨a1, a2, a3, a4, a5⟩ := HA.out
         have hNM := HNM.out
         have hMW := MWd.out
         intro k h1 h2
         rcases h1 with h1 | h1 | h1
         ·rcases h2.1 with h3 | h3
          ·exact a1 k h1 h3
          ·have := a2 k h1; omega
         ·rcases h2.1 with h3 | h3
          ·have := a3 k h3; omega
          ·omega
         ·omega)
 ·have hT : ks = ks' ∧ ss = ss' ∧ (0 : Int) = pl ∧ (5 : Int) = code := by have := HT.out; simpa [hcd] using this
  obtain ⟨rfl, rfl, rfl, rfl⟩ := hT
  have hcb : (cd == 0) = false := by simpa using hcd
  go_wp2
  go_ret2
  exact ⟨rfl, _, _, _, _, okA, okB, ⟨HH3.out.1, HH3.out.2.1, HH3.out.2.2.1, HH3.out.2.2.2.1, Nat.zero_le _⟩, HA.out.1⟩

end Go.Proofs.Ytladodfapnigfaa.YSes
