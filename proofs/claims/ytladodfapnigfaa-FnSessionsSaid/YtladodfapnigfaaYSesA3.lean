/- A3 -/
import Derived.Test.YtladodfapnigfaaYSesx0
import Derived.Test.YtladodfapnigfaaYSesx1
import Derived.Test.YtladodfapnigfaaYSesA2
namespace Go.Proofs.Ytladodfapnigfaa.YSes
open Go.RowKit Go.Proofs.YtladodfapnigfaaW.PrintWords Go.Proofs.YtladodfapnigfaaW.PrintLast Go.Proofs.YtladodfapnigfaaW.PrintMore
attribute [local go_sem] max2_int min2_int max_two min_two max_three min_three max_four min_four
set_option linter.unusedVariables false
set_option linter.unusedSimpArgs false
theorem w64i (i : Nat) (h : i ≤ 1048576) : wrap64 ((i : Int) + 1) = ((i + 1 : Nat) : Int) := by
 unfold wrap64; omega
set_option maxHeartbeats 8000000 in
set_option maxRecDepth 100000 in
theorem clone.calls (base : Int) (A1 : Option Addr) (c1 : Nat) (l1 : List S24) (A2 : Option Addr) (c2 : Nat) (l2 : List S74) (w : World) (hr1 : Kd.C k24 w A1 l1.length l1) (hc1 : l1.length ≤ c1) (hr2 : Kd.C k74 w A2 l2.length l2) (hc2 : l2.length ≤ c2) (hn1 : l1.length ≤ 1048576) (hn2 : l2.length ≤ 1048576) (hb1 : ∀ x ∈ l1, x.f2.length ≤ 64) (hb2 : ∀ x ∈ l2, x.f3.length ≤ 64) :
 Calls Try.prog 66 #[.agg #[.int .i64 base, .slice A1 l1.length c1, .slice A2 l2.length c2]] w fun e w' => ∃ v1 v2 : Value, ∃ N : Nat, e = .returned (.agg #[.int .i64 base, v1, v2]) ∧ Kd.S k24 24 w' w.heap.size (fun k => k < N) v1 l1 ∧ Kd.S k74 74 w' w.heap.size (fun k => N ≤ k) v2 l2 ∧ Below w.heap.size w w' := by
 have hu48 := Try.underlying48
 have hu24 := Try.underlying24
 have hu74 := Try.underlying74
 have HR1 := Aside0.mk hr1
 have HC1 := Aside0.mk hc1
 have HR2 := Aside0.mk hr2
 have HC2 := Aside0.mk hc2
 have HN1 := Aside0.mk hn1
 have HN2 := Aside0.mk hn2
 have HX1 := Aside0.mk hb1
 have HX2 := Aside0.mk hb2
 clear hr1 hc1 hr2 hc2 hn1 hn2 hb1 hb2
 go_enter Try.func66, Try.ntmps66
 go_upto_region 2 with (first | ((with_reducible refine gate_dst (N := 1) rfl ?_); refine box_event ?hg (N := 1) ?hd (cs := #[.int .i64 base, .slice A1 l1.length c1, .slice A2 l2.length c2]) (t := 48) ?hr ?_; (case hd => rfl); (case hg => rfl); (case hr => first | (go_simp; done) | (go_simp; rfl)); intro g1 hg w1 hbox hb; have HBa := Aside0.mk hb; have BK1 := Aside0.mk hbox; have HG1 := Aside0.mk hg; clear hb hbox hg) | ((with_reducible refine gate_dst (N := 2) rfl ?_); refine box_event ?hg (N := 2) ?hd (cs := #[.int .i64 0, .slice none 0 0, .slice none 0 0]) (t := 48) ?hr ?_; (case hd => rfl); (case hg => rfl); (case hr => first | (go_simp; done) | (go_simp; rfl)); intro g2 hg w2 hbox hb; have HBb := Aside0.mk (below_step HBa.out hb); have BK1b := Aside0.mk (blk_below BK1.out hb); have BK2 := Aside0.mk hbox; have HG2 := Aside0.mk hg; have HL := Aside0.mk (show w.heap.size ≤ w1.heap.size from below_size HBa.out); have hk0 := blk_cell BK1b.out 0; have hk1 := blk_cell BK1b.out 1; have hk2 := blk_cell BK1b.out 2; have hf0 := blk_frozen BK1b.out 0; have hf1 := blk_frozen BK1b.out 1; have hf2 := blk_frozen BK1b.out 2; clear hb hbox hg) | (go_at_call 77; refine (cloneItemRow.calls A1 c1 l1 w _ ?x1 HR1.out HC1.out HN1.out).mono ?_; (case x1 => exact HBb.out); rintro e w3 ⟨v1, rfl, hrow, hb⟩; obtain ⟨B1, d1, rfl⟩ := hrow.slice; have HRow := Aside0.mk hrow; have HBc := Aside0.mk hb; have BK1c := Aside0.mk (blk_below BK1b.out hb); have BK2c := Aside0.mk (blk_below BK2.out hb); clear hk0 hk1 hk2 hf0 hf1 hf2; have hk0 := blk_cell BK1c.out 0; have hk1 := blk_cell BK1c.out 1; have hk2 := blk_cell BK1c.out 2; have hf0 := blk_frozen BK1c.out 0; have hf1 := blk_frozen BK1c.out 1; have hf2 := blk_frozen BK1c.out 2; clear hrow hb))
 obtain ⟨w4, hw4⟩ : ∃ W, W = w3.setCell ⟨g1, 1, none⟩ (.slice B1 l1.length d1) := ⟨_, rfl⟩
 rw [← hw4]
 have GW1 := Aside0.mk (show w.heap.size ≤ g1 from Nat.le_of_eq HG1.out.symm)
 have GW2a := Aside0.mk (show w.heap.size ≤ g2 by have := HG2.out; have := HL.out; omega)
 have G12 := Aside0.mk (show g1 ≠ g2 by have := HG1.out; have := HG2.out; have := blk_lt BK1.out; omega)
 have R0 := Aside0.mk (show RowI w w2.heap.size w4 (.slice B1 l1.length d1) l1 0 by rw [hw4]; exact HRow.out.far BK1c.out (by decide) (by decide) 1 _)
 have K1 := Aside0.mk (show w4.heap[g1]? = some (.cells #[.int .i64 base, .slice B1 l1.length d1, .slice A2 l2.length c2] 48 (0, 0)) by rw [hw4]; exact blk_put BK1c.out 1 _ rfl)
 have K2 := Aside0.mk (show w4.heap[g2]? = some (.cells #[.int .i64 0, .slice none 0 0, .slice none 0 0] 48 (0, 0)) by rw [hw4]; exact blk_far BK2c.out (fun e => G12.out e.symm) _)
 have BW := Aside0.mk (show Below w.heap.size w w4 by rw [hw4]; exact below_set (below_step HBb.out HBc.out) GW1.out)
 have LW := Aside0.mk (show w2.heap.size ≤ w4.heap.size by rw [hw4]; exact Nat.le_trans (below_size HBc.out) (by simp [World.setCell]))
 have LB := Aside0.mk (show w.heap.size ≤ w2.heap.size from below_size HBb.out)
 clear hw4 HRow BK1c BK2c HBc hk0 hk1 hk2 hf0 hf1 hf2 BK1 BK1b BK2 HBa HBb HG1 HG2 HL
 obtain ⟨N1, hN1⟩ : ∃ N, N = w2.heap.size := ⟨_, rfl⟩
 rw [← hN1] at R0 LW LB
 clear hN1
 have k0 := blk_cell K1.out 0
 have k1 := blk_cell K1.out 1
 have k2 := blk_cell K1.out 2
 have f0 := blk_frozen K1.out 0
 have f1 := blk_frozen K1.out 1
 have f2 := blk_frozen K1.out 2
 go_wp2
 go_loopg [14] l1.length (fun kq v14 W => ∃ i : Nat, Aside0 (i + kq = l1.length) ∧ v14 = .int .i64 (i : Int) ∧ Aside0 (RowI w N1 W (.slice B1 l1.length d1) l1 i) ∧ Aside0 (W.heap[g1]? = some (.cells #[.int .i64 base, .slice B1 l1.length d1, .slice A2 l2.length c2] 48 (0, 0))) ∧ Aside0 (W.heap[g2]? = some (.cells #[.int .i64 0, .slice none 0 0, .slice none 0 0] 48 (0, 0))) ∧ Aside0 (Below w.heap.size w W) ∧ Aside0 (N1 ≤ W.heap.size))
 case atStart => exact ⟨0, ⟨by omega⟩, rfl, R0, K1, K2, BW, LW⟩
 case round =>
  clear R0 K1 K2 BW LW k0 k1 k2 f0 f1 f2
  obtain ⟨i, HI, rfl, HRw, K1, K2, BW, LW⟩ := hrel
  cases gk with
  | zero =>
   have hil : i = l1.length := by have := HI.out; omega
   subst hil
   have p0 : ((l1.length : Int) < (l1.length : Int)) = False := eq_false (by omega)
   have HS0 := Aside0.mk HRw.out.owned
   obtain ⟨N2, hN2⟩ : ∃ N, N = wr.heap.size := ⟨_, rfl⟩
   rw [← hN2] at HS0
   have HN2e := Aside0.mk hN2
   clear hN2
   have k0 := blk_cell K1.out 0
   have k1 := blk_cell K1.out 1
   have k2 := blk_cell K1.out 2
   have f0 := blk_frozen K1.out 0
   have f1 := blk_frozen K1.out 1
   have f2 := blk_frozen K1.out 2
   go_upto_region 8 with (first | (go_at_call 78; refine (cloneSessRow.calls A2 c2 l2 w _ ?x1 HR2.out HC2.out HN2.out).mono ?_; (case x1 => exact BW.out); rintro e w7 ⟨v2, rfl, hrow, hb⟩; obtain ⟨B2, d2, rfl⟩ := hrow.slice; rw [← HN2e.out] at hrow; have HRow := Aside0.mk hrow; have HBc := Aside0.mk hb; have BK1c := Aside0.mk (blk_below K1.out hb); have BK2c := Aside0.mk (blk_below K2.out hb); clear k0 k1 k2 f0 f1 f2; have k0 := blk_cell BK1c.out 0; have k1 := blk_cell BK1c.out 1; have k2 := blk_cell BK1c.out 2; have f0 := blk_frozen BK1c.out 0; have f1 := blk_frozen BK1c.out 1; have f2 := blk_frozen BK1c.out 2; clear hrow hb))
   obtain ⟨w8, hw8⟩ : ∃ W, W = w7.setCell ⟨g1, 2, none⟩ (.slice B2 l2.length d2) := ⟨_, rfl⟩
   rw [← hw8]
   have R0 := Aside0.mk (show RowS w N2 w8 (.slice B2 l2.length d2) l2 0 by rw [hw8]; exact HRow.out.far BK1c.out (by decide) (by decide) 2 _)
   have K1b := Aside0.mk (show w8.heap[g1]? = some (.cells #[.int .i64 base, .slice B1 l1.length d1, .slice B2 l2.length d2] 48 (0, 0)) by rw [hw8]; exact blk_put BK1c.out 2 _ rfl)
   have K2b := Aside0.mk (show w8.heap[g2]? = some (.cells #[.int .i64 0, .slice none 0 0, .slice none 0 0] 48 (0, 0)) by rw [hw8]; exact blk_far BK2c.out (fun e => G12.out e.symm) _)
   have BWb := Aside0.mk (show Below w.heap.size w w8 by rw [hw8]; exact below_set (below_step BW.out HBc.out) GW1.out)
   have LWb := Aside0.mk (show N2 ≤ w8.heap.size by rw [hw8]; exact Nat.le_trans (by have := below_size HBc.out; have := HN2e.out; omega) (show w7.heap.size ≤ _ by simp [World.setCell]))
   have HS := Aside0.mk (show Kd.S k24 24 w8 N1 (fun k => k < N2) (.slice B1 l1.length d1) l1 by rw [hw8]; exact Kd.S_set (Kd.S_below HS0.out HBc.out) BK1c.out (by decide) _ _)
   have LN := Aside0.mk (show N1 ≤ N2 by have := LW.out; have := HN2e.out; omega)
   have LBs := LB
   clear hw8 HRow BK1c BK2c HBc k0 k1 k2 f0 f1 f2 K1 K2 BW LW HRw HS0 HN2e HI LB
   have K1 := K1b
   have K2 := K2b
   have BW := BWb
   have LW := LWb
   have LB := Aside0.mk (Nat.le_trans LBs.out LN.out)
   clear K1b K2b BWb LWb
   have k0 := blk_cell K1.out 0
   have k1 := blk_cell K1.out 1
   have k2 := blk_cell K1.out 2
   have f0 := blk_frozen K1.out 0
   have f1 := blk_frozen K1.out 1
   have f2 := blk_frozen K1.out 2
   go_wp2
   go_loopg [35] l2.length (fun kq v35 W => ∃ i : Nat, Aside0 (i + kq = l2.length) ∧ v35 = .int .i64 (i : Int) ∧ Aside0 (RowS w N2 W (.slice B2 l2.length d2) l2 i) ∧ Aside0 (W.heap[g1]? = some (.cells #[.int .i64 base, .slice B1 l1.length d1, .slice B2 l2.length d2] 48 (0, 0))) ∧ Aside0 (W.heap[g2]? = some (.cells #[.int .i64 0, .slice none 0 0, .slice none 0 0] 48 (0, 0))) ∧ Aside0 (Below w.heap.size w W) ∧ Aside0 (N2 ≤ W.heap.size) ∧ Aside0 (Kd.S k24 24 W N1 (fun k => k < N2) (.slice B1 l1.length d1) l1))
   case atStart => exact ⟨0, ⟨by omega⟩, rfl, R0, K1, K2, BW, LW, HS⟩
   case round =>
    clear R0 K1 K2 BW LW k0 k1 k2 f0 f1 f2 HS
    obtain ⟨i, HI, rfl, HRw, K1, K2, BW, LW, HS⟩ := hrel
    cases gk with
    | zero =>
     have hil : i = l2.length := by have := HI.out; omega
     subst hil
     have p0 : ((l2.length : Int) < (l2.length : Int)) = False := eq_false (by omega)
     have HSS := Aside0.mk HRw.out.owned
     have k0 := blk_cell K1.out 0
     have k1 := blk_cell K1.out 1
     have k2 := blk_cell K1.out 2
     have f0 := blk_frozen K1.out 0
     have f1 := blk_frozen K1.out 1
     have f2 := blk_frozen K1.out 2
     have j0 := blk_cell K2.out 0
     have j1 := blk_cell K2.out 1
     have j2 := blk_cell K2.out 2
     have i0 := blk_frozen K2.out 0
     have i1 := blk_frozen K2.out 1
     have i2 := blk_frozen K2.out 2
     have GW2 := Aside0.mk (show w.heap.size ≤ g2 from GW2a.out)
     go_wp2
     have b0 := K2.out
     have b1 := blk_put (cs' := #[.int .i64 base, .slice none 0 0, .slice none 0 0]) b0 0 (.int .i64 base) rfl
     have b2 := blk_put (cs' := #[.int .i64 base, .slice B1 l1.length d1, .slice none 0 0]) b1 1 (.slice B1 l1.length d1) rfl
     have b3 := blk_put (cs' := #[.int .i64 base, .slice B1 l1.length d1, .slice B2 l2.length d2]) b2 2 (.slice B2 l2.length d2) rfl
     refine bodyPost_ret (results_cell_row rfl _ _ g2 48 #[.int .i64 base, .slice B1 l1.length d1, .slice B2 l2.length d2] (0, 0) _ rfl b3 Try.underlying48 rfl (by kernel_rfl)) rfl ?_
     refine ⟨_, _, N2, rfl, ?_, ?_, below_set (below_set (below_set BW.out GW2.out) GW2.out) GW2.out⟩
     ·exact Kd.S_lower (Kd.S_set (Kd.S_set (Kd.S_set HS.out b0 (by decide) 0 _) b1 (by decide) 1 _) b2 (by decide) 2 _) LBs.out
     ·exact Kd.S_lower (Kd.S_mono (Kd.S_bound (Kd.S_set (Kd.S_set (Kd.S_set HSS.out b0 (by decide) 0 _) b1 (by decide) 1 _) b2 (by decide) 2 _)) (fun k hk => hk.2.1)) LB.out
    | succ n1 =>
     obtain ⟨x, hx⟩ : ∃ x, l2[i]? = some x := ⟨l2[i]'(by have := HI.out; omega), List.getElem?_eq_getElem _⟩
     have HXi := Aside0.mk hx
     clear hx
     obtain ⟨g, cap, e, hg1, hg2, cur, hgb⟩ := HRw.out.form (by have := HI.out; omega)
     cases e
     have KG := Aside0.mk hgb
     clear hgb
     obtain ⟨kc0, kc1, kc2, d, kc3, hsrc⟩ := HRw.out.cells i x HXi.out
     obtain ⟨A', c', rfl, hc', hC'⟩ := hsrc (Nat.le_refl _)
     have HCb := Aside0.mk hC'
     have HCc := Aside0.mk hc'
     have HGl := Aside0.mk hg1
     clear hC' hc' hsrc hg1 hg2
     replace kc0 : wr.cell? ⟨g, i * 4, none⟩ = some (.int .i64 x.f0) := kc0
     have p0 : ((i : Int) < (l2.length : Int)) = True := eq_true (by have := HI.out; omega)
     have p1 : ((0 : Int) ≤ (i : Int)) = True := eq_true (by omega)
     go_upto_region 11 with (first | ((with_reducible refine gate_dst (N := 6) rfl ?_); refine box_event ?hg (N := 6) ?hd (cs := #[.int .i64 0, .int .i64 0, .int .i64 0, .slice none 0 0]) (t := 74) ?hr ?_; (case hd => rfl); (case hg => rfl); (case hr => first | (go_simp; done) | (go_simp; rfl)); intro gx hg w5 hbox hb; have HB5 := Aside0.mk hb; have KX := Aside0.mk hbox; have HGX := Aside0.mk hg; have kx0 := blk_cell hbox 0; have fx0 := blk_frozen hbox 0; have kx1 := blk_cell hbox 1; have fx1 := blk_frozen hbox 1; have kx2 := blk_cell hbox 2; have fx2 := blk_frozen hbox 2; have kx3 := blk_cell hbox 3; have fx3 := blk_frozen hbox 3; clear hb hbox hg))
     clear kx0 fx0 kc0 kx1 fx1 kc1 kx2 fx2 kc2 kx3 fx3 kc3
     obtain ⟨w6, hw6⟩ : ∃ W, W = (((w5.setCell ⟨gx, 0, none⟩ (.int .i64 x.f0)).setCell ⟨gx, 1, none⟩ (.int .i64 x.f1)).setCell ⟨gx, 2, none⟩ (.int .i64 x.f2)).setCell ⟨gx, 3, none⟩ (.slice A' x.f3.length c') := ⟨_, rfl⟩
     rw [← hw6]
     have KX6 := Aside0.mk (show w6.heap[gx]? = some (.cells #[.int .i64 x.f0, .int .i64 x.f1, .int .i64 x.f2, .slice A' x.f3.length c'] 74 (0, 0)) by rw [hw6]; exact (blk_put (blk_put (blk_put (blk_put KX.out 0 _ rfl) 1 _ rfl) 2 _ rfl) 3 _ rfl))
     have NX := Aside0.mk (show g ≠ gx by have := blk_lt KG.out; have := HGX.out; omega)
     have NG1 := Aside0.mk (show g1 ≠ g from blk_ne K1.out KG.out (by decide))
     have NG2 := Aside0.mk (show g2 ≠ g from blk_ne K2.out KG.out (by decide))
     have HR6 := Aside0.mk (show RowS w N2 w6 (.slice (some ⟨g, 0, none⟩) l2.length d2) l2 i by
      rw [hw6]
      have hne : (Value.slice (some ⟨g, 0, none⟩) l2.length d2).ownBlock ≠ some gx := fun e => NX.out (by simpa [Value.ownBlock] using e)
      exact (((((HRw.out.below HB5.out).away KX.out hne 0 _).away (blk_put KX.out 0 _ rfl) hne 1 _).away (blk_put (blk_put KX.out 0 _ rfl) 1 _ rfl) hne 2 _).away (blk_put (blk_put (blk_put KX.out 0 _ rfl) 1 _ rfl) 2 _ rfl) hne 3 _))
     have K16 := Aside0.mk (show w6.heap[g1]? = some (.cells #[.int .i64 base, .slice B1 l1.length d1, .slice (some ⟨g, 0, none⟩) l2.length d2] 48 (0, 0)) by
      have hne := blk_ne (blk_below K1.out HB5.out) KX.out (by decide)
      rw [hw6]; exact (blk_far (blk_far (blk_far (blk_far (blk_below K1.out HB5.out) hne _) hne _) hne _) hne _))
     have K26 := Aside0.mk (show w6.heap[g2]? = some (.cells #[.int .i64 0, .slice none 0 0, .slice none 0 0] 48 (0, 0)) by
      have hne := blk_ne (blk_below K2.out HB5.out) KX.out (by decide)
      rw [hw6]; exact (blk_far (blk_far (blk_far (blk_far (blk_below K2.out HB5.out) hne _) hne _) hne _) hne _))
     have KG6 := Aside0.mk (show w6.heap[g]? = some (.cells cur 74 (0, 0)) by
      rw [hw6]; exact (blk_far (blk_far (blk_far (blk_far (blk_below KG.out HB5.out) NX.out _) NX.out _) NX.out _) NX.out _))
     have GWX := Aside0.mk (show w.heap.size ≤ gx by have := HGX.out; have := LW.out; have := LB.out; omega)
     have GWG := Aside0.mk (show w.heap.size ≤ g from Nat.le_trans LB.out HGl.out)
     have BW6 := Aside0.mk (show Below w.heap.size w w6 by rw [hw6]; exact (below_set (below_set (below_set (below_set (below_step BW.out HB5.out) GWX.out) GWX.out) GWX.out) GWX.out))
     have LW6 := Aside0.mk (show N2 ≤ w6.heap.size by rw [hw6]; exact Nat.le_trans LW.out (Nat.le_trans (below_size HB5.out) (by simp [World.setCell])))
     have HS6 := Aside0.mk (show Kd.S k24 24 w6 N1 (fun k => k < N2) (.slice B1 l1.length d1) l1 by rw [hw6]; exact (Kd.S_set (Kd.S_set (Kd.S_set (Kd.S_set (Kd.S_below HS.out HB5.out) KX.out (by decide) 0 _) (blk_put KX.out 0 _ rfl) (by decide) 1 _) (blk_put (blk_put KX.out 0 _ rfl) 1 _ rfl) (by decide) 2 _) (blk_put (blk_put (blk_put KX.out 0 _ rfl) 1 _ rfl) 2 _ rfl) (by decide) 3 _))
     clear hw6 KX HB5 HGX HRw K1 K2 BW LW KG GWX NX HS
     have HF := Aside0.mk (show slices_Clone_byte_byte.f x.f3 = some x.f3 from if_pos (by have := HX2.out x (List.mem_of_getElem? HXi.out); omega))
     have k1 := blk_cell K16.out 2
     have f1 := blk_frozen K16.out 2
     have k2 := blk_cell KX6.out 3
     have f2 := blk_frozen KX6.out 3
     have hst := Aside0.mk HR6.out
     obtain ⟨_, _, _, d6, kc2, _⟩ := hst.out.cells i x HXi.out
     have fc2 := blk_frozen KG6.out (i * 4 + 3)
     clear hst
     go_region_with (first | (go_at_call 43; refine (slices_Clone_byte_byte.calls A' c' x.f3 x.f3 _ ?x1 HCc.out HF.out).mono ?_; (case x1 => exact Kd.C_below HCb.out (by repeat (first | exact BW6.out | apply below_drew1 | apply pw_below_drewN))); rintro e wq ⟨vd, rfl, hR, hb⟩; obtain ⟨Ad, cd, ed⟩ := Kd.R_slice hR; subst ed; have hb2 : Below w6.heap.size w6 wq := below_step (by repeat (first | exact Below.refl _ _ | apply below_drew1 | apply pw_below_drewN)) hb; have HRq := Aside0.mk (show Kd.R (Kd.int .u8) 5 wq w6.heap.size (fun _ => True) (.slice Ad x.f3.length cd) x.f3 from hR); have HBq := Aside0.mk hb2; have K1q := Aside0.mk (blk_below K16.out hb2); have KGq := Aside0.mk (blk_below KG6.out hb2); have k1q := blk_cell K1q.out 2; have f1q := blk_frozen K1q.out 2; have kc2q := (hb2.cell (World.block_lt_of_cell? w6 _ kc2)).trans kc2; have fc2q := blk_frozen KGq.out (i * 4 + 3); clear hR hb hb2))
     all_goals (
      go_wp2_with fail
      go_roundg n1
      case measure => omega
      case rel => exact ⟨i + 1, ⟨by have := HI.out; omega⟩, by rw [w64i i (by have := HI.out; have := HN2.out; omega)], ⟨HR6.out.put HXi.out HBq.out LW6.out HRq.out⟩, ⟨blk_far K1q.out NG1.out _⟩, ⟨blk_far (blk_below K26.out HBq.out) NG2.out _⟩, ⟨below_set (below_step BW6.out HBq.out) GWG.out⟩, ⟨Nat.le_trans LW6.out (Nat.le_trans (below_size HBq.out) (by simp [World.setCell]))⟩, ⟨Kd.S_set (Kd.S_below HS6.out HBq.out) KGq.out (by decide) _ _⟩⟩)
  | succ n1 =>
   obtain ⟨x, hx⟩ : ∃ x, l1[i]? = some x := ⟨l1[i]'(by have := HI.out; omega), List.getElem?_eq_getElem _⟩
   have HXi := Aside0.mk hx
   clear hx
   obtain ⟨g, cap, e, hg1, hg2, cur, hgb⟩ := HRw.out.form (by have := HI.out; omega)
   cases e
   have KG := Aside0.mk hgb
   clear hgb
   obtain ⟨kc0, kc1, d, kc2, hsrc⟩ := HRw.out.cells i x HXi.out
   obtain ⟨A', c', rfl, hc', hC'⟩ := hsrc (Nat.le_refl _)
   have HCb := Aside0.mk hC'
   have HCc := Aside0.mk hc'
   have HGl := Aside0.mk hg1
   clear hC' hc' hsrc hg1 hg2
   replace kc0 : wr.cell? ⟨g, i * 3, none⟩ = some (.int .i64 x.f0) := kc0
   have p0 : ((i : Int) < (l1.length : Int)) = True := eq_true (by have := HI.out; omega)
   have p1 : ((0 : Int) ≤ (i : Int)) = True := eq_true (by omega)
   go_upto_region 5 with (first | ((with_reducible refine gate_dst (N := 4) rfl ?_); refine box_event ?hg (N := 4) ?hd (cs := #[.int .i64 0, .int .i64 0, .slice none 0 0]) (t := 24) ?hr ?_; (case hd => rfl); (case hg => rfl); (case hr => first | (go_simp; done) | (go_simp; rfl)); intro gx hg w5 hbox hb; have HB5 := Aside0.mk hb; have KX := Aside0.mk hbox; have HGX := Aside0.mk hg; have kx0 := blk_cell hbox 0; have fx0 := blk_frozen hbox 0; have kx1 := blk_cell hbox 1; have fx1 := blk_frozen hbox 1; have kx2 := blk_cell hbox 2; have fx2 := blk_frozen hbox 2; clear hb hbox hg))
   clear kx0 fx0 kc0 kx1 fx1 kc1 kx2 fx2 kc2
   obtain ⟨w6, hw6⟩ : ∃ W, W = ((w5.setCell ⟨gx, 0, none⟩ (.int .i64 x.f0)).setCell ⟨gx, 1, none⟩ (.int .i64 x.f1)).setCell ⟨gx, 2, none⟩ (.slice A' x.f2.length c') := ⟨_, rfl⟩
   rw [← hw6]
   have KX6 := Aside0.mk (show w6.heap[gx]? = some (.cells #[.int .i64 x.f0, .int .i64 x.f1, .slice A' x.f2.length c'] 24 (0, 0)) by rw [hw6]; exact (blk_put (blk_put (blk_put KX.out 0 _ rfl) 1 _ rfl) 2 _ rfl))
   have NX := Aside0.mk (show g ≠ gx by have := blk_lt KG.out; have := HGX.out; omega)
   have NG1 := Aside0.mk (show g1 ≠ g from blk_ne K1.out KG.out (by decide))
   have NG2 := Aside0.mk (show g2 ≠ g from blk_ne K2.out KG.out (by decide))
   have HR6 := Aside0.mk (show RowI w N1 w6 (.slice (some ⟨g, 0, none⟩) l1.length d1) l1 i by
    rw [hw6]
    have hne : (Value.slice (some ⟨g, 0, none⟩) l1.length d1).ownBlock ≠ some gx := fun e => NX.out (by simpa [Value.ownBlock] using e)
    exact ((((HRw.out.below HB5.out).away KX.out hne 0 _).away (blk_put KX.out 0 _ rfl) hne 1 _).away (blk_put (blk_put KX.out 0 _ rfl) 1 _ rfl) hne 2 _))
   have K16 := Aside0.mk (show w6.heap[g1]? = some (.cells #[.int .i64 base, .slice (some ⟨g, 0, none⟩) l1.length d1, .slice A2 l2.length c2] 48 (0, 0)) by
    have hne := blk_ne (blk_below K1.out HB5.out) KX.out (by decide)
    rw [hw6]; exact (blk_far (blk_far (blk_far (blk_below K1.out HB5.out) hne _) hne _) hne _))
   have K26 := Aside0.mk (show w6.heap[g2]? = some (.cells #[.int .i64 0, .slice none 0 0, .slice none 0 0] 48 (0, 0)) by
    have hne := blk_ne (blk_below K2.out HB5.out) KX.out (by decide)
    rw [hw6]; exact (blk_far (blk_far (blk_far (blk_below K2.out HB5.out) hne _) hne _) hne _))
   have KG6 := Aside0.mk (show w6.heap[g]? = some (.cells cur 24 (0, 0)) by
    rw [hw6]; exact (blk_far (blk_far (blk_far (blk_below KG.out HB5.out) NX.out _) NX.out _) NX.out _))
   have GWX := Aside0.mk (show w.heap.size ≤ gx by have := HGX.out; have := LW.out; have := LB.out; omega)
   have GWG := Aside0.mk (show w.heap.size ≤ g from Nat.le_trans LB.out HGl.out)
   have BW6 := Aside0.mk (show Below w.heap.size w w6 by rw [hw6]; exact (below_set (below_set (below_set (below_step BW.out HB5.out) GWX.out) GWX.out) GWX.out))
   have LW6 := Aside0.mk (show N1 ≤ w6.heap.size by rw [hw6]; exact Nat.le_trans LW.out (Nat.le_trans (below_size HB5.out) (by simp [World.setCell])))

   clear hw6 KX HB5 HGX HRw K1 K2 BW LW KG GWX NX
   have HF := Aside0.mk (show slices_Clone_byte_byte.f x.f2 = some x.f2 from if_pos (by have := HX1.out x (List.mem_of_getElem? HXi.out); omega))
   have k1 := blk_cell K16.out 1
   have f1 := blk_frozen K16.out 1
   have k2 := blk_cell KX6.out 2
   have f2 := blk_frozen KX6.out 2
   have hst := Aside0.mk HR6.out
   obtain ⟨_, _, d6, kc2, _⟩ := hst.out.cells i x HXi.out
   have fc2 := blk_frozen KG6.out (i * 3 + 2)
   clear hst
   go_region_with (first | (go_at_call 43; refine (slices_Clone_byte_byte.calls A' c' x.f2 x.f2 _ ?x1 HCc.out HF.out).mono ?_; (case x1 => exact Kd.C_below HCb.out (by repeat (first | exact BW6.out | apply below_drew1 | apply pw_below_drewN))); rintro e wq ⟨vd, rfl, hR, hb⟩; obtain ⟨Ad, cd, ed⟩ := Kd.R_slice hR; subst ed; have hb2 : Below w6.heap.size w6 wq := below_step (by repeat (first | exact Below.refl _ _ | apply below_drew1 | apply pw_below_drewN)) hb; have HRq := Aside0.mk (show Kd.R (Kd.int .u8) 5 wq w6.heap.size (fun _ => True) (.slice Ad x.f2.length cd) x.f2 from hR); have HBq := Aside0.mk hb2; have K1q := Aside0.mk (blk_below K16.out hb2); have KGq := Aside0.mk (blk_below KG6.out hb2); have k1q := blk_cell K1q.out 1; have f1q := blk_frozen K1q.out 1; have kc2q := (hb2.cell (World.block_lt_of_cell? w6 _ kc2)).trans kc2; have fc2q := blk_frozen KGq.out (i * 3 + 2); clear hR hb hb2))
   all_goals (
    go_wp2_with fail
    go_roundg n1
    case measure => omega
    case rel => exact ⟨i + 1, ⟨by have := HI.out; omega⟩, by rw [w64i i (by have := HI.out; have := HN1.out; omega)], ⟨HR6.out.put HXi.out HBq.out LW6.out HRq.out⟩, ⟨blk_far K1q.out NG1.out _⟩, ⟨blk_far (blk_below K26.out HBq.out) NG2.out _⟩, ⟨below_set (below_step BW6.out HBq.out) GWG.out⟩, ⟨Nat.le_trans LW6.out (Nat.le_trans (below_size HBq.out) (by simp [World.setCell]))⟩⟩)

end Go.Proofs.Ytladodfapnigfaa.YSes
