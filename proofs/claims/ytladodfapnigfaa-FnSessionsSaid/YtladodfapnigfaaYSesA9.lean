/- A9 -/
import Derived.Test.YtladodfapnigfaaYSesx0
import Derived.Test.YtladodfapnigfaaYSesx4
import Derived.Test.YtladodfapnigfaaYSesx2
import Derived.Test.YtladodfapnigfaaYSesA3
import Derived.Test.YtladodfapnigfaaYSesA8
namespace Go.Proofs.Ytladodfapnigfaa.YSes
open Go.RowKit Go.Proofs.YtladodfapnigfaaW.PrintWords Go.Proofs.YtladodfapnigfaaW.PrintLast Go.Proofs.YtladodfapnigfaaW.PrintMore
attribute [local go_sem] max2_int min2_int max_two min_two max_three min_three max_four min_four
set_option linter.unusedVariables false
set_option linter.unusedSimpArgs false
set_option maxHeartbeats 8000000 in
set_option maxRecDepth 100000 in
/-- Apply of a service that isn't valid. -/
theorem applyI.bad (k : Nat) (base : Int) (A1 : Option Addr) (c1 : Nat) (ks : List S24) (A2 : Option Addr) (c2 : Nat) (ss : List S74) (A : Option Addr) (c : Nat) (b : List Int) (w : World)
 (hr1 : Kd.C k24 w A1 ks.length ks) (hc1 : ks.length ≤ c1) (hr2 : Kd.C k74 w A2 ss.length ss) (hc2 : ss.length ≤ c2) (hv : impl_Service_valid.f k base ks ss = some false) :
 Calls Try.prog 37 #[.agg #[.int .i64 base, .slice A1 ks.length c1, .slice A2 ss.length c2], .slice A b.length c] w fun e w' => e = .returned (.tuple #[.agg #[.int .i64 0, .slice none 0 0, .slice none 0 0], .int .i64 0, .int .i64 5]) ∧ Below w.heap.size w w' := by
 have hu48 := Try.underlying48
 have HR1 := Aside0.mk hr1
 have HC1 := Aside0.mk hc1
 have HR2 := Aside0.mk hr2
 have HC2 := Aside0.mk hc2
 have HV := Aside0.mk hv
 clear hr1 hc1 hr2 hc2 hv
 go_enter Try.func37, Try.ntmps37
 go_wp2_with (first | ((with_reducible refine gate_dst (N := 2) rfl ?_); refine box_event ?hg (N := 2) ?hd (cs := #[.int .i64 base, .slice A1 ks.length c1, .slice A2 ss.length c2]) (t := 48) ?hr ?_; (case hd => rfl); (case hg => rfl); (case hr => first | (go_simp; done) | (go_simp; rfl)); intro g2 hg w1 hbox hb; have HB1 := Aside0.mk hb; have BK1 := Aside0.mk hbox; have HG2 := Aside0.mk hg; clear hb hbox hg) | ((with_reducible refine gate_dst (N := 4) rfl ?_); refine box_event ?hg (N := 4) ?hd (cs := #[.int .i64 0, .slice none 0 0, .slice none 0 0]) (t := 48) ?hr ?_; (case hd => rfl); (case hg => rfl); (case hr => first | (go_simp; done) | (go_simp; rfl)); intro g4 hg w2 hbox hb; have HB2 := Aside0.mk (below_step HB1.out hb); have BK2 := Aside0.mk (blk_below BK1.out hb); have BK4 := Aside0.mk hbox; have HG4 := Aside0.mk (show w.heap.size ≤ g4 from by rw [hg]; exact below_size HB1.out); have HN4 := Aside0.mk (show g2 ≠ g4 by have := blk_lt BK1.out; omega); have kb0 := blk_cell BK2.out 0; have kb1 := blk_cell BK2.out 1; have kb2 := blk_cell BK2.out 2; clear hb hbox hg) | (go_at_call 54; refine (impl_Service_valid.calls k base A1 c1 ks A2 c2 ss false _ ?x1 HC1.out ?x2 HC2.out HV.out).mono ?_; (case x1 => exact Kd.C_below HR1.out HB2.out); (case x2 => exact Kd.C_below HR2.out HB2.out); rintro e w3 ⟨rfl, hb⟩; have HB3 := Aside0.mk (below_step HB2.out hb); have BK23 := Aside0.mk (blk_below BK2.out hb); have BK43 := Aside0.mk (blk_below BK4.out hb); clear kb0 kb1 kb2; have kb0 := blk_cell BK23.out 0; have kb1 := blk_cell BK23.out 1; have kb2 := blk_cell BK23.out 2; have k40 := blk_cell BK43.out 0; have k41 := blk_cell BK43.out 1; have k42 := blk_cell BK43.out 2; have f40 := blk_frozen BK43.out 0; have f41 := blk_frozen BK43.out 1; have f42 := blk_frozen BK43.out 2; clear hb))
 have e1 := blk_put (cs' := #[.int .i64 0, .slice none 0 0, .slice none 0 0]) BK43.out 0 (.int .i64 0) rfl
 have e2 := blk_put (cs' := #[.int .i64 0, .slice none 0 0, .slice none 0 0]) e1 1 (.slice none 0 0) rfl
 have e3 := blk_put (cs' := #[.int .i64 0, .slice none 0 0, .slice none 0 0]) e2 2 (.slice none 0 0) rfl
 refine bodyPost_ret (results_ctt rfl _ _ g4 48 #[.int .i64 0, .slice none 0 0, .slice none 0 0] (0, 0) _ rfl e3 Try.underlying48 rfl (by kernel_rfl)) rfl ?_
 exact ⟨rfl, below_set (below_set (below_set HB3.out HG4.out) HG4.out) HG4.out⟩
/-- What Apply leaves of a valid service. -/
def Applied (w : World) (base : Int) (ks : List S24) (ss : List S74) (pl code : Int) (e : Ending) (w' : World) : Prop :=
 ∃ (A1 : Option Addr) (c1 : Nat) (A2 : Option Addr) (c2 : Nat) (okA okB : Nat → Prop), e = .returned (.tuple #[.agg #[.int .i64 base, .slice A1 ks.length c1, .slice A2 ss.length c2], .int .i64 pl, .int .i64 code]) ∧ Kd.S k24 24 w' w.heap.size okA (.slice A1 ks.length c1) ks ∧ Kd.S k74 74 w' w.heap.size okB (.slice A2 ss.length c2) ss ∧ (∀ k, okA k → ¬ okB k) ∧ Below w.heap.size w w'
set_option maxHeartbeats 16000000 in
set_option maxRecDepth 100000 in
/-- Apply of a valid service. -/
theorem applyI.good (k : Nat) (base : Int) (A1 : Option Addr) (c1 : Nat) (ks : List S24) (A2 : Option Addr) (c2 : Nat) (ss : List S74) (A : Option Addr) (c : Nat) (b : List Int) (w : World)
 (hr1 : Kd.C k24 w A1 ks.length ks) (hc1 : ks.length ≤ c1) (hr2 : Kd.C k74 w A2 ss.length ss) (hc2 : ss.length ≤ c2) (hb : Kd.C (Kd.int .u8) w A b.length b) (hc : b.length ≤ c) (hv : impl_Service_valid.f k base ks ss = some true) (hba : 0 ≤ base ∧ base ≤ 1000000) (hkl : ks.length ≤ 1000000) (hsl : ss.length ≤ 1000000) (hd1 : ∀ x ∈ ks, x.f2.length ≤ 64) (hd2 : ∀ x ∈ ss, x.f3.length ≤ 64)
 (hx : ∀ x ∈ ss, 0 ≤ x.f0 ∧ x.f0 ≤ 4294967296) (hs : ∀ a b, a ≤ b → b < ss.length → (rd_T74 ss (a : Nat)).f0 ≤ (rd_T74 ss (b : Nat)).f0)
 (hdec : ∀ t, impl_DecodeItem.f k b = some t → t.2.2.2 = 0 → (0 ≤ t.1 ∧ t.1 ≤ 4294967296) ∧ t.2.2.1.length < 140737488355328)
 (ks' : List S24) (ss' : List S74) (pl code : Int) (h : takeF k base ks ss b = some (ks', ss', pl, code)) :
 Calls Try.prog 37 #[.agg #[.int .i64 base, .slice A1 ks.length c1, .slice A2 ss.length c2], .slice A b.length c] w (Applied w base ks' ss' pl code) := by
 have hu48 := Try.underlying48
 have HR1 := Aside0.mk hr1
 have HC1 := Aside0.mk hc1
 have HR2 := Aside0.mk hr2
 have HC2 := Aside0.mk hc2
 have HV := Aside0.mk hv
 clear hr1 hc1 hr2 hc2 hv
 have HB := Aside0.mk hb
 have HC := Aside0.mk hc
 have HBA := Aside0.mk hba
 have HKL := Aside0.mk hkl
 have HSL := Aside0.mk hsl
 have HD1 := Aside0.mk hd1
 have HD2 := Aside0.mk hd2
 have HX := Aside0.mk hx
 have HS := Aside0.mk hs
 have HDEC := Aside0.mk hdec
 have HT := Aside0.mk h
 clear hb hc hba hkl hsl hd1 hd2 hx hs hdec h
 go_enter Try.func37, Try.ntmps37
 go_upto_region 3 with (first | ((with_reducible refine gate_dst (N := 2) rfl ?_); refine box_event ?hg (N := 2) ?hd (cs := #[.int .i64 base, .slice A1 ks.length c1, .slice A2 ss.length c2]) (t := 48) ?hr ?_; (case hd => rfl); (case hg => rfl); (case hr => first | (go_simp; done) | (go_simp; rfl)); intro g2 hg w1 hbox hb; have HB1 := Aside0.mk hb; have BK1 := Aside0.mk hbox; have HG2 := Aside0.mk hg; clear hb hbox hg) | ((with_reducible refine gate_dst (N := 4) rfl ?_); refine box_event ?hg (N := 4) ?hd (cs := #[.int .i64 0, .slice none 0 0, .slice none 0 0]) (t := 48) ?hr ?_; (case hd => rfl); (case hg => rfl); (case hr => first | (go_simp; done) | (go_simp; rfl)); intro g4 hg w2 hbox hb; have HB2 := Aside0.mk (below_step HB1.out hb); have BK2 := Aside0.mk (blk_below BK1.out hb); have BK4 := Aside0.mk hbox; have HG4 := Aside0.mk (show w.heap.size ≤ g4 from by rw [hg]; exact below_size HB1.out); have HN4 := Aside0.mk (show g2 ≠ g4 by have := blk_lt BK1.out; omega); have kb0 := blk_cell BK2.out 0; have kb1 := blk_cell BK2.out 1; have kb2 := blk_cell BK2.out 2; clear hb hbox hg) | (go_at_call 54; refine (impl_Service_valid.calls k base A1 c1 ks A2 c2 ss true _ ?x1 HC1.out ?x2 HC2.out HV.out).mono ?_; (case x1 => exact Kd.C_below HR1.out HB2.out); (case x2 => exact Kd.C_below HR2.out HB2.out); rintro e w3 ⟨rfl, hb⟩; have HB3 := Aside0.mk (below_step HB2.out hb); have BK23 := Aside0.mk (blk_below BK2.out hb); have BK43 := Aside0.mk (blk_below BK4.out hb); clear kb0 kb1 kb2; have kb0 := blk_cell BK23.out 0; have kb1 := blk_cell BK23.out 1; have kb2 := blk_cell BK23.out 2; have k40 := blk_cell BK43.out 0; have k41 := blk_cell BK43.out 1; have k42 := blk_cell BK43.out 2; have f40 := blk_frozen BK43.out 0; have f41 := blk_frozen BK43.out 1; have f42 := blk_frozen BK43.out 2; clear hb))
 have HR13 := Aside0.mk (Kd.C_below HR1.out HB3.out)
 have HR23 := Aside0.mk (Kd.C_below HR2.out HB3.out)
 clear HB1 HB2 BK1 BK2 BK4 HR1 HR2 HV f40 f41 f42 k40 k41 k42 HN4
 go_upto_region 4 with (first | (go_at_call 66; refine (clone.calls base A1 c1 ks A2 c2 ss w3 HR13.out HC1.out HR23.out HC2.out ?n1 ?n2 HD1.out HD2.out).mono ?_; (case n1 => have := HKL.out; omega); (case n2 => have := HSL.out; omega); rintro e w4 ⟨v1, v2, Nc, rfl, hs1, hs2, hb⟩; have HS1 := Aside0.mk hs1; have HS2 := Aside0.mk hs2; have HB4 := Aside0.mk hb; obtain ⟨B1, d1, e1⟩ := Kd.S_slice hs1; obtain ⟨B2, d2, e2⟩ := Kd.S_slice hs2; subst e1 e2; clear hs1 hs2 hb) | ((with_reducible refine gate_dst (N := 7) rfl ?_); refine box_event ?hg (N := 7) ?hd (cs := #[.int .i64 0, .slice none 0 0, .slice none 0 0]) (t := 48) ?hr ?_; (case hd => rfl); (case hg => rfl); (case hr => first | (go_simp; done) | (go_simp; rfl)); intro g7 hg w5 hbox hb; have HB5 := Aside0.mk hb; have BK7 := Aside0.mk hbox; have HG7 := Aside0.mk hg; have k70 := blk_cell hbox 0; have k71 := blk_cell hbox 1; have k72 := blk_cell hbox 2; have f70 := blk_frozen hbox 0; have f71 := blk_frozen hbox 1; have f72 := blk_frozen hbox 2; clear hb hbox hg))
 obtain ⟨w6, hw6⟩ : ∃ W, W = ((w5.setCell ⟨g7, 0, none⟩ (.int .i64 base)).setCell ⟨g7, 1, none⟩ (.slice B1 ks.length d1)).setCell ⟨g7, 2, none⟩ (.slice B2 ss.length d2) := ⟨_, rfl⟩
 rw [← hw6]
 have z1 := blk_put (cs' := #[.int .i64 base, .slice none 0 0, .slice none 0 0]) BK7.out 0 (.int .i64 base) rfl
 have z2 := blk_put (cs' := #[.int .i64 base, .slice B1 ks.length d1, .slice none 0 0]) z1 1 (.slice B1 ks.length d1) rfl
 have z3 := blk_put (cs' := #[.int .i64 base, .slice B1 ks.length d1, .slice B2 ss.length d2]) z2 2 (.slice B2 ss.length d2) rfl
 have l4 := below_size HB5.out
 have l3 := below_size HB4.out
 have HSz := Aside0.mk (show w.heap.size ≤ w3.heap.size from below_size HB3.out)
 have S1 := Kd.S_below (Kd.S_mono (Kd.S_bound HS1.out) (ok' := fun k => k < Nc ∧ k < w4.heap.size) (fun k hk => ⟨hk.1, hk.2.2.1⟩)) HB5.out
 have S2 := Kd.S_below (Kd.S_mono (Kd.S_bound HS2.out) (ok' := fun k => Nc ≤ k ∧ k < w4.heap.size) (fun k hk => ⟨hk.1, hk.2.2.1⟩)) HB5.out
 have hg7 : w3.heap.size ≤ g7 := by have := HG7.out; omega
 have hg7' := blk_lt BK7.out
 have HH := Aside0.mk (show HeldS w3 w5.heap.size g7 base B1 d1 ks B2 d2 ss (fun k => k < Nc ∧ k < w4.heap.size) (fun k => Nc ≤ k ∧ k < w4.heap.size) w6 by
  rw [hw6]
  exact ⟨z3, Kd.S_set (Kd.S_set (Kd.S_set S1 BK7.out (by decide) 0 _) z1 (by decide) 1 _) z2 (by decide) 2 _, Kd.S_set (Kd.S_set (Kd.S_set S2 BK7.out (by decide) 0 _) z1 (by decide) 1 _) z2 (by decide) 2 _, below_set (below_set (below_set (below_step HB4.out HB5.out) hg7) hg7) hg7, by simp [World.setCell]⟩)
 have HA := Aside0.mk (show ApartS w3 w5.heap.size g7 (fun k => k < Nc ∧ k < w4.heap.size) (fun k => Nc ≤ k ∧ k < w4.heap.size) from ⟨fun k h1 h2 => by have := h1.1; have := h2.1; omega, fun k h => by have := h.2; omega, fun k h => by have := h.2; omega, hg7, hg7'⟩)
 have HB6 := Aside0.mk (Kd.C_below HB.out (below_step HB3.out HH.out.2.2.2.1))
 clear hw6 z1 z2 z3 l4 l3 S1 S2 hg7 hg7' HB4 HB5 HS1 HS2 BK7 HG7 f70 f71 f72 k70 k71 k72 kb0 kb1 kb2 HB
 go_wp2_with (go_at_call 67; refine (take.calls k base B1 d1 ks B2 d2 ss A c b w5.heap.size g7 _ _ ks' ss' pl code w3 w6 HH.out HA.out HB6.out HC.out HBA.out HKL.out HSL.out HX.out HS.out HDEC.out HT.out).mono ?_; rintro e w7 ⟨rfl, A1', c1', A2', c2', okA', okB', hh, hap⟩; have HH7 := Aside0.mk hh; have HAP := Aside0.mk hap; have BK47 := Aside0.mk (blk_below BK43.out hh.2.2.2.1); have k70 := blk_cell hh.1 0; have k71 := blk_cell hh.1 1; have k72 := blk_cell hh.1 2; have k40 := blk_cell BK47.out 0; have k41 := blk_cell BK47.out 1; have k42 := blk_cell BK47.out 2; have f40 := blk_frozen BK47.out 0; have f41 := blk_frozen BK47.out 1; have f42 := blk_frozen BK47.out 2; clear hh hap)
 have e1 := blk_put (cs' := #[.int .i64 base, .slice none 0 0, .slice none 0 0]) BK47.out 0 (.int .i64 base) rfl
 have e2 := blk_put (cs' := #[.int .i64 base, .slice A1' ks'.length c1', .slice none 0 0]) e1 1 (.slice A1' ks'.length c1') rfl
 have e3 := blk_put (cs' := #[.int .i64 base, .slice A1' ks'.length c1', .slice A2' ss'.length c2']) e2 2 (.slice A2' ss'.length c2') rfl
 refine bodyPost_ret (results_ctt rfl _ _ g4 48 #[.int .i64 base, .slice A1' ks'.length c1', .slice A2' ss'.length c2'] (0, 0) _ rfl e3 Try.underlying48 rfl (by kernel_rfl)) rfl ?_
 have h7 := HH7.out
 refine ⟨A1', c1', A2', c2', okA', okB', rfl, Kd.S_lower (Kd.S_set (Kd.S_set (Kd.S_set h7.2.1 BK47.out (by decide) 0 _) e1 (by decide) 1 _) e2 (by decide) 2 _) HSz.out, Kd.S_lower (Kd.S_set (Kd.S_set (Kd.S_set h7.2.2.1 BK47.out (by decide) 0 _) e1 (by decide) 1 _) e2 (by decide) 2 _) HSz.out, HAP.out, below_set (below_set (below_set (below_step HB3.out h7.2.2.2.1) HG4.out) HG4.out) HG4.out⟩

end Go.Proofs.Ytladodfapnigfaa.YSes
