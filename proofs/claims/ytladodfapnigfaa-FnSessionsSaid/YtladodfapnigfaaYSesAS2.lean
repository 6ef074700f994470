/- AS2 -/
import Derived.Test.YtladodfapnigfaaYSesx0
import Derived.Test.YtladodfapnigfaaYSesx1
import Derived.Test.YtladodfapnigfaaYSesx2
import Derived.Test.YtladodfapnigfaaYSesx3
import Derived.Test.YtladodfapnigfaaYSesx4
import Derived.Test.YtladodfapnigfaaYSesx5
import Derived.Test.YtladodfapnigfaaYSesx6
import Derived.Test.YtladodfapnigfaaYSesx7
import Derived.Test.YtladodfapnigfaaYSesx8
import Derived.Deep.RegionHeld3
import Derived.Deep.DeepCutAuto
import Derived.Deep.CutBlock
import Derived.Test.YtladodfapnigfaaYSesAS1
namespace Go.Proofs.Ytladodfapnigfaa.YSes
open Go.RowKit Go.Proofs.YtladodfapnigfaaW.PrintWords Go.Proofs.YtladodfapnigfaaW.PrintLast Go.Proofs.YtladodfapnigfaaW.PrintMore
attribute [local go_sem] max2_int min2_int max_two min_two max_three min_three max_four min_four
set_option linter.unusedVariables false
set_option linter.unusedSimpArgs false
/-- What is drawn: an item that is valid. -/
def DrawnOk (y : S24) : Prop := 1 ≤ y.f0 ∧ y.f0 ≤ 50 ∧ 1 ≤ y.f1 ∧ y.f1 ≤ 1000000000 ∧ y.f2.length ≤ 64 ∧ Go.Proofs.Ytladodfapnigfaa.Num.Bytes y.f2
def placeOf (ks : List S24) (y : S24) : Int := laterF ks y (placeF ks y ks.length) ks.length
/-- What the pure side tells of the calls. -/
structure SesPure (l : List Int) (Inv : List S24 → List S74 → Prop) : Prop where
 small : l.length ≤ 1048576
 init : Inv [] []
 start : ∃ z n i x, spec_L1Size.f l 47 = some z ∧ spec_l1Src_N.f l 0 (IntKind.u64.wrap (88172645463325252 + (IntKind.u64.wrap ((l.length : Int))))) z = some (n, i, x) ∧ 0 ≤ n ∧ n ≤ 47 ∧ 0 ≤ i
 draw : ∀ i x, 0 ≤ i → ∃ (K : Nat) (y : S24) (i' x' : Int), spec_L5DrawItem.f K l i x = some (y.f0, y.f1, y.f2, i', x') ∧ DrawnOk y ∧ 0 ≤ i'
 n8 : ∀ i x, 0 ≤ i → ∃ n i' x', spec_l1Src_N.f l i x 8 = some (n, i', x') ∧ 0 ≤ i'
 code : ∀ y, DrawnOk y → ∃ (K : Nat) (b : List Int), impl_EncodeItem.f y.f0 y.f1 y.f2 = some (b, 0) ∧ b.length ≤ 1000 ∧ impl_DecodeItem.f K b = some (y.f0, y.f1, y.f2, 0) ∧ smIB y y = true
 cp : ∀ b : List Int, b.length ≤ 1000 → laws_cp.f b = some b
 svc : ∀ ks ss, Inv ks ss → ks.length ≤ 50 → ss.length ≤ 1000 ∧ (∀ x ∈ ks, x.f2.length ≤ 64) ∧ (∀ x ∈ ss, x.f3.length ≤ 64) ∧ (∀ x ∈ ss, 0 ≤ x.f0 ∧ x.f0 ≤ 4294967296) ∧ (∀ a b : Nat, a ≤ b → b < ss.length → (rd_T74 ss (a : Nat)).f0 ≤ (rd_T74 ss (b : Nat)).f0)
 app : ∀ ks ss y b, Inv ks ss → ks.length ≤ 50 → DrawnOk y → impl_EncodeItem.f y.f0 y.f1 y.f2 = some (b, 0) → ∃ K : Nat, impl_Service_valid.f K 0 ks ss = some true ∧ impl_DecodeItem.f K b = some (y.f0, y.f1, y.f2, 0) ∧
  ((staleF ks y ks.length = true ∧ takeF K 0 ks ss b = some (ks, ss, if placeOf ks y = (ks.length : Int) then (0, 4) else (placeOf ks y, 0))) ∨
  (staleF ks y ks.length = false ∧ ∃ ss', takeF K 0 ks ss b = some (ks ++ [y], ss', placeOf ks y, 0) ∧ Inv (ks ++ [y]) ss'))
 sms : ∀ ks ss, Inv ks ss → ks.length ≤ 50 → ∃ K : Nat, laws_smService.f K 0 ks ss 0 ks ss = some true
 state : ∀ ks ss, Inv ks ss → ks.length ≤ 50 → ∃ (K : Nat) (z : List Int) (valid : Bool), impl_EncodeState.f K 0 ks ss = some (z, 0) ∧ Good z ∧ impl_Service_valid.f K (dsBase z).1 [] (dsRun z).2.2 = some valid ∧ dsTell z valid = ((ks.length : Int), ss, 0)
set_option maxHeartbeats 64000000 in
set_option maxRecDepth 100000 in
theorem lawSessions.calls (A0 : Option Addr) (c0 : Nat) (l : List Int) (Inv : List S24 → List S74 → Prop) (w : World) (hr0 : Kd.C (Kd.int .u8) w A0 l.length l) (hc0 : l.length ≤ c0) (hp : SesPure l Inv) :
 Calls Try.prog 7 #[.slice A0 l.length c0] w fun e w' => e = .returned (.bool true) ∧ Below w.heap.size w w' := by
 have HR0 := Aside0.mk hr0
 have HC0 := Aside0.mk hc0
 have HP := Aside0.mk hp
 have hu48 := Try.underlying48
 have hu24 := Try.underlying24
 have tbig : decide ((1048576 : Int) < (l.length : Int)) = false := decide_eq_false (by have := hp.small; omega)
 have tbig2 : decide (1048576 < l.length) = false := decide_eq_false (by have := hp.small; omega)
 obtain ⟨z0, n0, i0, x0, hz0, hn0, hn1, hn2, hi0⟩ := hp.start
 have HZ0 := Aside0.mk hz0
 have HN0 := Aside0.mk hn0
 have HI0 := Aside0.mk hi0
 clear hr0 hc0 hp hz0 hn0 hi0
 go_enter Try.func7, Try.ntmps7
 go_upto_region 4 with (go_at_call 31; refine (spec_L1Draw.calls A0 c0 l l 0 (IntKind.u64.wrap (88172645463325252 + (IntKind.u64.wrap ((l.length : Int))))) w _ (Below.refl _ _) HR0.out HC0.out rfl).mono ?_; rintro e w1 ⟨gs, rfl, hi, hb, _⟩; have HI := Aside0.mk hi; have HB := Aside0.mk hb; clear hi hb)
 clear tbig tbig2
 go_upto_region 5 with (first | ((with_reducible refine gate_dst (N := 4) rfl ?_); refine box_event ?hg (N := 4) ?hd (cs := #[.int .i64 0, .slice none 0 0, .slice none 0 0]) (t := 48) ?hr ?_; (case hd => rfl); (case hg => rfl); (case hr => first | (go_simp; done) | (go_simp; rfl)); intro g4 hg wb hbox hb; have HG := Aside0.mk hg; have KB := Aside0.mk hbox; have HBb := Aside0.mk hb; have kb0 := blk_cell hbox 0; have fb0 := blk_frozen hbox 0; have kb1 := blk_cell hbox 1; have fb1 := blk_frozen hbox 1; have kb2 := blk_cell hbox 2; have fb2 := blk_frozen hbox 2; clear hb hbox hg))
 obtain ⟨w2, hwn⟩ : ∃ W, W = (((wb.setCell ⟨g4, 0, none⟩ (.int .i64 0)).setCell ⟨g4, 1, none⟩ (.slice none 0 0)).setCell ⟨g4, 2, none⟩ (.slice none 0 0)) := ⟨_, rfl⟩
 rw [← hwn]
 have hb : Below w1.heap.size w1 w2 := by
  have h := HBb.out
  have hg := HG.out
  rw [hwn]
  exact (below_set (below_set (below_set h (Nat.le_of_eq hg.symm)) (Nat.le_of_eq hg.symm)) (Nat.le_of_eq hg.symm))
 have kn : w2.heap[g4]? = some (.cells #[.int .i64 0, .slice none 0 0, .slice none 0 0] 48 (0, 0)) := by rw [hwn]; exact (blk_put (cs' := #[.int .i64 0, .slice none 0 0, .slice none 0 0]) (blk_put (cs' := #[.int .i64 0, .slice none 0 0, .slice none 0 0]) (blk_put (cs' := #[.int .i64 0, .slice none 0 0, .slice none 0 0]) KB.out 0 (.int .i64 0) rfl) 1 (.slice none 0 0) rfl) 2 (.slice none 0 0) rfl)
 clear kb0 fb0 kb1 fb1 kb2 fb2
 have HS2 := Aside0.mk (show SesS w gs g4 l 0 (IntKind.u64.wrap (88172645463325252 + (IntKind.u64.wrap ((l.length : Int))))) none 0 [] none 0 [] (.slice (some ⟨w2.heap.size, 0, none⟩) 0 0) [] (w2.alloc (.cells #[] 24 (0, 0))) by
  have hB := below_step HB.out hb
  have hb2 : Below w2.heap.size w2 (w2.alloc (.cells #[] 24 (0, 0))) := below_alloc (Below.refl _ _) _
  exact ⟨(HI.out.below hb).below hb2, blk_below kn hb2, by have := HG.out; have := below_size HB.out; omega, Kd.S_nil _ _ _ _ _, Kd.S_nil _ _ _ _ _, ⟨fun _ _ => trivial, [], ⟨rfl, .inr ⟨w2.heap.size, 0, #[], rfl, below_size hB, blk_new w2 _, Nat.le_refl _, by decide, rfl, rfl⟩⟩, Reps.none _ _⟩, below_step hB hb2⟩)
 clear hwn hb kn KB HBb HG HI HB
 go_upto_region 6 with fail
 go_upto_block 0 with (first | (go_at_call 33; refine (spec_L1Size.calls A0 c0 l 47 z0 _ ?x1 HC0.out HZ0.out).mono ?_; (case x1 => exact Kd.C_below HR0.out HS2.out.2.2.2.2.2.2); rintro e w3 ⟨rfl, hd⟩; have n_HS2 := Aside0.mk (HS2.out.below hd.below); clear hd HS2; have HS2 := n_HS2; clear n_HS2) | (go_at_call 32; refine (spec_l1Src_N.calls gs l 0 (IntKind.u64.wrap (88172645463325252 + (IntKind.u64.wrap ((l.length : Int))))) z0 n0 i0 x0 w _ HS2.out.1 HS2.out.2.2.2.2.2.2 HN0.out).mono ?_; rintro e w4 ⟨rfl, hi, hb, hk⟩; have n_HS2 := Aside0.mk (HS2.out.draw hi hb hk); clear hi hb hk HS2; have HS2 := n_HS2; clear n_HS2))
 obtain ⟨kk, hkk⟩ : ∃ kk : Nat, (kk : Int) = 3 + n0 := ⟨(3 + n0).toNat, by omega⟩
 rw [← hkk]
 have HKK := Aside0.mk (show kk ≤ 50 by omega)
 clear hkk hn1 hn2 HZ0 HN0
 go_wp2_with fail
 go_loopg [5, 6] kk (fun kq v5 v6 W => ∃ (i x : Int) (A1 : Option Addr) (c1 : Nat) (ks : List S24) (A2 : Option Addr) (c2 : Nat) (ss : List S74) (Av : Option Addr) (cv : Nat), v6 = .int .i64 (kq : Int) ∧ v5 = .slice Av ks.length cv ∧ Aside0 (kq + ks.length ≤ 50) ∧ Aside0 (0 ≤ i) ∧ Aside0 (Inv ks ss) ∧ Aside0 (SesS w gs g4 l (i) (x) A1 c1 ks A2 c2 ss (.slice Av ks.length cv) ks W))
 case atStart => exact ⟨i0, x0, none, 0, [], none, 0, [], some ⟨w2.heap.size, 0, none⟩, 0, rfl, rfl, ⟨by have := HKK.out; simpa using this⟩, HI0, ⟨HP.out.init⟩, HS2⟩
 case round => as_aux_lemma =>
  clear HS2 HKK HI0
  obtain ⟨i, x, A1, c1, ks, A2, c2, ss, Av, cv, rfl, rfl, HK, HI, HV, HS⟩ := hrel
  cases gk with
  | zero => as_aux_lemma =>
   have HF := Aside0.mk HS.out.2.2.2.2.2.2
   clear HS
   go_wp2
   go_ret
   exact ⟨rfl, HF.out⟩
  | succ n1 => as_aux_lemma =>
   obtain ⟨K1, y, i', x', hd, hok, hi'⟩ := HP.out.draw i x HI.out
   have HD := Aside0.mk hd
   have HOK := Aside0.mk hok
   have HI' := Aside0.mk hi'
   obtain ⟨K2, b, hb1, hb2, hb3, hb4⟩ := HP.out.code y hok
   have HEN := Aside0.mk hb1
   have HBL1 := Aside0.mk hb2
   have HDE := Aside0.mk hb3
   have HSM := Aside0.mk (show laws_smItem.f y.f0 y.f1 y.f2 y.f0 y.f1 y.f2 = some true from (smIB_told y y).trans (congrArg some hb4))
   have HCP := Aside0.mk (HP.out.cp y.f2 (by have := hok.2.2.2.2.1; omega))
   have HCPB := Aside0.mk (HP.out.cp b hb2)
   clear hd hok hi' hb1 hb2 hb3 hb4 HI
   go_upto_region 10 with (first | (go_at_call 34; refine (spec_L5DrawItem.calls K1 gs l i x y.f0 y.f1 y.f2 i' x' w _ HS.out.1 HS.out.2.2.2.2.2.2 HD.out).mono ?_; rintro e w5 ⟨vd, rfl, hR, hi, hb, hk⟩; obtain ⟨Ad, cd, ed⟩ := Kd.R_slice hR; subst ed; have HRy := Aside0.mk (Kd.R_lower hR (below_size HS.out.2.2.2.2.2.2)); have n_HS := Aside0.mk (HS.out.draw hi hb hk); clear hR hi hb hk HS; have HS := n_HS; clear n_HS) | ((with_reducible refine gate_dst (N := 7) rfl ?_); refine box_event ?hg (N := 7) ?hd (cs := #[.int .i64 0, .int .i64 0, .slice none 0 0]) (t := 24) ?hr ?_; (case hd => rfl); (case hg => rfl); (case hr => first | (go_simp; done) | (go_simp; rfl)); intro g7 hg wb hbox hb; have HG := Aside0.mk hg; have KB := Aside0.mk hbox; have HBb := Aside0.mk hb; have kb0 := blk_cell hbox 0; have fb0 := blk_frozen hbox 0; have kb1 := blk_cell hbox 1; have fb1 := blk_frozen hbox 1; have kb2 := blk_cell hbox 2; have fb2 := blk_frozen hbox 2; clear hb hbox hg))
   obtain ⟨w6, hwn⟩ : ∃ W, W = (((wb.setCell ⟨g7, 0, none⟩ (.int .i64 y.f0)).setCell ⟨g7, 1, none⟩ (.int .i64 y.f1)).setCell ⟨g7, 2, none⟩ (.slice Ad y.f2.length cd)) := ⟨_, rfl⟩
   rw [← hwn]
   have hb : Below w5.heap.size w5 w6 := by
    have h := HBb.out
    have hg := HG.out
    rw [hwn]
    exact (below_set (below_set (below_set h (Nat.le_of_eq hg.symm)) (Nat.le_of_eq hg.symm)) (Nat.le_of_eq hg.symm))
   have kn : w6.heap[g7]? = some (.cells #[.int .i64 y.f0, .int .i64 y.f1, .slice Ad y.f2.length cd] 24 (0, 0)) := by rw [hwn]; exact (blk_put (cs' := #[.int .i64 y.f0, .int .i64 y.f1, .slice Ad y.f2.length cd]) (blk_put (cs' := #[.int .i64 y.f0, .int .i64 y.f1, .slice none 0 0]) (blk_put (cs' := #[.int .i64 y.f0, .int .i64 0, .slice none 0 0]) KB.out 0 (.int .i64 y.f0) rfl) 1 (.int .i64 y.f1) rfl) 2 (.slice Ad y.f2.length cd) rfl)
   clear kb0 fb0 kb1 fb1 kb2 fb2
   have n_HS := Aside0.mk (show SesS w gs g4 l (i') (x') A1 c1 ks A2 c2 ss (.slice Av ks.length cv) ks w6 by rw [hwn]; exact HS.out.box HBb.out HG.out KB.out _ _ _)
   have n_HRy := Aside0.mk (show Kd.R (Kd.int .u8) 5 w6 w.heap.size (fun _ => True) (.slice Ad y.f2.length cd) y.f2 by
    rw [hwn]
    exact Kd.R_set (Kd.R_set (Kd.R_set (Kd.R_below HRy.out HBb.out) KB.out (by decide) 0 _) (blk_put KB.out 0 _ rfl) (by decide) 1 _) (blk_put (blk_put KB.out 0 _ rfl) 1 _ rfl) (by decide) 2 _)
   have K7 := Aside0.mk kn
   clear hwn kn hb HG KB HBb HS HRy HD
   have HS := n_HS
   have HRy := n_HRy
   clear n_HS n_HRy
   have k70 : w6.cell? ⟨g7, 0, none⟩ = some (.int .i64 y.f0) := blk_cell (blk_below K7.out (Below.refl _ _)) 0
   have k71 : w6.cell? ⟨g7, 1, none⟩ = some (.int .i64 y.f1) := blk_cell (blk_below K7.out (Below.refl _ _)) 1
   have k72 : w6.cell? ⟨g7, 2, none⟩ = some (.slice Ad y.f2.length cd) := blk_cell (blk_below K7.out (Below.refl _ _)) 2
   go_cut [8, 9] (fun v8 v9 W => ∃ (Ab : Option Addr) (cb : Nat) (Wn : World), Wn = W ∧ v8 = .slice Ab b.length cb ∧ v9 = .int .i64 0 ∧ Aside0 (Below w6.heap.size w6 Wn) ∧ Aside0 (Kd.C (Kd.int .u8) Wn Ab b.length b) ∧ Aside0 (b.length ≤ cb))
   case first => as_aux_lemma =>
    go_region_held3 (fun w' => w'.cell? ⟨g7, 0, none⟩ = some (.int .i64 y.f0) ∧ w'.cell? ⟨g7, 1, none⟩ = some (.int .i64 y.f1) ∧ w'.cell? ⟨g7, 2, none⟩ = some (.slice Ad y.f2.length cd)) (first | (with_reducible exact ⟨k70, k71, k72⟩) | (exact ⟨k70, k71, k72⟩) | (exact ⟨j0, j1, j2⟩) | (exact ⟨u0, u1, u2⟩) | go_keep) (first | (go_at_call 35; refine (laws_cp.calls Ad cd y.f2 y.f2 _ ?x1 (Kd.R_reads' HRy.out).2.1 HCP.out).mono ?_; (case x1 => exact Kd.C_below (Kd.R_reads' HRy.out).2.2 (by repeat (first | exact Below.refl _ _ | apply below_drew1 | apply pw_below_drewN | apply below_alloc))); rintro e w7 ⟨vc, rfl, hR, hb⟩; have hb' : Below w6.heap.size w6 w7 := below_step (by repeat (first | exact Below.refl _ _ | apply below_drew1 | apply pw_below_drewN | apply below_alloc)) hb; have HB7 := Aside0.mk hb'; obtain ⟨Ac, cc, e1⟩ := Kd.R_slice hR; subst e1; have HRc := Aside0.mk hR; have j0 : w7.cell? ⟨g7, 0, none⟩ = some (.int .i64 y.f0) := blk_cell (blk_below K7.out hb') 0; have j1 : w7.cell? ⟨g7, 1, none⟩ = some (.int .i64 y.f1) := blk_cell (blk_below K7.out hb') 1; have j2 : w7.cell? ⟨g7, 2, none⟩ = some (.slice Ad y.f2.length cd) := blk_cell (blk_below K7.out hb') 2; clear hR hb hb' k70 k71 k72) | (go_at_call 20; refine (impl_EncodeItem.calls y.f0 y.f1 (fun _ => True) Ac cc y.f2 b 0 _ ?x1 HEN.out).mono ?_; (case x1 => exact Kd.R_V (Kd.R_below HRc.out (by repeat (first | exact Below.refl _ _ | apply below_drew1 | apply pw_below_drewN | apply below_alloc)))); rintro e w8 ⟨vb, rfl, hR, hb⟩; have hb' : Below w6.heap.size w6 w8 := below_step (below_step HB7.out (by repeat (first | exact Below.refl _ _ | apply below_drew1 | apply pw_below_drewN | apply below_alloc))) hb; have HB8 := Aside0.mk hb'; obtain ⟨Ab, cb, e2⟩ := Kd.R_slice hR; subst e2; have HRb := Aside0.mk (Kd.R_reads' hR); have u0 : w8.cell? ⟨g7, 0, none⟩ = some (.int .i64 y.f0) := blk_cell (blk_below K7.out hb') 0; have u1 : w8.cell? ⟨g7, 1, none⟩ = some (.int .i64 y.f1) := blk_cell (blk_below K7.out hb') 1; have u2 : w8.cell? ⟨g7, 2, none⟩ = some (.slice Ad y.f2.length cd) := blk_cell (blk_below K7.out hb') 2; clear hR hb hb' j0 j1 j2))
    all_goals (
     go_wp2_with fail
     go_meet
     exact ⟨Ab, cb, _, rfl, rfl, rfl, ⟨below_step HB8.out (by repeat (first | exact Below.refl _ _ | apply below_drew1 | apply pw_below_drewN | apply below_alloc))⟩, ⟨Kd.C_below HRb.out.2.2 (by repeat (first | exact Below.refl _ _ | apply below_drew1 | apply pw_below_drewN | apply below_alloc))⟩, ⟨HRb.out.2.1⟩⟩)
   case rest => as_aux_lemma =>
    obtain ⟨Ab, cb, w8, rfl, rfl, rfl, HB8, HBC, HBL⟩ := hcut
    have hb := HB8.out
    replace HS := Aside0.mk (HS.out.below hb)
    replace K7 := Aside0.mk (blk_below K7.out hb)
    replace HRy := Aside0.mk (Kd.R_below HRy.out hb)
    clear hb HB8 k70 k71 k72
    go_upto_region 12 with (first | (go_at_call 35; refine (laws_cp.calls Ab cb b b _ ?x1 HBL.out HCPB.out).mono ?_; (case x1 => exact Kd.C_below HBC.out (by repeat (first | exact Below.refl _ _ | apply below_drew1 | apply pw_below_drewN | apply below_alloc))); rintro e w9 ⟨vc, rfl, hR, hb⟩; obtain ⟨Ac, cc, e1⟩ := Kd.R_slice hR; subst e1; have HCC := Aside0.mk (Kd.R_reads' hR); have hb' : Below w8.heap.size w8 w9 := hb; have hb := hb'; replace HS := Aside0.mk (HS.out.below hb); replace K7 := Aside0.mk (blk_below K7.out hb); replace HRy := Aside0.mk (Kd.R_below HRy.out hb); replace HBC := Aside0.mk (Kd.C_below HBC.out hb); clear hb hb' hR) | (go_at_call 11; refine (impl_DecodeItem.calls K2 Ac cc b y.f0 y.f1 y.f2 0 _ HCC.out.2.2 HCC.out.2.1 HDE.out).mono ?_; rintro e w10 ⟨ve, rfl, hR, hb⟩; obtain ⟨Ae, ce, e2⟩ := Kd.R_slice hR; subst e2; have HRe := Aside0.mk (Kd.R_lower hR (below_size HS.out.2.2.2.2.2.2)); replace HS := Aside0.mk (HS.out.below hb); replace K7 := Aside0.mk (blk_below K7.out hb); replace HRy := Aside0.mk (Kd.R_below HRy.out hb); replace HBC := Aside0.mk (Kd.C_below HBC.out hb); clear hR hb HCC) | ((with_reducible refine gate_dst (N := 10) rfl ?_); refine box_event ?hg (N := 10) ?hd (cs := #[.int .i64 0, .int .i64 0, .slice none 0 0]) (t := 24) ?hr ?_; (case hd => rfl); (case hg => rfl); (case hr => first | (go_simp; done) | (go_simp; rfl)); intro g10 hg wb hbox hb; have HG := Aside0.mk hg; have KB := Aside0.mk hbox; have HBb := Aside0.mk hb; have kb0 := blk_cell hbox 0; have fb0 := blk_frozen hbox 0; have kb1 := blk_cell hbox 1; have fb1 := blk_frozen hbox 1; have kb2 := blk_cell hbox 2; have fb2 := blk_frozen hbox 2; clear hb hbox hg))
    obtain ⟨w11, hwn⟩ : ∃ W, W = (((wb.setCell ⟨g10, 0, none⟩ (.int .i64 y.f0)).setCell ⟨g10, 1, none⟩ (.int .i64 y.f1)).setCell ⟨g10, 2, none⟩ (.slice Ae y.f2.length ce)) := ⟨_, rfl⟩
    rw [← hwn]
    have hb : Below w10.heap.size w10 w11 := by
     have h := HBb.out
     have hg := HG.out
     rw [hwn]
     exact (below_set (below_set (below_set h (Nat.le_of_eq hg.symm)) (Nat.le_of_eq hg.symm)) (Nat.le_of_eq hg.symm))
    have kn : w11.heap[g10]? = some (.cells #[.int .i64 y.f0, .int .i64 y.f1, .slice Ae y.f2.length ce] 24 (0, 0)) := by rw [hwn]; exact (blk_put (cs' := #[.int .i64 y.f0, .int .i64 y.f1, .slice Ae y.f2.length ce]) (blk_put (cs' := #[.int .i64 y.f0, .int .i64 y.f1, .slice none 0 0]) (blk_put (cs' := #[.int .i64 y.f0, .int .i64 0, .slice none 0 0]) KB.out 0 (.int .i64 y.f0) rfl) 1 (.int .i64 y.f1) rfl) 2 (.slice Ae y.f2.length ce) rfl)
    clear kb0 fb0 kb1 fb1 kb2 fb2
    have n_HS := Aside0.mk (show SesS w gs g4 l (i') (x') A1 c1 ks A2 c2 ss (.slice Av ks.length cv) ks w11 by rw [hwn]; exact HS.out.box HBb.out HG.out KB.out _ _ _)
    have HCe := Aside0.mk (show Kd.R (Kd.int .u8) 5 w11 w.heap.size (fun _ => True) (.slice Ae y.f2.length ce) y.f2 by
     rw [hwn]
     exact Kd.R_set (Kd.R_set (Kd.R_set (Kd.R_below HRe.out HBb.out) KB.out (by decide) 0 _) (blk_put KB.out 0 _ rfl) (by decide) 1 _) (blk_put (blk_put KB.out 0 _ rfl) 1 _ rfl) (by decide) 2 _)
    have K10 := Aside0.mk kn
    replace K7 := Aside0.mk (blk_below K7.out hb)
    replace HRy := Aside0.mk (Kd.R_below HRy.out hb)
    replace HBC := Aside0.mk (Kd.C_below HBC.out hb)
    clear hwn kn hb HG KB HBb HS HRe
    have HS := n_HS
    clear n_HS
    have k70 := blk_cell K7.out 0
    have k71 := blk_cell K7.out 1
    have k72 := blk_cell K7.out 2
    have ka0 := blk_cell K10.out 0
    have ka1 := blk_cell K10.out 1
    have ka2 := blk_cell K10.out 2
    go_upto_block 2 with (go_at_call 36; refine (laws_smItem.calls y.f0 y.f1 Ae ce y.f2 y.f0 y.f1 Ad cd y.f2 true _ ?x1 (Kd.R_reads' HCe.out).2.1 ?x3 (Kd.R_reads' HRy.out).2.1 HSM.out).mono ?_; (case x1 => exact Kd.C_below (Kd.R_reads' HCe.out).2.2 (by repeat (first | exact Below.refl _ _ | apply below_drew1 | apply pw_below_drewN | apply below_alloc))); (case x3 => exact Kd.C_below (Kd.R_reads' HRy.out).2.2 (by repeat (first | exact Below.refl _ _ | apply below_drew1 | apply pw_below_drewN | apply below_alloc))); rintro e w12 ⟨rfl, hb0⟩; have hb : Below w11.heap.size w11 w12 := below_step (by repeat (first | exact Below.refl _ _ | apply below_drew1 | apply pw_below_drewN | apply below_alloc)) hb0; replace HS := Aside0.mk (HS.out.below hb); replace K7 := Aside0.mk (blk_below K7.out hb); replace HRy := Aside0.mk (Kd.R_below HRy.out hb); replace HBC := Aside0.mk (Kd.C_below HBC.out hb); clear hb hb0 k70 k71 k72 ka0 ka1 ka2 K10 HCe)
    go_wp2_with fail
    go_loopg [12, 13, 77] ks.length (fun kr v12 v13 v77 W => ∃ j : Nat, Aside0 (j + kr = ks.length) ∧ v77 = .int .i64 (j : Int) ∧ v12 = .bool (staleF ks y j) ∧ v13 = .int .i64 (placeF ks y j) ∧ Aside0 (SesS w gs g4 l (i') (x') A1 c1 ks A2 c2 ss (.slice Av ks.length cv) ks W) ∧ Aside0 (W.heap[g7]? = some (.cells #[.int .i64 y.f0, .int .i64 y.f1, .slice Ad y.f2.length cd] 24 (0, 0))) ∧ Aside0 (Kd.R (Kd.int .u8) 5 W w.heap.size (fun _ => True) (.slice Ad y.f2.length cd) y.f2) ∧ Aside0 (Kd.C (Kd.int .u8) W Ab b.length b))
    case atStart => exact ⟨0, ⟨by omega⟩, rfl, rfl, rfl, HS, K7, HRy, HBC⟩
    case round => as_aux_lemma =>
     clear HS K7 HRy HBC
     obtain ⟨j, HJ, rfl, rfl, rfl, HS, K7, HRy, HBC⟩ := hrel
     cases gk with
     | zero => as_aux_lemma =>
      obtain rfl : j = ks.length := by have := HJ.out; omega
      have p0 : ((ks.length : Int) < (ks.length : Int)) = False := eq_false (by omega)
      clear HJ
      go_wp2
      go_loopg [13, 101] ks.length (fun kr v13 v101 W => ∃ j : Nat, Aside0 (j + kr = ks.length) ∧ v101 = .int .i64 (j : Int) ∧ v13 = .int .i64 (laterF ks y (placeF ks y ks.length) j) ∧ Aside0 (SesS w gs g4 l (i') (x') A1 c1 ks A2 c2 ss (.slice Av ks.length cv) ks W) ∧ Aside0 (W.heap[g7]? = some (.cells #[.int .i64 y.f0, .int .i64 y.f1, .slice Ad y.f2.length cd] 24 (0, 0))) ∧ Aside0 (Kd.R (Kd.int .u8) 5 W w.heap.size (fun _ => True) (.slice Ad y.f2.length cd) y.f2) ∧ Aside0 (Kd.C (Kd.int .u8) W Ab b.length b))
      case atStart => exact ⟨0, ⟨by omega⟩, rfl, rfl, HS, K7, HRy, HBC⟩
      case round => as_aux_lemma =>
       clear HS K7 HRy HBC p0
       obtain ⟨j, HJ, rfl, rfl, HS, K7, HRy, HBC⟩ := hrel
       cases gk with
       | zero => as_aux_lemma =>
        obtain rfl : j = ks.length := by have := HJ.out; omega
        have p0 : ((ks.length : Int) < (ks.length : Int)) = False := eq_false (by omega)
        clear HJ
        obtain ⟨st, hst⟩ : ∃ s, s = staleF ks y ks.length := ⟨_, rfl⟩
        rw [← hst]
        obtain ⟨pp, hpp⟩ : ∃ p, p = laterF ks y (placeF ks y ks.length) ks.length := ⟨_, rfl⟩
        rw [← hpp]
        obtain ⟨K, hva, hde, hrn⟩ := HP.out.app ks ss y b HV.out (by have := HK.out; omega) HOK.out HEN.out
        have hcase : ∃ ks' ss' pl code, takeF K 0 ks ss b = some (ks', ss', pl, code) ∧ Inv ks' ss' ∧ ((st = true ∧ ks' = ks ∧ ss' = ss ∧ ((pp = (ks.length : Int) ∧ pl = 0 ∧ code = 4) ∨ (¬ pp = (ks.length : Int) ∧ pl = pp ∧ code = 0))) ∨ (st = false ∧ ks' = ks ++ [y] ∧ pl = pp ∧ code = 0)) := by
         have hpo : placeOf ks y = pp := hpp.symm
         rw [hpo] at hrn
         rcases hrn with ⟨h1, h2⟩ | ⟨h1, ss', h2, h3⟩
         ·by_cases hq : pp = (ks.length : Int)
          ·rw [if_pos hq] at h2
           exact ⟨ks, ss, 0, 4, h2, HV.out, .inl ⟨hst.trans h1, rfl, rfl, .inl ⟨hq, rfl, rfl⟩⟩⟩
          ·rw [if_neg hq] at h2
           exact ⟨ks, ss, pp, 0, h2, HV.out, .inl ⟨hst.trans h1, rfl, rfl, .inr ⟨hq, rfl, rfl⟩⟩⟩
         ·exact ⟨ks ++ [y], ss', pp, 0, h2, h3, .inr ⟨hst.trans h1, rfl, rfl, rfl⟩⟩
        obtain ⟨ks', ss', pl, code, htk, hinv, hcs⟩ := hcase
        have HTK := Aside0.mk htk
        have HV' := Aside0.mk hinv
        have HCASE := Aside0.mk hcs
        clear hst hpp hrn htk hinv hcs
        have hsv := HP.out.svc ks ss HV.out (by have := HK.out; omega)
        have HAP := Aside0.mk (show ∀ (Ac : Option Addr) (cc : Nat) (W : World), Below wr.heap.size wr W → Kd.C (Kd.int .u8) W Ac b.length b → b.length ≤ cc → Calls Try.prog 37 #[.agg #[.int .i64 0, .slice A1 ks.length c1, .slice A2 ss.length c2], .slice Ac b.length cc] W (Applied W 0 ks' ss' pl code) from fun Ac cc W hb hC hcc =>
         applyI.good K 0 A1 c1 ks A2 c2 ss Ac cc b W (Kd.C_below (Kd.S_reads' HS.out.2.2.2.1).2.2 hb) (Kd.S_reads' HS.out.2.2.2.1).2.1 (Kd.C_below (Kd.S_reads' HS.out.2.2.2.2.1).2.2 hb) (Kd.S_reads' HS.out.2.2.2.2.1).2.1 hC hcc hva ⟨by omega, by omega⟩ (by have := HK.out; omega) (by have := hsv.1; omega) hsv.2.1 hsv.2.2.1 hsv.2.2.2.1 hsv.2.2.2.2 (fun t ht _ => by
          rw [hde] at ht
          cases ht
          exact ⟨⟨by have := HOK.out.1; show 0 ≤ y.f0; omega, by have := HOK.out.2.1; show y.f0 ≤ 4294967296; omega⟩, by have := HOK.out.2.2.2.2.1; show y.f2.length < 140737488355328; omega⟩) ks' ss' pl code HTK.out)
        clear hsv HTK hva hde
        go_upto_region 30 with fail
        clear p0
        have k40 : wr.cell? ⟨g4, 0, none⟩ = some (.int .i64 0) := blk_cell (blk_below HS.out.2.1 (Below.refl _ _)) 0
        have k41 : wr.cell? ⟨g4, 1, none⟩ = some (.slice A1 ks.length c1) := blk_cell (blk_below HS.out.2.1 (Below.refl _ _)) 1
        have k42 : wr.cell? ⟨g4, 2, none⟩ = some (.slice A2 ss.length c2) := blk_cell (blk_below HS.out.2.1 (Below.refl _ _)) 2
        have h4lt := Aside0.mk (show g4 < wr.heap.size from blk_lt HS.out.2.1)
        have HN0 := Aside0.mk (show g4 ≠ wr.heap.size by have := blk_lt HS.out.2.1; omega)
        go_cut [18, 19, 20] (fun v18 v19 v20 W => ∃ (g18 : Nat) (B1 : Option Addr) (d1 : Nat) (B2 : Option Addr) (d2 : Nat) (Wn : World), Wn = W ∧ v18 = .pointer (some ⟨g18, 0, none⟩) ∧ v19 = .int .i64 pl ∧ v20 = .int .i64 code ∧ Aside0 (Below wr.heap.size wr Wn) ∧ Aside0 (wr.heap.size ≤ g18) ∧ Aside0 (Wn.heap[g18]? = some (.cells #[.int .i64 0, .slice B1 ks'.length d1, .slice B2 ss'.length d2] 48 (0, 0))) ∧ Aside0 (BesideS w (.slice Av ks.length cv) B1 d1 ks' B2 d2 ss' Wn))
        case first => as_aux_lemma =>
         go_region_held3 (fun w' => w'.cell? ⟨g4, 0, none⟩ = some (.int .i64 0) ∧ w'.cell? ⟨g4, 1, none⟩ = some (.slice A1 ks.length c1) ∧ w'.cell? ⟨g4, 2, none⟩ = some (.slice A2 ss.length c2)) (first | (with_reducible exact ⟨k40, k41, k42⟩) | (exact ⟨k40, k41, k42⟩) | (exact ⟨j0, j1, j2⟩) | (exact ⟨u0, u1, u2⟩) | (with_reducible exact ⟨cell_far1 HN0.out (cell_far1 HN0.out (cell_far1 HN0.out u0 _ _) _ _) _ _, cell_far1 HN0.out (cell_far1 HN0.out (cell_far1 HN0.out u1 _ _) _ _) _ _, cell_far1 HN0.out (cell_far1 HN0.out (cell_far1 HN0.out u2 _ _) _ _) _ _⟩) | (with_reducible exact ⟨cell_far1 HN1.out (cell_far1 HN1.out (cell_far1 HN1.out u0 _ _) _ _) _ _, cell_far1 HN1.out (cell_far1 HN1.out (cell_far1 HN1.out u1 _ _) _ _) _ _, cell_far1 HN1.out (cell_far1 HN1.out (cell_far1 HN1.out u2 _ _) _ _) _ _⟩) | go_keep) (first | (go_at_call 35; refine (laws_cp.calls Ab cb b b _ ?x1 HBL.out HCPB.out).mono ?_; (case x1 => exact Kd.C_below HBC.out (by repeat (first | exact Below.refl _ _ | apply below_drew1 | apply pw_below_drewN | apply below_alloc))); rintro e w16 ⟨vc, rfl, hR, hb⟩; have hb' : Below wr.heap.size wr w16 := below_step (by repeat (first | exact Below.refl _ _ | apply below_drew1 | apply pw_below_drewN | apply below_alloc)) hb; have HB16 := Aside0.mk hb'; obtain ⟨Ac, cc, e1⟩ := Kd.R_slice hR; subst e1; have HCC := Aside0.mk (Kd.R_reads' hR); have HN1 := Aside0.mk (show g4 ≠ w16.heap.size by have := blk_lt HS.out.2.1; have := below_size hb'; omega); have j0 : w16.cell? ⟨g4, 0, none⟩ = some (.int .i64 0) := blk_cell (blk_below HS.out.2.1 hb') 0; have j1 : w16.cell? ⟨g4, 1, none⟩ = some (.slice A1 ks.length c1) := blk_cell (blk_below HS.out.2.1 hb') 1; have j2 : w16.cell? ⟨g4, 2, none⟩ = some (.slice A2 ss.length c2) := blk_cell (blk_below HS.out.2.1 hb') 2; (try (have KZ := Aside0.mk (blk_below (g := wr.heap.size) (o := (.cells #[.int .i64 0, .slice none 0 0, .slice none 0 0] 48 (0, 0))) (by exact blk_new wr _) hb); have z0 := blk_cell KZ.out 0; have z1 := blk_cell KZ.out 1; have z2 := blk_cell KZ.out 2; have y0 := blk_frozen KZ.out 0; have y1 := blk_frozen KZ.out 1; have y2 := blk_frozen KZ.out 2)); clear hR hb hb' k40 k41 k42) | (go_at_call 37; refine (HAP.out Ac cc _ ?x1 ?x2 HCC.out.2.1).mono ?_; (case x1 => exact below_step HB16.out (by repeat (first | exact Below.refl _ _ | apply below_drew1 | apply pw_below_drewN | apply below_alloc))); (case x2 => exact Kd.C_below HCC.out.2.2 (by repeat (first | exact Below.refl _ _ | apply below_drew1 | apply pw_below_drewN | apply below_alloc))); rintro e w17 ⟨B1, d1, B2, d2, okA, okB, rfl, hs1, hs2, _, hb⟩; have hbe := Aside0.mk (BesideS.new (w := w) (V := (.slice Av ks.length cv)) (Nat.le_trans (below_size HS.out.2.2.2.2.2.2) (below_size (below_step HB16.out (by repeat (first | exact Below.refl _ _ | apply below_drew1 | apply pw_below_drewN | apply below_alloc))))) (fun k hk => Nat.lt_of_lt_of_le (Kd.R_lt HS.out.2.2.2.2.2.1 k hk) (below_size (below_step HB16.out (by repeat (first | exact Below.refl _ _ | apply below_drew1 | apply pw_below_drewN | apply below_alloc))))) hs1 hs2); have hb' : Below wr.heap.size wr w17 := below_step (below_step HB16.out (by repeat (first | exact Below.refl _ _ | apply below_drew1 | apply pw_below_drewN | apply below_alloc))) hb; have HB17 := Aside0.mk hb'; have u0 : w17.cell? ⟨g4, 0, none⟩ = some (.int .i64 0) := blk_cell (blk_below HS.out.2.1 hb') 0; have u1 : w17.cell? ⟨g4, 1, none⟩ = some (.slice A1 ks.length c1) := blk_cell (blk_below HS.out.2.1 hb') 1; have u2 : w17.cell? ⟨g4, 2, none⟩ = some (.slice A2 ss.length c2) := blk_cell (blk_below HS.out.2.1 hb') 2; (first | (have KY := Aside0.mk (blk_below KZ.out hb); clear z0 z1 z2 y0 y1 y2 KZ; have KZ := Aside0.mk KY.out; have z0 := blk_cell KZ.out 0; have z1 := blk_cell KZ.out 1; have z2 := blk_cell KZ.out 2; have y0 := blk_frozen KZ.out 0; have y1 := blk_frozen KZ.out 1; have y2 := blk_frozen KZ.out 2) | (try (have KZ := Aside0.mk (blk_below (g := w16.heap.size) (o := (.cells #[.int .i64 0, .slice none 0 0, .slice none 0 0] 48 (0, 0))) (by exact blk_new w16 _) hb); have z0 := blk_cell KZ.out 0; have z1 := blk_cell KZ.out 1; have z2 := blk_cell KZ.out 2; have y0 := blk_frozen KZ.out 0; have y1 := blk_frozen KZ.out 1; have y2 := blk_frozen KZ.out 2))); clear hs1 hs2 hb hb' j0 j1 j2))
         ·(try go_wp2_with fail)
          go_meet
          exact ⟨w17.heap.size, B1, d1, B2, d2, _, rfl, rfl, rfl, rfl, ⟨below_alloc HB17.out _⟩, ⟨below_size HB17.out⟩, ⟨blk_new w17 _⟩, ⟨hbe.out.below (below_alloc (Below.refl _ _) _)⟩⟩
         all_goals (
          (try go_wp2_with fail)
          go_meet
          have hz16 := below_size HB16.out
          refine ⟨_, B1, d1, B2, d2, _, rfl, rfl, rfl, rfl, ⟨below_set (below_set (below_set HB17.out ?_) ?_) ?_⟩, ⟨?_⟩, ⟨blk_put (blk_put (blk_put KZ.out 0 _ rfl) 1 _ rfl) 2 _ rfl⟩, ⟨((hbe.out.side KZ.out 0 _).side (blk_put KZ.out 0 _ rfl) 1 _).side (blk_put (blk_put KZ.out 0 _ rfl) 1 _ rfl) 2 _⟩⟩
          all_goals omega)
        case rest => as_aux_lemma =>
         obtain ⟨g18, B1, d1, B2, d2, w18, rfl, rfl, rfl, rfl, HB18, HG18, K18, HBE⟩ := hcut
         have hb := HB18.out
         replace HS := Aside0.mk (HS.out.below hb)
         replace K7 := Aside0.mk (blk_below K7.out hb)
         replace HRy := Aside0.mk (Kd.R_below HRy.out hb)
         have HG18w := Aside0.mk (show g4 ≠ g18 by have := HG18.out; have := h4lt.out; omega)
         clear hb HB18 HBC HAP HN0 k40 k41 k42 HG18
         go_upto_region 31 with fail
         go_cut [134] (fun v134 W => v134 = .bool (st && (pp == (ks.length : Int))) ∧ w18 = W)
         case first => as_aux_lemma =>
          cases st with
          | true =>
           go_wp2_with fail
           go_meet
           exact ⟨rfl, rfl⟩
          | false =>
           go_wp2_with fail
           go_meet
           exact ⟨rfl, rfl⟩
         case rest => as_aux_lemma =>
          obtain ⟨rfl, rfl⟩ := hcut
          obtain ⟨q, hq⟩ : ∃ q, q = (st && (pp == (ks.length : Int))) := ⟨_, rfl⟩
          rw [← hq]
          have HQ := Aside0.mk hq
          clear hq
          go_upto_if 134 with fail
          go_cut [] (fun W => ∃ Wn : World, Wn = W ∧ Aside0 (Below w18.heap.size w18 Wn))
          case first => as_aux_lemma =>
           rcases HCASE.out with ⟨h1, h2, h3, h4⟩ | ⟨h1, h2, h3, h4⟩
           ·subst h1
            obtain rfl : ks = ks' := h2.symm
            obtain rfl : ss = ss' := h3.symm
            rcases h4 with ⟨h4, h5, h6⟩ | ⟨h4, h5, h6⟩
            ·obtain rfl : q = true := by rw [HQ.out, h4]; simp
             subst h5 h6
             obtain ⟨K4, hsm4⟩ := HP.out.sms ks ss HV.out (by have := HK.out; omega)
             have HSMS := Aside0.mk hsm4
             clear hsm4
             clear h4 HCASE HQ
             have q0 := blk_cell K18.out 0
             have q1 := blk_cell K18.out 1
             have q2 := blk_cell K18.out 2
             have k40 := blk_cell HS.out.2.1 0
             have k41 := blk_cell HS.out.2.1 1
             have k42 := blk_cell HS.out.2.1 2
             go_wp2_with (go_at_call 38; refine (laws_smService.calls K4 0 B1 d1 ks B2 d2 ss 0 A1 c1 ks A2 c2 ss true _ ?x1 (Kd.S_reads' HBE.out.1).2.1 ?x3 (Kd.S_reads' HBE.out.2).2.1 ?x5 (Kd.S_reads' HS.out.2.2.2.1).2.1 ?x7 (Kd.S_reads' HS.out.2.2.2.2.1).2.1 HSMS.out).mono ?_; (case x1 => exact Kd.C_below (Kd.S_reads' HBE.out.1).2.2 (by repeat (first | exact Below.refl _ _ | apply below_drew1 | apply pw_below_drewN | apply below_alloc))); (case x3 => exact Kd.C_below (Kd.S_reads' HBE.out.2).2.2 (by repeat (first | exact Below.refl _ _ | apply below_drew1 | apply pw_below_drewN | apply below_alloc))); (case x5 => exact Kd.C_below (Kd.S_reads' HS.out.2.2.2.1).2.2 (by repeat (first | exact Below.refl _ _ | apply below_drew1 | apply pw_below_drewN | apply below_alloc))); (case x7 => exact Kd.C_below (Kd.S_reads' HS.out.2.2.2.2.1).2.2 (by repeat (first | exact Below.refl _ _ | apply below_drew1 | apply pw_below_drewN | apply below_alloc))); rintro e w19 ⟨rfl, hb⟩; have HB19 := Aside0.mk (show Below w18.heap.size w18 w19 from below_step (by repeat (first | exact Below.refl _ _ | apply below_drew1 | apply pw_below_drewN | apply below_alloc)) hb); clear hb)
             go_meet
             exact ⟨_, rfl, ⟨below_step HB19.out (by repeat (first | exact Below.refl _ _ | apply below_drew1 | apply pw_below_drewN | apply below_alloc))⟩⟩
            ·obtain rfl : q = false := by rw [HQ.out]; simpa using h4
             subst h5 h6
             clear h4 HCASE HQ
             go_wp2_with fail
             go_meet
             exact ⟨_, rfl, ⟨by repeat (first | exact Below.refl _ _ | apply below_drew1 | apply pw_below_drewN | apply below_alloc)⟩⟩
           ·subst h1
            obtain rfl : q = false := by rw [HQ.out]; rfl
            obtain rfl : (ks ++ [y]) = ks' := h2.symm
            subst h3 h4
            clear HCASE HQ
            go_wp2_with fail
            go_meet
            exact ⟨_, rfl, ⟨by repeat (first | exact Below.refl _ _ | apply below_drew1 | apply pw_below_drewN | apply below_alloc)⟩⟩
          case rest => as_aux_lemma =>
           obtain ⟨w19, rfl, HB19⟩ := hcut
           have hb := HB19.out
           replace HS := Aside0.mk (HS.out.below hb)
           replace K7 := Aside0.mk (blk_below K7.out hb)
           replace HRy := Aside0.mk (Kd.R_below HRy.out hb)
           replace K18 := Aside0.mk (blk_below K18.out hb)
           replace HBE := Aside0.mk (HBE.out.below hb)
           clear hb HB19
           go_upto_if 155 with fail
           go_cut [5] (fun v5 W => ∃ (Av' : Option Addr) (cv' : Nat) (Wn : World), Wn = W ∧ v5 = .slice Av' ks'.length cv' ∧ Aside0 (SesS w gs g4 l (i') (x') A1 c1 ks A2 c2 ss (.slice Av' ks'.length cv') ks' Wn) ∧ Aside0 (BesideS w (.slice Av' ks'.length cv') B1 d1 ks' B2 d2 ss' Wn) ∧ Aside0 (Wn.heap[g18]? = some (.cells #[.int .i64 0, .slice B1 ks'.length d1, .slice B2 ss'.length d2] 48 (0, 0))))
           case first => as_aux_lemma =>
            rcases HCASE.out with ⟨h1, h2, h3, h4⟩ | ⟨h1, h2, h3, h4⟩
            ·subst h1
             obtain rfl : ks = ks' := h2.symm
             clear h3 h4 HCASE
             go_wp2_with fail
             go_meet
             exact ⟨Av, cv, _, rfl, rfl, HS, HBE, K18⟩
            ·subst h1
             obtain rfl : (ks ++ [y]) = ks' := h2.symm
             clear h3 h4 HCASE
             have k70 := blk_cell K7.out 0
             have k71 := blk_cell K7.out 1
             have k72 := blk_cell K7.out 2
             go_wp2_with ((with_reducible refine gate_builtin (b := .append) (xs := #[.tmp 156, .tmp 158]) rfl ?_); at_builtin; refine sesAppend HS.out HBE.out g18 _ K18.out y (.slice Ad y.f2.length cd) (fun _ => True) HRy.out (by have := HK.out; omega) (.tmp 156) (.tmp 158) rfl rfl rfl rfl ?_; intro A' c' wn h1 h2 h3; have HS' := Aside0.mk h1; have HBE' := Aside0.mk h2; have K18' := Aside0.mk h3; clear h1 h2 h3)
             go_meet
             exact ⟨A', c', _, rfl, by simp, HS', HBE', K18'⟩
           case rest => as_aux_lemma =>
            obtain ⟨Av', cv', w20, rfl, rfl, HS', HBE', K18'⟩ := hcut
            clear HS HBE K18 K7 HRy
            have HK' := Aside0.mk (show n1 + ks'.length ≤ 50 ∧ ks'.length ≤ 50 by
             have hk := HK.out
             rcases HCASE.out with ⟨_, h2, _, _⟩ | ⟨_, h2, _, _⟩
             ·rw [h2]; omega
             ·rw [h2]; simp; omega)
            clear HCASE
            have q0 := blk_cell K18'.out 0
            have q1 := blk_cell K18'.out 1
            have q2 := blk_cell K18'.out 2
            have k40 := blk_cell HS'.out.2.1 0
            have k41 := blk_cell HS'.out.2.1 1
            have k42 := blk_cell HS'.out.2.1 2
            have f40 := blk_frozen HS'.out.2.1 0
            have f41 := blk_frozen HS'.out.2.1 1
            have f42 := blk_frozen HS'.out.2.1 2
            go_upto_region 39 with fail
            obtain ⟨w21, hw21⟩ : ∃ W, W = ((w20.setCell ⟨g4, 0, none⟩ (.int .i64 0)).setCell ⟨g4, 1, none⟩ (.slice B1 ks'.length d1)).setCell ⟨g4, 2, none⟩ (.slice B2 ss'.length d2) := ⟨_, rfl⟩
            rw [← hw21]
            have HS1 := Aside0.mk (show SesS w gs g4 l (i') (x') B1 d1 ks' B2 d2 ss' (.slice Av' ks'.length cv') ks' w21 by rw [hw21]; exact HS'.out.service HBE'.out.1 HBE'.out.2)
            clear hw21 HS' HBE' K18' q0 q1 q2 k40 k41 k42 f40 f41 f42
            have k40 := blk_cell HS1.out.2.1 0
            have k41 := blk_cell HS1.out.2.1 1
            have k42 := blk_cell HS1.out.2.1 2
            obtain ⟨n2, i2, x2, hn, hi2⟩ := HP.out.n8 i' x' HI'.out
            have HN2 := Aside0.mk hn
            have HI2 := Aside0.mk hi2
            clear hn hi2
            have hk50 := HK'.out.2
            go_upto_region 41 with fail
            clear k40 k41 k42
            go_upto_if 172 with (go_at_call 32; refine (spec_l1Src_N.calls gs l i' x' 8 n2 i2 x2 w _ HS1.out.1 HS1.out.2.2.2.2.2.2 HN2.out).mono ?_; rintro e w22 ⟨rfl, hi, hb, hk⟩; have HS2 := Aside0.mk (HS1.out.draw hi hb hk); clear hi hb hk HS1)
            by_cases hz : n2 = 0
            ·have hzb : (n2 == 0) = true := by simpa using hz
             clear hz
             obtain ⟨K5, z, valid, hz1, hz2, hz3, hz4⟩ := HP.out.state ks' ss' HV'.out HK'.out.2
             have HZ1 := Aside0.mk hz1
             have HZ2 := Aside0.mk hz2
             have HZ3 := Aside0.mk hz3
             have HZ4 := Aside0.mk hz4
             clear hz1 hz2 hz3 hz4
             have k40 := blk_cell HS2.out.2.1 0
             have k41 := blk_cell HS2.out.2.1 1
             have k42 := blk_cell HS2.out.2.1 2
             go_upto_region 43 with (go_at_call 25; refine (impl_EncodeState.calls K5 0 B1 d1 ks' B2 d2 ss' z 0 _ ?x1 (Kd.S_reads' HS2.out.2.2.2.1).2.1 ?x3 (Kd.S_reads' HS2.out.2.2.2.2.1).2.1 HZ1.out).mono ?_; (case x1 => exact Kd.C_below (Kd.S_reads' HS2.out.2.2.2.1).2.2 (by repeat (first | exact Below.refl _ _ | apply below_drew1 | apply pw_below_drewN | apply below_alloc))); (case x3 => exact Kd.C_below (Kd.S_reads' HS2.out.2.2.2.2.1).2.2 (by repeat (first | exact Below.refl _ _ | apply below_drew1 | apply pw_below_drewN | apply below_alloc))); rintro e w23 ⟨vz, rfl, hR, hb0⟩; have hb : Below w22.heap.size w22 w23 := below_step (by repeat (first | exact Below.refl _ _ | apply below_drew1 | apply pw_below_drewN | apply below_alloc)) hb0; obtain ⟨Az, cz, e1⟩ := Kd.R_slice hR; subst e1; have HRz := Aside0.mk (Kd.R_reads' hR); have n_HS := Aside0.mk (HS2.out.below hb); clear hR hb hb0 HS2; have HS2 := n_HS; clear n_HS k40 k41 k42)
             go_upto_region 44 with (first | (go_at_call 29; refine (decodeState.calls K5 Az cz z _ HRz.out.2.2 HRz.out.2.1 HZ2.out valid HZ3.out).mono ?_; intro e w24 ht; rw [HZ4.out] at ht; obtain ⟨u3, rfl, hs, hb⟩ := ht; obtain ⟨Es, ds, e3⟩ := Kd.S_slice hs; subst e3; have HES := Aside0.mk hs; have n_HS := Aside0.mk (HS2.out.below hb); clear hs hb HS2 HRz; have HS2 := n_HS; clear n_HS) | ((with_reducible refine gate_dst (N := 23) rfl ?_); refine box_event ?hg (N := 23) ?hd (cs := #[.int .i64 0, .slice none 0 0, .slice none 0 0]) (t := 48) ?hr ?_; (case hd => rfl); (case hg => rfl); (case hr => first | (go_simp; done) | (go_simp; rfl)); intro g23 hg wb hbox hb; have HG := Aside0.mk hg; have KB := Aside0.mk hbox; have HBb := Aside0.mk hb; have kb0 := blk_cell hbox 0; have fb0 := blk_frozen hbox 0; have kb1 := blk_cell hbox 1; have fb1 := blk_frozen hbox 1; have kb2 := blk_cell hbox 2; have fb2 := blk_frozen hbox 2; clear hb hbox hg))
             obtain ⟨w25, hwn⟩ : ∃ W, W = (((wb.setCell ⟨g23, 0, none⟩ (.int .i64 (ks'.length : Int))).setCell ⟨g23, 1, none⟩ (.slice none 0 0)).setCell ⟨g23, 2, none⟩ (.slice Es ss'.length ds)) := ⟨_, rfl⟩
             rw [← hwn]
             have hb : Below w24.heap.size w24 w25 := by
              have h := HBb.out
              have hg := HG.out
              rw [hwn]
              exact (below_set (below_set (below_set h (Nat.le_of_eq hg.symm)) (Nat.le_of_eq hg.symm)) (Nat.le_of_eq hg.symm))
             have kn : w25.heap[g23]? = some (.cells #[.int .i64 (ks'.length : Int), .slice none 0 0, .slice Es ss'.length ds] 48 (0, 0)) := by rw [hwn]; exact (blk_put (cs' := #[.int .i64 (ks'.length : Int), .slice none 0 0, .slice Es ss'.length ds]) (blk_put (cs' := #[.int .i64 (ks'.length : Int), .slice none 0 0, .slice none 0 0]) (blk_put (cs' := #[.int .i64 (ks'.length : Int), .slice none 0 0, .slice none 0 0]) KB.out 0 (.int .i64 (ks'.length : Int)) rfl) 1 (.slice none 0 0) rfl) 2 (.slice Es ss'.length ds) rfl)
             clear kb0 fb0 kb1 fb1 kb2 fb2
             have n_HS := Aside0.mk (HS2.out.below hb)
             have HEC := Aside0.mk (Kd.S_below HES.out hb)
             have K23 := Aside0.mk kn
             have HG23 := Aside0.mk (show g4 ≠ g23 ∧ w.heap.size ≤ g23 by have := HG.out; have := blk_lt HS2.out.2.1; have := below_size HS2.out.2.2.2.2.2.2; omega)
             clear hwn kn hb HG KB HBb HS2 HES
             have HS2 := n_HS
             clear n_HS
             have k40 := blk_cell HS2.out.2.1 0
             have k41 := blk_cell HS2.out.2.1 1
             have k42 := blk_cell HS2.out.2.1 2
             have kc0 := blk_cell K23.out 0
             have kc1 := blk_cell K23.out 1
             have kc2 := blk_cell K23.out 2
             have fc0 := blk_frozen K23.out 0
             have fc1 := blk_frozen K23.out 1
             have fc2 := blk_frozen K23.out 2
             go_upto_region 47 with fail
             obtain ⟨w26, hw26⟩ : ∃ W, W = w25.setCell ⟨g23, 0, none⟩ (.int .i64 0) := ⟨_, rfl⟩
             rw [← hw26]
             have n_HS := Aside0.mk (show SesS w gs g4 l (i2) (x2) B1 d1 ks' B2 d2 ss' (.slice Av' ks'.length cv') ks' w26 by rw [hw26]; exact HS2.out.side K23.out HG23.out.1 HG23.out.2 0 _)
             have n_K23 := Aside0.mk (show w26.heap[g23]? = some (.cells #[.int .i64 0, .slice none 0 0, .slice Es ss'.length ds] 48 (0, 0)) by rw [hw26]; exact blk_put K23.out 0 _ rfl)
             have n_HEC := Aside0.mk (show Kd.S k74 74 w26 w23.heap.size (fun _ => True) (.slice Es ss'.length ds) ss' by
              rw [hw26]
              exact Kd.S_set HEC.out K23.out (by decide) 0 _)
             clear hw26 HS2 K23 HEC k40 k41 k42 kc0 kc1 kc2 fc0 fc1 fc2
             have HS2 := n_HS
             have K23 := n_K23
             have HEC := n_HEC
             clear n_HS n_K23 n_HEC
             have k40 := blk_cell HS2.out.2.1 0
             have k41 := blk_cell HS2.out.2.1 1
             have k42 := blk_cell HS2.out.2.1 2
             have kc0 := blk_cell K23.out 0
             have kc1 := blk_cell K23.out 1
             have kc2 := blk_cell K23.out 2
             go_upto_region 48 with ((with_reducible refine gate_builtin (b := .append) (xs := #[.tmp 206, .tmp 208]) rfl ?_); at_builtin; refine sesCopyAll HS2.out (by have := HK'.out.2; omega) (.tmp 206) (.tmp 208) rfl rfl rfl rfl ?_; intro A' c' wn hR hb; have HRk := Aside0.mk hR; have n_HS := Aside0.mk (HS2.out.below hb); have n_K23 := Aside0.mk (blk_below K23.out hb); have n_HEC := Aside0.mk (Kd.S_below HEC.out hb); clear hR hb HS2 K23 HEC k40 k41 k42 kc0 kc1 kc2; have HS2 := n_HS; have K23 := n_K23; have HEC := n_HEC; clear n_HS n_K23 n_HEC; have kc1 := blk_cell K23.out 1; have fc1 := blk_frozen K23.out 1)
             obtain ⟨w28, hw28⟩ : ∃ W, W = wn.setCell ⟨g23, 1, none⟩ (.slice A' ks'.length c') := ⟨_, rfl⟩
             rw [← hw28]
             have n_HS := Aside0.mk (show SesS w gs g4 l (i2) (x2) B1 d1 ks' B2 d2 ss' (.slice Av' ks'.length cv') ks' w28 by rw [hw28]; exact HS2.out.side K23.out HG23.out.1 HG23.out.2 1 _)
             have n_K23 := Aside0.mk (show w28.heap[g23]? = some (.cells #[.int .i64 0, .slice A' ks'.length c', .slice Es ss'.length ds] 48 (0, 0)) by rw [hw28]; exact blk_put K23.out 1 _ rfl)
             have n_HEC := Aside0.mk (show Kd.S k74 74 w28 w23.heap.size (fun _ => True) (.slice Es ss'.length ds) ss' by
              rw [hw28]
              exact Kd.S_set HEC.out K23.out (by decide) 1 _)
             have n_HRk := Aside0.mk (show Kd.R k24 24 w28 w.heap.size (fun _ => True) (.slice A' ks'.length c') ks' by
              rw [hw28]
              exact Kd.R_set HRk.out K23.out (by decide) 1 _)
             clear hw28 HS2 K23 HEC HRk kc1 fc1
             have HS2 := n_HS
             have K23 := n_K23
             have HEC := n_HEC
             have HRk := n_HRk
             clear n_HS n_K23 n_HEC n_HRk
             have k40 := blk_cell HS2.out.2.1 0
             have k41 := blk_cell HS2.out.2.1 1
             have k42 := blk_cell HS2.out.2.1 2
             have kc0 := blk_cell K23.out 0
             have kc1 := blk_cell K23.out 1
             have kc2 := blk_cell K23.out 2
             obtain ⟨K4, hsm4⟩ := HP.out.sms ks' ss' HV'.out HK'.out.2
             have HSMS := Aside0.mk hsm4
             clear hsm4
             go_wp2_with (go_at_call 38; refine (laws_smService.calls K4 0 A' c' ks' Es ds ss' 0 B1 d1 ks' B2 d2 ss' true _ ?x1 (Kd.R_reads' HRk.out).2.1 ?x3 (Kd.S_reads' HEC.out).2.1 ?x5 (Kd.S_reads' HS2.out.2.2.2.1).2.1 ?x7 (Kd.S_reads' HS2.out.2.2.2.2.1).2.1 HSMS.out).mono ?_; (case x1 => exact Kd.C_below (Kd.R_reads' HRk.out).2.2 (by repeat (first | exact Below.refl _ _ | apply below_drew1 | apply pw_below_drewN | apply below_alloc))); (case x3 => exact Kd.C_below (Kd.S_reads' HEC.out).2.2 (by repeat (first | exact Below.refl _ _ | apply below_drew1 | apply pw_below_drewN | apply below_alloc))); (case x5 => exact Kd.C_below (Kd.S_reads' HS2.out.2.2.2.1).2.2 (by repeat (first | exact Below.refl _ _ | apply below_drew1 | apply pw_below_drewN | apply below_alloc))); (case x7 => exact Kd.C_below (Kd.S_reads' HS2.out.2.2.2.2.1).2.2 (by repeat (first | exact Below.refl _ _ | apply below_drew1 | apply pw_below_drewN | apply below_alloc))); rintro e w29 ⟨rfl, hb0⟩; have hb : Below w28.heap.size w28 w29 := below_step (by repeat (first | exact Below.refl _ _ | apply below_drew1 | apply pw_below_drewN | apply below_alloc)) hb0; have n_HS := Aside0.mk (HS2.out.below hb); clear hb hb0 HS2 k40 k41 k42 kc0 kc1 kc2; have HS2 := n_HS; clear n_HS)
             go_roundg n1
             case measure => omega
             case rel => exact ⟨i2, x2, B1, d1, ks', B2, d2, ss', Av', cv', by have := HK'.out; congr 1; unfold wrap64; omega, rfl, ⟨by have := HK'.out; omega⟩, HI2, HV', HS2⟩
            ·have hzb : (n2 == 0) = false := by simpa using hz
             clear hz
             go_wp2_with fail
             go_roundg n1
             case measure => omega
             case rel => exact ⟨i2, x2, B1, d1, ks', B2, d2, ss', Av', cv', by have := HK'.out; congr 1; unfold wrap64; omega, rfl, ⟨by have := HK'.out; omega⟩, HI2, HV', HS2⟩
       | succ n2 => as_aux_lemma =>
        have hlt : j < ks.length := by have := HJ.out; omega
        obtain ⟨gv, cap, eg, hgB, hgl, curg, hgb⟩ := Kd.R_form HS.out.2.2.2.2.2.1 (by omega)
        cases eg
        clear hgB hgl hgb curg
        obtain ⟨t, ht⟩ : ∃ t, t = rd_T24 ks (j : Int) := ⟨_, rfl⟩
        have HTT := Aside0.mk ht
        obtain ⟨cs, hlen, hM, hcl⟩ := Kd.R_getA HS.out.2.2.2.2.2.1 (rd_T24 [] 0) (j : Int) (by omega) (by omega)
        have hM2 : k24.M wr w.heap.size (fun k => True ∧ some k ≠ (Value.slice (some ⟨gv, 0, none⟩) ks.length cv).ownBlock) t cs := by rw [ht]; exact hM
        obtain ⟨v3, rfl, hR3⟩ := k24_openM hM2
        obtain ⟨A3, c3, rfl⟩ := Kd.R_slice hR3
        have hx0 : wr.cell? ⟨gv, j * 3, none⟩ = some (.int .i64 t.f0) := by have h := hcl 0 _ rfl; rw [addr_at] at h; exact h
        have hx1 : wr.cell? ⟨gv, j * 3 + 1, none⟩ = some (.int .i64 t.f1) := by have h := hcl 1 _ rfl; rw [addr_at] at h; exact h
        have hx2 : wr.cell? ⟨gv, j * 3 + 2, none⟩ = some (.slice A3 t.f2.length c3) := by have h := hcl 2 _ rfl; rw [addr_at] at h; exact h
        have hadd := addr_at gv (j * 3)
        have HRt := Aside0.mk (Kd.R_mono (ok' := fun _ => True) hR3 (fun _ _ => trivial))
        clear ht hM hM2 hcl hlen hR3
        have p0 : ((j : Int) < (ks.length : Int)) = True := eq_true (by omega)
        have p1 : ((0 : Int) ≤ (j : Int)) = True := eq_true (by omega)
        go_upto_region 27 with (first | ((with_reducible refine gate_dst (N := 17) rfl ?_); refine box_event ?hg (N := 17) ?hd (cs := #[.int .i64 0, .int .i64 0, .slice none 0 0]) (t := 24) ?hr ?_; (case hd => rfl); (case hg => rfl); (case hr => first | (go_simp; done) | (go_simp; rfl)); intro g17 hg wb hbox hb; have HG := Aside0.mk hg; have KB := Aside0.mk hbox; have HBb := Aside0.mk hb; have kb0 := blk_cell hbox 0; have fb0 := blk_frozen hbox 0; have kb1 := blk_cell hbox 1; have fb1 := blk_frozen hbox 1; have kb2 := blk_cell hbox 2; have fb2 := blk_frozen hbox 2; clear hb hbox hg))
        obtain ⟨w14, hwn⟩ : ∃ W, W = (((wb.setCell ⟨g17, 0, none⟩ (.int .i64 t.f0)).setCell ⟨g17, 1, none⟩ (.int .i64 t.f1)).setCell ⟨g17, 2, none⟩ (.slice A3 t.f2.length c3)) := ⟨_, rfl⟩
        rw [← hwn]
        have hb : Below wr.heap.size wr w14 := by
         have h := HBb.out
         have hg := HG.out
         rw [hwn]
         exact (below_set (below_set (below_set h (Nat.le_of_eq hg.symm)) (Nat.le_of_eq hg.symm)) (Nat.le_of_eq hg.symm))
        have kn : w14.heap[g17]? = some (.cells #[.int .i64 t.f0, .int .i64 t.f1, .slice A3 t.f2.length c3] 24 (0, 0)) := by rw [hwn]; exact (blk_put (cs' := #[.int .i64 t.f0, .int .i64 t.f1, .slice A3 t.f2.length c3]) (blk_put (cs' := #[.int .i64 t.f0, .int .i64 t.f1, .slice none 0 0]) (blk_put (cs' := #[.int .i64 t.f0, .int .i64 0, .slice none 0 0]) KB.out 0 (.int .i64 t.f0) rfl) 1 (.int .i64 t.f1) rfl) 2 (.slice A3 t.f2.length c3) rfl)
        clear kb0 fb0 kb1 fb1 kb2 fb2
        have n_HS := Aside0.mk (show SesS w gs g4 l (i') (x') A1 c1 ks A2 c2 ss (.slice (some ⟨gv, 0, none⟩) ks.length cv) ks w14 by rw [hwn]; exact HS.out.box HBb.out HG.out KB.out _ _ _)
        have n_HRt := Aside0.mk (show Kd.R (Kd.int .u8) 5 w14 w.heap.size (fun _ => True) (.slice A3 t.f2.length c3) t.f2 by
         rw [hwn]
         exact Kd.R_set (Kd.R_set (Kd.R_set (Kd.R_below HRt.out HBb.out) KB.out (by decide) 0 _) (blk_put KB.out 0 _ rfl) (by decide) 1 _) (blk_put (blk_put KB.out 0 _ rfl) 1 _ rfl) (by decide) 2 _)
        have KT := Aside0.mk kn
        replace K7 := Aside0.mk (blk_below K7.out hb)
        replace HRy := Aside0.mk (Kd.R_below HRy.out hb)
        replace HBC := Aside0.mk (Kd.C_below HBC.out hb)
        clear hwn kn hb HG KB HBb HS HRt hx0 hx1 hx2 hadd p0 p1
        have HS := n_HS
        have HRt := n_HRt
        clear n_HS n_HRt
        have k70 := blk_cell K7.out 0
        have k71 := blk_cell K7.out 1
        have k72 := blk_cell K7.out 2
        have kt0 := blk_cell KT.out 0
        have kt1 := blk_cell KT.out 1
        have kt2 := blk_cell KT.out 2
        by_cases hst : t.f0 = y.f0 ∧ y.f1 < t.f1
        ·have c1b : (t.f0 == y.f0) = true := by simpa using hst.1
         have c2b : decide (y.f1 < t.f1) = true := decide_eq_true hst.2
         have HST := Aside0.mk hst
         clear hst
         have hp1 : laterF ks y (placeF ks y ks.length) (j + 1) = (ks.length : Int) := by
          show (if _ then _ else _) = _
          rw [← HTT.out]
          exact if_pos HST.out
         have HP1 := Aside0.mk hp1
         clear hp1
         go_wp2
         go_roundg n2
         case measure => omega
         case rel => exact ⟨j + 1, ⟨by have := HJ.out; omega⟩, by rw [show wrap64 ((j : Int) + 1) = ((j + 1 : Nat) : Int) by have := HK.out; unfold wrap64; omega], by rw [HP1.out], HS, K7, HRy, HBC⟩
        ·have HST := Aside0.mk hst
         have hcase : ((t.f0 == y.f0) = true ∧ decide (y.f1 < t.f1) = false) ∨ (t.f0 == y.f0) = false := by
          by_cases h0 : t.f0 = y.f0
          ·exact .inl ⟨by simpa using h0, decide_eq_false (fun h => hst ⟨h0, h⟩)⟩
          ·exact .inr (by simpa using h0)
         clear hst
         rcases hcase with ⟨c1b, c2b⟩ | c1b
         all_goals (
          have hp1 : laterF ks y (placeF ks y ks.length) (j + 1) = laterF ks y (placeF ks y ks.length) j := by
           show (if _ then _ else _) = _
           rw [← HTT.out]
           exact if_neg HST.out
          have HP1 := Aside0.mk hp1
          clear hp1
          go_wp2
          go_roundg n2
          case measure => omega
          case rel => exact ⟨j + 1, ⟨by have := HJ.out; omega⟩, by rw [show wrap64 ((j : Int) + 1) = ((j + 1 : Nat) : Int) by have := HK.out; unfold wrap64; omega], by rw [HP1.out], HS, K7, HRy, HBC⟩)
     | succ n2 => as_aux_lemma =>
      have hlt : j < ks.length := by have := HJ.out; omega
      obtain ⟨gv, cap, eg, hgB, hgl, curg, hgb⟩ := Kd.R_form HS.out.2.2.2.2.2.1 (by omega)
      cases eg
      clear hgB hgl hgb curg
      obtain ⟨t, ht⟩ : ∃ t, t = rd_T24 ks (j : Int) := ⟨_, rfl⟩
      have HTT := Aside0.mk ht
      obtain ⟨cs, hlen, hM, hcl⟩ := Kd.R_getA HS.out.2.2.2.2.2.1 (rd_T24 [] 0) (j : Int) (by omega) (by omega)
      have hM2 : k24.M wr w.heap.size (fun k => True ∧ some k ≠ (Value.slice (some ⟨gv, 0, none⟩) ks.length cv).ownBlock) t cs := by rw [ht]; exact hM
      obtain ⟨v3, rfl, hR3⟩ := k24_openM hM2
      obtain ⟨A3, c3, rfl⟩ := Kd.R_slice hR3
      have hx0 : wr.cell? ⟨gv, j * 3, none⟩ = some (.int .i64 t.f0) := by have h := hcl 0 _ rfl; rw [addr_at] at h; exact h
      have hx1 : wr.cell? ⟨gv, j * 3 + 1, none⟩ = some (.int .i64 t.f1) := by have h := hcl 1 _ rfl; rw [addr_at] at h; exact h
      have hx2 : wr.cell? ⟨gv, j * 3 + 2, none⟩ = some (.slice A3 t.f2.length c3) := by have h := hcl 2 _ rfl; rw [addr_at] at h; exact h
      have hadd := addr_at gv (j * 3)
      have HRt := Aside0.mk (Kd.R_mono (ok' := fun _ => True) hR3 (fun _ _ => trivial))
      clear ht hM hM2 hcl hlen hR3
      have p0 : ((j : Int) < (ks.length : Int)) = True := eq_true (by omega)
      have p1 : ((0 : Int) ≤ (j : Int)) = True := eq_true (by omega)
      go_upto_region 19 with (first | ((with_reducible refine gate_dst (N := 15) rfl ?_); refine box_event ?hg (N := 15) ?hd (cs := #[.int .i64 0, .int .i64 0, .slice none 0 0]) (t := 24) ?hr ?_; (case hd => rfl); (case hg => rfl); (case hr => first | (go_simp; done) | (go_simp; rfl)); intro g15 hg wb hbox hb; have HG := Aside0.mk hg; have KB := Aside0.mk hbox; have HBb := Aside0.mk hb; have kb0 := blk_cell hbox 0; have fb0 := blk_frozen hbox 0; have kb1 := blk_cell hbox 1; have fb1 := blk_frozen hbox 1; have kb2 := blk_cell hbox 2; have fb2 := blk_frozen hbox 2; clear hb hbox hg))
      obtain ⟨w14, hwn⟩ : ∃ W, W = (((wb.setCell ⟨g15, 0, none⟩ (.int .i64 t.f0)).setCell ⟨g15, 1, none⟩ (.int .i64 t.f1)).setCell ⟨g15, 2, none⟩ (.slice A3 t.f2.length c3)) := ⟨_, rfl⟩
      rw [← hwn]
      have hb : Below wr.heap.size wr w14 := by
       have h := HBb.out
       have hg := HG.out
       rw [hwn]
       exact (below_set (below_set (below_set h (Nat.le_of_eq hg.symm)) (Nat.le_of_eq hg.symm)) (Nat.le_of_eq hg.symm))
      have kn : w14.heap[g15]? = some (.cells #[.int .i64 t.f0, .int .i64 t.f1, .slice A3 t.f2.length c3] 24 (0, 0)) := by rw [hwn]; exact (blk_put (cs' := #[.int .i64 t.f0, .int .i64 t.f1, .slice A3 t.f2.length c3]) (blk_put (cs' := #[.int .i64 t.f0, .int .i64 t.f1, .slice none 0 0]) (blk_put (cs' := #[.int .i64 t.f0, .int .i64 0, .slice none 0 0]) KB.out 0 (.int .i64 t.f0) rfl) 1 (.int .i64 t.f1) rfl) 2 (.slice A3 t.f2.length c3) rfl)
      clear kb0 fb0 kb1 fb1 kb2 fb2
      have n_HS := Aside0.mk (show SesS w gs g4 l (i') (x') A1 c1 ks A2 c2 ss (.slice (some ⟨gv, 0, none⟩) ks.length cv) ks w14 by rw [hwn]; exact HS.out.box HBb.out HG.out KB.out _ _ _)
      have n_HRt := Aside0.mk (show Kd.R (Kd.int .u8) 5 w14 w.heap.size (fun _ => True) (.slice A3 t.f2.length c3) t.f2 by
       rw [hwn]
       exact Kd.R_set (Kd.R_set (Kd.R_set (Kd.R_below HRt.out HBb.out) KB.out (by decide) 0 _) (blk_put KB.out 0 _ rfl) (by decide) 1 _) (blk_put (blk_put KB.out 0 _ rfl) 1 _ rfl) (by decide) 2 _)
      have KT := Aside0.mk kn
      replace K7 := Aside0.mk (blk_below K7.out hb)
      replace HRy := Aside0.mk (Kd.R_below HRy.out hb)
      replace HBC := Aside0.mk (Kd.C_below HBC.out hb)
      clear hwn kn hb HG KB HBb HS HRt hx0 hx1 hx2 hadd p0 p1
      have HS := n_HS
      have HRt := n_HRt
      clear n_HS n_HRt
      have k70 := blk_cell K7.out 0
      have k71 := blk_cell K7.out 1
      have k72 := blk_cell K7.out 2
      have kt0 := blk_cell KT.out 0
      have kt1 := blk_cell KT.out 1
      have kt2 := blk_cell KT.out 2
      by_cases hst : t.f0 = y.f0 ∧ y.f1 ≤ t.f1
      ·have c1b : (t.f0 == y.f0) = true := by simpa using hst.1
       have c2b : decide (y.f1 ≤ t.f1) = true := decide_eq_true hst.2
       have HST := Aside0.mk hst
       clear hst
       cases hsm : smIB y t with
       | true =>
        have HSE := Aside0.mk hsm
        have HSB := Aside0.mk (show laws_smItem.f y.f0 y.f1 y.f2 t.f0 t.f1 t.f2 = some true from (smIB_told y t).trans (congrArg some hsm))
        clear hsm
        have hs1 : staleF ks y (j + 1) = true := by
         show (if _ then _ else _) = _
         rw [← HTT.out]
         exact if_pos HST.out
        have hp1 : placeF ks y (j + 1) = (j : Int) := by
         show (if _ then _ else _) = _
         rw [← HTT.out, HSE.out]
         rfl
        have HS1 := Aside0.mk hs1
        have HP1 := Aside0.mk hp1
        clear hs1 hp1
        go_wp2_with (go_at_call 36; refine (laws_smItem.calls y.f0 y.f1 Ad cd y.f2 t.f0 t.f1 A3 c3 t.f2 true _ ?x1 (Kd.R_reads' HRy.out).2.1 ?x3 (Kd.R_reads' HRt.out).2.1 HSB.out).mono ?_; (case x1 => exact Kd.C_below (Kd.R_reads' HRy.out).2.2 (by repeat (first | exact Below.refl _ _ | apply below_drew1 | apply pw_below_drewN | apply below_alloc))); (case x3 => exact Kd.C_below (Kd.R_reads' HRt.out).2.2 (by repeat (first | exact Below.refl _ _ | apply below_drew1 | apply pw_below_drewN | apply below_alloc))); rintro e w15 ⟨rfl, hb0⟩; have hb : Below w14.heap.size w14 w15 := below_step (by repeat (first | exact Below.refl _ _ | apply below_drew1 | apply pw_below_drewN | apply below_alloc)) hb0; replace HS := Aside0.mk (HS.out.below hb); replace K7 := Aside0.mk (blk_below K7.out hb); replace HRy := Aside0.mk (Kd.R_below HRy.out hb); replace HBC := Aside0.mk (Kd.C_below HBC.out hb); clear hb hb0 HSB HRt KT k70 k71 k72 kt0 kt1 kt2)
        go_roundg n2
        case measure => omega
        case rel => exact ⟨j + 1, ⟨by have := HJ.out; omega⟩, by rw [show wrap64 ((j : Int) + 1) = ((j + 1 : Nat) : Int) by have := HK.out; unfold wrap64; omega], by rw [HS1.out], by rw [HP1.out], HS, K7, HRy, HBC⟩
       | false =>
        have HSE := Aside0.mk hsm
        have HSB := Aside0.mk (show laws_smItem.f y.f0 y.f1 y.f2 t.f0 t.f1 t.f2 = some false from (smIB_told y t).trans (congrArg some hsm))
        clear hsm
        have hs1 : staleF ks y (j + 1) = true := by
         show (if _ then _ else _) = _
         rw [← HTT.out]
         exact if_pos HST.out
        have hp1 : placeF ks y (j + 1) = placeF ks y j := by
         show (if _ then _ else _) = _
         rw [← HTT.out, HSE.out]
         rfl
        have HS1 := Aside0.mk hs1
        have HP1 := Aside0.mk hp1
        clear hs1 hp1
        go_wp2_with (go_at_call 36; refine (laws_smItem.calls y.f0 y.f1 Ad cd y.f2 t.f0 t.f1 A3 c3 t.f2 false _ ?x1 (Kd.R_reads' HRy.out).2.1 ?x3 (Kd.R_reads' HRt.out).2.1 HSB.out).mono ?_; (case x1 => exact Kd.C_below (Kd.R_reads' HRy.out).2.2 (by repeat (first | exact Below.refl _ _ | apply below_drew1 | apply pw_below_drewN | apply below_alloc))); (case x3 => exact Kd.C_below (Kd.R_reads' HRt.out).2.2 (by repeat (first | exact Below.refl _ _ | apply below_drew1 | apply pw_below_drewN | apply below_alloc))); rintro e w15 ⟨rfl, hb0⟩; have hb : Below w14.heap.size w14 w15 := below_step (by repeat (first | exact Below.refl _ _ | apply below_drew1 | apply pw_below_drewN | apply below_alloc)) hb0; replace HS := Aside0.mk (HS.out.below hb); replace K7 := Aside0.mk (blk_below K7.out hb); replace HRy := Aside0.mk (Kd.R_below HRy.out hb); replace HBC := Aside0.mk (Kd.C_below HBC.out hb); clear hb hb0 HSB HRt KT k70 k71 k72 kt0 kt1 kt2)
        go_roundg n2
        case measure => omega
        case rel => exact ⟨j + 1, ⟨by have := HJ.out; omega⟩, by rw [show wrap64 ((j : Int) + 1) = ((j + 1 : Nat) : Int) by have := HK.out; unfold wrap64; omega], by rw [HS1.out], by rw [HP1.out], HS, K7, HRy, HBC⟩
      ·have HST := Aside0.mk hst
       have hcase : ((t.f0 == y.f0) = true ∧ decide (y.f1 ≤ t.f1) = false) ∨ (t.f0 == y.f0) = false := by
        by_cases h0 : t.f0 = y.f0
        ·exact .inl ⟨by simpa using h0, decide_eq_false (fun h => hst ⟨h0, h⟩)⟩
        ·exact .inr (by simpa using h0)
       clear hst
       cases hsm : smIB y t with
       | true =>
        have HSE := Aside0.mk hsm
        have HSB := Aside0.mk (show laws_smItem.f y.f0 y.f1 y.f2 t.f0 t.f1 t.f2 = some true from (smIB_told y t).trans (congrArg some hsm))
        clear hsm
        rcases hcase with ⟨c1b, c2b⟩ | c1b
        all_goals (
         have hs1 : staleF ks y (j + 1) = staleF ks y j := by
          show (if _ then _ else _) = _
          rw [← HTT.out]
          exact if_neg HST.out
         have hp1 : placeF ks y (j + 1) = (j : Int) := by
          show (if _ then _ else _) = _
          rw [← HTT.out, HSE.out]
          rfl
         have HS1 := Aside0.mk hs1
         have HP1 := Aside0.mk hp1
         clear hs1 hp1
         go_wp2_with (go_at_call 36; refine (laws_smItem.calls y.f0 y.f1 Ad cd y.f2 t.f0 t.f1 A3 c3 t.f2 true _ ?x1 (Kd.R_reads' HRy.out).2.1 ?x3 (Kd.R_reads' HRt.out).2.1 HSB.out).mono ?_; (case x1 => exact Kd.C_below (Kd.R_reads' HRy.out).2.2 (by repeat (first | exact Below.refl _ _ | apply below_drew1 | apply pw_below_drewN | apply below_alloc))); (case x3 => exact Kd.C_below (Kd.R_reads' HRt.out).2.2 (by repeat (first | exact Below.refl _ _ | apply below_drew1 | apply pw_below_drewN | apply below_alloc))); rintro e w15 ⟨rfl, hb0⟩; have hb : Below w14.heap.size w14 w15 := below_step (by repeat (first | exact Below.refl _ _ | apply below_drew1 | apply pw_below_drewN | apply below_alloc)) hb0; replace HS := Aside0.mk (HS.out.below hb); replace K7 := Aside0.mk (blk_below K7.out hb); replace HRy := Aside0.mk (Kd.R_below HRy.out hb); replace HBC := Aside0.mk (Kd.C_below HBC.out hb); clear hb hb0 HSB HRt KT k70 k71 k72 kt0 kt1 kt2)
         go_roundg n2
         case measure => omega
         case rel => exact ⟨j + 1, ⟨by have := HJ.out; omega⟩, by rw [show wrap64 ((j : Int) + 1) = ((j + 1 : Nat) : Int) by have := HK.out; unfold wrap64; omega], by rw [HS1.out], by rw [HP1.out], HS, K7, HRy, HBC⟩)
       | false =>
        have HSE := Aside0.mk hsm
        have HSB := Aside0.mk (show laws_smItem.f y.f0 y.f1 y.f2 t.f0 t.f1 t.f2 = some false from (smIB_told y t).trans (congrArg some hsm))
        clear hsm
        rcases hcase with ⟨c1b, c2b⟩ | c1b
        all_goals (
         have hs1 : staleF ks y (j + 1) = staleF ks y j := by
          show (if _ then _ else _) = _
          rw [← HTT.out]
          exact if_neg HST.out
         have hp1 : placeF ks y (j + 1) = placeF ks y j := by
          show (if _ then _ else _) = _
          rw [← HTT.out, HSE.out]
          rfl
         have HS1 := Aside0.mk hs1
         have HP1 := Aside0.mk hp1
         clear hs1 hp1
         go_wp2_with (go_at_call 36; refine (laws_smItem.calls y.f0 y.f1 Ad cd y.f2 t.f0 t.f1 A3 c3 t.f2 false _ ?x1 (Kd.R_reads' HRy.out).2.1 ?x3 (Kd.R_reads' HRt.out).2.1 HSB.out).mono ?_; (case x1 => exact Kd.C_below (Kd.R_reads' HRy.out).2.2 (by repeat (first | exact Below.refl _ _ | apply below_drew1 | apply pw_below_drewN | apply below_alloc))); (case x3 => exact Kd.C_below (Kd.R_reads' HRt.out).2.2 (by repeat (first | exact Below.refl _ _ | apply below_drew1 | apply pw_below_drewN | apply below_alloc))); rintro e w15 ⟨rfl, hb0⟩; have hb : Below w14.heap.size w14 w15 := below_step (by repeat (first | exact Below.refl _ _ | apply below_drew1 | apply pw_below_drewN | apply below_alloc)) hb0; replace HS := Aside0.mk (HS.out.below hb); replace K7 := Aside0.mk (blk_below K7.out hb); replace HRy := Aside0.mk (Kd.R_below HRy.out hb); replace HBC := Aside0.mk (Kd.C_below HBC.out hb); clear hb hb0 HSB HRt KT k70 k71 k72 kt0 kt1 kt2)
         go_roundg n2
         case measure => omega
         case rel => exact ⟨j + 1, ⟨by have := HJ.out; omega⟩, by rw [show wrap64 ((j : Int) + 1) = ((j + 1 : Nat) : Int) by have := HK.out; unfold wrap64; omega], by rw [HS1.out], by rw [HP1.out], HS, K7, HRy, HBC⟩)

end Go.Proofs.Ytladodfapnigfaa.YSes
