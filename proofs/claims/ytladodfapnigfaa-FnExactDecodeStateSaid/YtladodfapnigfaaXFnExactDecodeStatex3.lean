/- Contracts of the functions that FnExactDecodeState comes to, each proved over the translation. Written by this session's program xprint.py; the parts between 'BY HAND' rows are typed by hand. Conditions: each theorem's own hypotheses. -/
import Derived.Test.YtladodfapnigfaaXFnExactDecodeStatex0
import Derived.Test.YtladodfapnigfaaXFnExactDecodeStatex1
import Derived.Test.YtladodfapnigfaaXFnExactDecodeStatex2
namespace Go.Proofs.Ytladodfapnigfaa.XFnExactDecodeState
open Go.RowKit Go.Proofs.YtladodfapnigfaaW.PrintWords Go.Proofs.YtladodfapnigfaaW.PrintLast Go.Proofs.YtladodfapnigfaaW.PrintMore
attribute [local go_sem] max2_int min2_int max_two min_two max_three min_three max_four min_four   -- for this text's walks alone
set_option linter.unusedVariables false
set_option linter.unusedSimpArgs false

/-! ### laws_markSessionS: function 59 · BY HAND -/
section
open Go.Proofs.Ytladodfapnigfaa.Num
theorem mark_l0_s (a : Int) (ha0 : 0 ≤ a) (n : Nat) (hn : n ≤ 281474976710656) (ha : a ≤ 281474976710656) (d : Nat) : ∀ (k i : Nat) (y : List Int), y.length = n → i ≤ n → n - i = d → d < k → (∀ j : Nat, j < i → rd y (j : Int) = (a + j) % 256) →
 ∃ z, laws_markByteS.l0 k y (a + i) (i : Int) = some (a + n, z) ∧ z.length = n ∧ Marked a z := by
 induction d with
 | zero =>
  intro k i y hl hi hd hk ht
  obtain ⟨k, rfl⟩ : ∃ m, k = m + 1 := ⟨k - 1, by omega⟩
  obtain rfl : i = n := by omega
  exact ⟨y, by rw [laws_markByteS.l0, if_neg (by omega)], hl, fun j hj => ht j (by omega)⟩
 | succ d ih =>
  intro k i y hl hi hd hk ht
  obtain ⟨k, rfl⟩ : ∃ m, k = m + 1 := ⟨k - 1, by omega⟩
  rw [laws_markByteS.l0, if_pos (by omega), if_pos (by omega), w64n (by omega), w64 (x := a + (i : Int) + 1) (by omega) (by omega), show a + (i : Int) + 1 = a + ((i + 1 : Nat) : Int) by omega]
  refine ih k (i + 1) _ (by simpa using hl) (by omega) (by omega) (by omega) (fun j hj => ?_)
  by_cases e : j = i
  ·subst e
   rw [rd_get _ _ (by simp; omega)]
   simp
  ·have h := ht j (by omega)
   rw [rd_get _ _ (by omega)] at h
   rw [rd_get _ _ (by simp; omega), List.getElem_set_ne (by simp; omega), h]
theorem mark_told_s (a : Int) (ha0 : 0 ≤ a) (ha : a ≤ 281474976710656) (x : List Int) (hx : x.length ≤ 281474976710656) : ∃ z, laws_markByteS.f (x.length + 1) x a = some (a + x.length, z) ∧ z.length = x.length ∧ Marked a z := by
 obtain ⟨z, h, hl, hm⟩ := mark_l0_s a ha0 x.length hx ha x.length (x.length + 1) 0 x rfl (by omega) (by omega) (by omega) (fun j hj => by omega)
 exact ⟨z, by simp only [laws_markByteS.f]; simpa using h, hl, hm⟩
end
/-- How many marks the first items take. -/
def sessTot : List S74 → Nat
 | [] => 0
 | x :: l => 3 + x.f3.length + sessTot l
theorem sessTot_snoc (l : List S74) (x : S74) : sessTot (l ++ [x]) = sessTot l + (3 + x.f3.length) := by
 induction l with
 | nil => simp [sessTot]
 | cons y l ih => simp only [List.cons_append, sessTot, ih]; omega
theorem sessTot_succ (l : List S74) (i : Nat) (h : i < l.length) : sessTot (l.take (i + 1)) = sessTot (l.take i) + (3 + (l[i]).f3.length) := by
 rw [List.take_succ_eq_append_getElem h, sessTot_snoc]
theorem sessTot_app (l m : List S74) : sessTot (l ++ m) = sessTot l + sessTot m := by
 induction l with
 | nil => simp [sessTot]
 | cons y l ih => simp only [List.cons_append, sessTot, ih]; omega
theorem sessTot_le (l : List S74) (i : Nat) : sessTot (l.take i) ≤ sessTot l := by
 have h := sessTot_app (l.take i) (l.drop i)
 rw [List.take_append_drop] at h
 omega
/-- The first i of m are l's, marked from a on; the others are l's own. -/
def MarkedSess (a : Int) (l : List S74) (i : Nat) (m : List S74) : Prop :=
 m.length = l.length ∧ (∀ j y, j < i → m[j]? = some y → y.f0 = a + sessTot (l.take j) ∧ y.f1 = a + sessTot (l.take j) + 1 ∧ y.f2 = a + sessTot (l.take j) + 2 ∧ Go.Proofs.Ytladodfapnigfaa.Num.Marked (a + sessTot (l.take j) + 3) y.f3 ∧ ∀ x, l[j]? = some x → y.f3.length = x.f3.length) ∧ ∀ j, i ≤ j → m[j]? = l[j]?
theorem MarkedSess.step {a : Int} {l m : List S74} {i : Nat} (h : MarkedSess a l i m) (hi : i < l.length) (z : List Int) (hz : z.length = (l[i]).f3.length) (hm : Go.Proofs.Ytladodfapnigfaa.Num.Marked (a + sessTot (l.take i) + 3) z) :
 MarkedSess a l (i + 1) (m.set i ⟨a + sessTot (l.take i), a + sessTot (l.take i) + 1, a + sessTot (l.take i) + 2, z⟩) := by
 obtain ⟨h1, h2, h3⟩ := h
 refine ⟨by rw [List.length_set]; exact h1, fun j y hj hy => ?_, fun j hj => ?_⟩
 ·by_cases e : j = i
  ·subst e
   rw [List.getElem?_set_self (by omega)] at hy
   injection hy with hy
   subst hy
   refine ⟨rfl, rfl, rfl, hm, fun x hx => ?_⟩
   rw [List.getElem?_eq_getElem hi] at hx
   injection hx with hx
   rw [← hx]
   exact hz
  ·rw [List.getElem?_set_ne (by omega)] at hy
   exact h2 j y (by omega) hy
 ·rw [List.getElem?_set_ne (by omega)]
  exact h3 j (by omega)
def MarksSess (w0 w : World) (P : Nat → Prop) (v : Value) (l : List S74) (a : Int) (e : Ending) (w' : World) : Prop :=
 ∃ m, e = .returned (.int .i64 (a + sessTot l)) ∧ MarkedSess a l l.length m ∧ Kd.S k74 74 w' w0.heap.size P v m ∧ Below w0.heap.size w0 w' ∧ Kept w w' P
set_option maxHeartbeats 8000000 in
set_option maxRecDepth 100000 in
theorem markSess.calls (w0 w : World) (P : Nat → Prop) (v : Value) (l : List S74) (a : Int) (ha0 : 0 ≤ a) (htot : a + sessTot l ≤ 281474976710656) (hlen : l.length ≤ 281474976710656) (hB : Below w0.heap.size w0 w) (ho : Kd.S k74 74 w w0.heap.size P v l) :
 Calls Try.prog 59 #[v, .int .i64 a] w (MarksSess w0 w P v l a) := by
 have hu := Try.underlying74
 have HO := Aside0.mk ho
 have HB := Aside0.mk hB
 have HA := Aside0.mk ha0
 have HT := Aside0.mk htot
 have HLEN := Aside0.mk hlen
 obtain ⟨A1, c1, hv⟩ := Kd.S_slice ho
 subst hv
 clear ho hB ha0 htot hlen
 go_enter Try.func59, Try.ntmps59
 go_wp2
 go_loopg [1, 5] l.length (fun gk v1 v5 w' => ∃ (i : Nat) (b : Int) (m : List S74), v1 = .int .i64 b ∧ v5 = .int .i64 (i : Nat) ∧ Aside0 (b = a + sessTot (l.take i)) ∧ Aside0 (gk + i = l.length) ∧ Aside0 (MarkedSess a l i m) ∧ Aside0 (Kd.S k74 74 w' w0.heap.size P (.slice A1 l.length c1) m) ∧ Aside0 (Below w0.heap.size w0 w') ∧ Aside0 (Kept w w' P))
 case atStart => exact ⟨0, a, l, rfl, rfl, ⟨by simp [sessTot]⟩, ⟨by omega⟩, ⟨⟨rfl, fun j y hj => by omega, fun j hj => rfl⟩⟩, HO, HB, ⟨Kept.refl _ _⟩⟩
 case round =>
  clear HO HB
  obtain ⟨i, b, m, rfl, rfl, HBE, HG, HM, HO, HB, HK⟩ := hrel
  by_cases hlt : i < l.length
  ·obtain ⟨k1, hk1⟩ : ∃ m, gk = m + 1 := ⟨gk - 1, by have := HG.out; omega⟩
   subst hk1
   have hml : m.length = l.length := HM.out.1
   obtain ⟨g, cap, hv, hge, hrest⟩ := Kd.S_form HO.out (by omega)
   injection hv with hv1 hv2 hv3
   subst hv1 hv3
   have HGE := Aside0.mk hge
   obtain ⟨oki, c, hcl, hM, hcc, hfr, hoki, hH⟩ := Kd.S_elem HO.out z74 (i : Int) (by omega) (by omega)
   have hx : m.getD (i : Int).toNat z74 = l[i] := by
    have := HM.out.2.2 i (Nat.le_refl _)
    rw [Int.toNat_natCast, List.getD_eq_getElem?_getD, this, List.getElem?_eq_getElem hlt]
    rfl
   rw [hx] at hM
   obtain ⟨x, hxl⟩ : ∃ x, x = l[i] := ⟨_, rfl⟩
   rw [← hxl] at hM
   obtain ⟨v2, hc, hR2⟩ := k74_openM hM
   subst hc
   have hz : k74.sz = 4 := rfl
   have q0 := hcc 0 _ rfl
   have q1 := hcc 1 _ rfl
   have q2 := hcc 2 _ rfl
   have q3 := hcc 3 _ rfl
   have r0 := hfr 0
   have r1 := hfr 1
   have r2 := hfr 2
   rw [hz, Int.toNat_natCast] at q0 q1 q2 q3 r0 r1 r2
   rw [Nat.add_zero] at q0 r0
   have htk := sessTot_le l (i + 1)
   rw [sessTot_succ l i hlt, ← hxl] at htk
   have hb0 : 0 ≤ b := by have := HBE.out; have := HA.out; omega
   have hb2 : b + 3 ≤ 281474976710656 := by have := HBE.out; have := HT.out; omega
   have hx2 : x.f3.length ≤ 281474976710656 := by have := HBE.out; have := HT.out; have := HA.out; omega
   obtain ⟨z, hz1, hz2, hz3⟩ := mark_told_s (b + 1 + 1 + 1) (by omega) (by omega) x.f3 hx2
   have HZ1 := Aside0.mk hz1
   have HZ2 := Aside0.mk hz2
   have HZ3 := Aside0.mk hz3
   have HXL := Aside0.mk hxl
   have HR2 := Aside0.mk hR2
   have HOKI := Aside0.mk hoki
   have HH := Aside0.mk hH
   obtain ⟨A2, c2, hv2⟩ := Kd.R_slice hR2
   subst hv2
   have hbs : b + 1 ≤ 281474976710656 := by omega
   clear hx hxl hM hcc hfr hoki hH hR2 hz hz1 hz2 hz3 hcl hge hrest htk hml hv2 hx2
   have HPG := Aside0.mk (show P g from (Kd.S_R HO.out).1 g rfl)
   go_wp2_with (go_at_call 14; refine (laws_markByteS.calls _ oki (.slice A2 x.f3.length c2) x.f3 (b + 1 + 1 + 1) _ z w0 _ ?B ?R HZ1.out).mono ?_; (case B => exact below_set (below_set (below_set HB.out HGE.out) HGE.out) HGE.out); (case R => exact Kd.R_far (p := ⟨g, i * 4 + 2, none⟩) (Kd.R_far (p := ⟨g, i * 4 + 1, none⟩) (Kd.R_far (p := ⟨g, i * 4, none⟩) HR2.out (fun k hk => (HOKI.out k hk).2) _) (fun k hk => (HOKI.out k hk).2) _) (fun k hk => (HOKI.out k hk).2) _); rintro e w1 ⟨rfl, ho, hb, hk⟩; have HR3 := Aside0.mk (Kd.R_mono (Kd.R_tight rfl ho) (fun k hk' => HR2.out.1 k hk'.symm)); have hH2 : Kd.H k74 74 (((wr.setCell ⟨g, i * 4, none⟩ (.int .i64 b)).setCell ⟨g, i * 4 + 1, none⟩ (.int .i64 (b + 1))).setCell ⟨g, i * 4 + 2, none⟩ (.int .i64 (b + 1 + 1))) w0.heap.size P (.slice (some ⟨g, 0, none⟩) l.length c1) m (i : Int) oki [.int .i64 b, .int .i64 (b + 1), .int .i64 (b + 1 + 1), .slice A2 x.f3.length c2] := (Kd.H_seg HH.out (by omega) (by omega) (seg := [.int .i64 b, .int .i64 (b + 1), .int .i64 (b + 1 + 1)]) (j := 0) (by show 0 + 3 ≤ 4; omega) (by simp [Value.oneCell'])).1; have HS := Aside0.mk (Kd.H_back (Kd.H_kept hH2 hk (fun _ _ hn hs => hn hs)) (k74_mkM w1 _ oki ⟨b, b + 1, b + 1 + 1, z⟩ HR3.out) (fun _ h => h)); have HB2 := Aside0.mk hb; have HK2 := Aside0.mk ((((HK.out.setCell (p := ⟨g, i * 4, none⟩) (.inl HPG.out) _).setCell (p := ⟨g, i * 4 + 1, none⟩) (.inl HPG.out) _).setCell (p := ⟨g, i * 4 + 2, none⟩) (.inl HPG.out) _).then_ hk (fun k hk => .inl (HOKI.out k hk).1)); clear ho hb hk hH2)
   go_roundg k1
   case measure => omega
   case rel => exact ⟨i + 1, b + 1 + 1 + 1 + x.f3.length, m.set i ⟨b, b + 1, b + 1 + 1, z⟩, rfl, by rw [Go.Proofs.Ytladodfapnigfaa.Num.w64n (by have := HLEN.out; omega)], ⟨by rw [sessTot_succ l i hlt, ← HXL.out]; have := HBE.out; omega⟩, ⟨by have := HG.out; omega⟩, ⟨by have := HM.out.step hlt z (by rw [HZ2.out, HXL.out]) (by have := HZ3.out; rwa [show b + 1 + 1 + 1 = a + sessTot (l.take i) + 3 by have := HBE.out; omega] at this); rw [← HBE.out] at this; rw [show b + 1 + 1 = b + 2 by omega]; exact this⟩, ⟨by have := HS.out; rw [Int.toNat_natCast] at this; exact this⟩, HB2, HK2⟩
  ·have hi : i = l.length := by have := HG.out; omega
   have HF := Aside0.mk (show b = a + sessTot l by have := HBE.out; rwa [hi, List.take_length] at this)
   have HMM := Aside0.mk (show MarkedSess a l l.length m by have := HM.out; rwa [hi] at this)
   have tlt : decide (i < l.length) = false := decide_eq_false hlt
   clear hlt hi
   go_wp2
   go_ret
   exact ⟨m, by rw [HF.out]; rfl, HMM.out, HO.out, HB.out, HK.out⟩
/-! ### end of what is BY HAND -/


/-! ### laws_markService: function 27 · BY HAND -/
def MarksService (w0 w : World) (P1 P2 : Nat → Prop) (v1 v2 : Value) (ks : List S24) (ss : List S74) (a : Int) (e : Ending) (w' : World) : Prop :=
 ∃ m1 m2, e = .returned (.int .i64 (a + itemsTot ks + sessTot ss)) ∧ MarkedItems a ks ks.length m1 ∧ MarkedSess (a + itemsTot ks) ss ss.length m2 ∧ Kd.S k24 24 w' w0.heap.size P1 v1 m1 ∧ Kd.S k74 74 w' w0.heap.size P2 v2 m2 ∧ Below w0.heap.size w0 w' ∧ Kept w w' (fun k => P1 k ∨ P2 k)
set_option maxHeartbeats 8000000 in
set_option maxRecDepth 100000 in
theorem markService.calls (w0 w : World) (P1 P2 : Nat → Prop) (hdis : ∀ k, P1 k → ¬ P2 k) (hin1 : ∀ k, P1 k → k < w.heap.size) (hin2 : ∀ k, P2 k → k < w.heap.size) (a0 : Int) (v1 v2 : Value) (ks : List S24) (ss : List S74) (a : Int) (ha0 : 0 ≤ a) (htot : a + itemsTot ks + sessTot ss ≤ 281474976710656) (hlen1 : ks.length ≤ 281474976710656) (hlen2 : ss.length ≤ 281474976710656)
 (hB : Below w0.heap.size w0 w) (ho1 : Kd.S k24 24 w w0.heap.size P1 v1 ks) (ho2 : Kd.S k74 74 w w0.heap.size P2 v2 ss) :
 Calls Try.prog 27 #[.agg #[.int .i64 a0, v1, v2], .int .i64 a] w (MarksService w0 w P1 P2 v1 v2 ks ss a) := by
 have hu := Try.underlying48
 have HO1 := Aside0.mk ho1
 have HO2 := Aside0.mk ho2
 have HB := Aside0.mk hB
 have HA := Aside0.mk ha0
 have HT := Aside0.mk htot
 have HL1 := Aside0.mk hlen1
 have HL2 := Aside0.mk hlen2
 have HD := Aside0.mk hdis
 have HI1 := Aside0.mk hin1
 have HI2 := Aside0.mk hin2
 obtain ⟨A1, c1, e1⟩ := Kd.S_slice ho1
 obtain ⟨A2, c2, e2⟩ := Kd.S_slice ho2
 subst e1 e2
 clear ho1 ho2 hB ha0 htot hlen1 hlen2 hdis hin1 hin2
 go_enter Try.func27, Try.ntmps27
 go_wp2_with ((with_reducible refine gate_dst (N := 2) rfl ?_); refine box_event ?hg (N := 2) ?hd (cs := #[.int .i64 a0, .slice A1 ks.length c1, .slice A2 ss.length c2]) (t := 48) ?hr ?_; (case hd => rfl); (case hg => rfl); (case hr => first | (go_simp; done) | (go_simp; rfl)); intro g hg w1 bk hb; have HG := Aside0.mk hg; have BK := Aside0.mk bk; have HB1 := Aside0.mk hb; have k1 : w1.cell? ⟨g, 1, none⟩ = some (.slice A1 ks.length c1) := blk_cell bk 1; clear hg bk hb)
 refine (markItems.calls w0 _ P1 _ ks a HA.out (by have := HT.out; omega) HL1.out (below_step HB.out HB1.out) (Kd.S_below HO1.out HB1.out)).mono ?_
 rintro e w2 ⟨m1, rfl, hm1, hs1, hb2, hk2⟩
 have HM1 := Aside0.mk hm1
 have HS1 := Aside0.mk hs1
 have HB2 := Aside0.mk hb2
 have HK2 := Aside0.mk hk2
 have k2 : w2.cell? ⟨g, 2, none⟩ = some (.slice A2 ss.length c2) := blk_cell (blk_kept BK.out hk2 (fun h => by have := HI1.out g h; have := HG.out; omega)) 2
 have HS2 := Aside0.mk (Kd.S_kept (Kd.S_below HO2.out HB1.out) hk2 (fun k h2 h1 => HD.out k h1 h2))
 clear hm1 hs1 hb2 hk2 k1
 go_wp2_with fail
 refine (markSess.calls w0 _ P2 _ ss (a + itemsTot ks) (by have := HA.out; omega) HT.out HL2.out HB2.out HS2.out).mono ?_
 rintro e w3 ⟨m2, rfl, hm2, hs2, hb3, hk3⟩
 have HM2 := Aside0.mk hm2
 have HS3 := Aside0.mk hs2
 have HB3 := Aside0.mk hb3
 have HK3 := Aside0.mk hk3
 clear hm2 hs2 hb3 hk3 k2
 go_wp2
 go_ret
 exact ⟨m1, m2, rfl, HM1.out, HM2.out, Kd.S_kept HS1.out HK3.out (fun k h1 h2 => HD.out k h1 h2), HS3.out, HB3.out, ((Kept.of_below HB1.out (fun _ => False)).mono (fun _ h => h.elim)).then_ (HK2.out.mono (S' := fun k => P1 k ∨ P2 k) (fun _ h => .inl h)) (fun k h => .inl h) |>.then_ HK3.out (fun k h => .inl (.inr h))⟩
/-! ### end of what is BY HAND -/


/-! ### spec_l2Put: function 46 -/
def spec_l2Put.l0 : Nat → Int → Int → List Int → Int → Option (List Int)
 | 0, _, _, _, _ => none
 | k + 1, x0, x1, x5, x6 => if x6 < x1 then (if x5.length < 140737488355328 then (spec_l2Put.l0 k (wrap64 (Int.tdiv x0 256)) x1 (x5 ++ [(Int.tmod x0 256) % 256]) (wrap64 (x6 + 1))) else (none)) else (some x5)
def spec_l2Put.f (k : Nat) (a0 : Int) (a1 : Int) : Option (List Int) := spec_l2Put.l0 k a0 a1 (([] : List Int)) 0
theorem spec_l2Put.mono_l : ∀ k, (∀ y0 y1 y2 y3, LeO (spec_l2Put.l0 k y0 y1 y2 y3) (spec_l2Put.l0 (k + 1) y0 y1 y2 y3))
 | 0 => fun _ _ _ _ r h => by simp [spec_l2Put.l0] at h
 | k + 1 => by
  have ih0 := spec_l2Put.mono_l k
  ·intro y0 y1 y2 y3
   unfold spec_l2Put.l0
   repeat' first
   | (with_reducible exact ih0 _ _ _ _)
   | (with_reducible exact LeO.refl _)
   | (with_reducible exact LeO.none _)
   | (with_reducible refine LeO.ite ?_ ?_)
   | (with_reducible refine LeO.bind ?_ (fun _ => ?_))
   | exact ih0 _ _ _ _
   | exact LeO.none _
   | refine LeO.ite ?_ ?_
   | refine LeO.bind ?_ (fun _ => ?_)
theorem spec_l2Put.mono : ∀ a0 a1 k, LeO (spec_l2Put.f k a0 a1) (spec_l2Put.f (k + 1) a0 a1) := by
 intro a0 a1 k
 have ih0 := spec_l2Put.mono_l k
 unfold spec_l2Put.f
 repeat' first
  | (with_reducible exact ih0 _ _ _ _)
  | (with_reducible exact LeO.refl _)
  | (with_reducible exact LeO.none _)
  | (with_reducible refine LeO.ite ?_ ?_)
  | (with_reducible refine LeO.bind ?_ (fun _ => ?_))
  | exact ih0 _ _ _ _
  | exact LeO.none _
  | refine LeO.ite ?_ ?_
  | refine LeO.bind ?_ (fun _ => ?_)
set_option maxHeartbeats 8000000 in
set_option maxRecDepth 100000 in
theorem spec_l2Put.calls (k : Nat) (a0 : Int) (a1 : Int) (r : List Int) (w : World) (h : spec_l2Put.f k a0 a1 = some r) :
 Calls Try.prog 46 #[.int .i64 a0, .int .i64 a1] w fun e w' => ∃ v0_ : Value, e = .returned (v0_) ∧ Kd.R (Kd.int .u8) 5 w' w.heap.size (fun _ => True) v0_ r ∧ Below w.heap.size w w' := by
 have HB := Aside0.mk (Below.refl w.heap.size w)
 have H : (spec_l2Put.l0 k a0 a1 (([] : List Int)) 0) = some r := h
 clear h
 obtain ⟨y125, hy125⟩ : ∃ y_ : List Int, y_ = (([] : List Int)) := ⟨_, rfl⟩
 replace H : (spec_l2Put.l0 k a0 a1 y125 0) = some r := by first | (rw [hy125]; with_reducible exact H) | (have H2_ := (Option.bind_some _ _).symm.trans H; rw [hy125]; with_reducible exact H2_) | (have H2_ := (Option.bind_some _ _).symm.trans H; with_reducible exact H2_) | with_reducible exact H | (rw [hy125]; exact H) | exact H
 have Ny125 := Aside0.mk hy125
 clear hy125
 have H' := Aside0.mk H
 clear H
 go_enter Try.func46, Try.ntmps46
 go_wp2_with (first | ((with_reducible refine gate_dst (N := 7) rfl ?_); refine Kd.R_lit (Kd.int .u8) _ 5 ?hg (N := 7) ?hd (xs := ([] : List Int)) (inner := []) (ok := fun _ => True) (okp := fun _ => True) ?hr ?hp (fun _ hk => hk) trivial (Below.refl _ _) (Nat.le_refl _) (by simp) ?_; (case hd => rfl); (case hg => rfl); (case hr => first | (go_simp; done) | (go_simp; rfl)); (case hp => exact (Reps.none _ _)); intro v126 w3 ho4 hb hg_ hnew_; clear hg_ hnew_; (first | rw [← Ny125.out] at ho4 | (simp only [Int.reduceToNat] at ho4; rw [← Ny125.out] at ho4)); have n0_ := Aside0.mk (Kd.R_lower ho4 (below_size (by repeat (first | (with_reducible first | exact HB.out | apply below_alloc | apply pw_below_drewN | apply below_drew1) | exact HB.out)))); have n1_ := Aside0.mk (below_step (by repeat (first | (with_reducible first | exact HB.out | apply below_alloc | apply pw_below_drewN | apply below_drew1) | exact HB.out)) hb); clear HB; have HO127 := n0_; have HB := n1_; clear n0_ n1_; clear hb ho4))
 go_loopg [0, 5, 6] k (fun kq v0 v5 v6 w' => ∃ (x0_1 : Int) (x5_1 : List Int) (x6_1 : Int), v0 = .int .i64 x0_1 ∧ v6 = .int .i64 x6_1 ∧ Aside0 (spec_l2Put.l0 kq x0_1 a1 x5_1 x6_1 = some r) ∧ Aside0 (kq ≤ k) ∧ Aside0 (Kd.R (Kd.int .u8) 5 w' w.heap.size (fun _ => True) v5 x5_1) ∧ Aside0 (Below w.heap.size w w'))
 case atStart => exact ⟨(a0), (y125), (0), (by first | rfl | (simp; done) | (simp [*]; done)), (by first | rfl | (simp; done) | (simp [*]; done)), H', ⟨Nat.le_refl _⟩, ⟨by (with_reducible repeat (first | apply Kd.R_alloc | apply Kd.R_drewN | apply Kd.R_drew)); exact HO127.out⟩, ⟨by repeat (first | (with_reducible first | exact HB.out | apply below_alloc | apply pw_below_drewN | apply below_drew1) | exact HB.out)⟩⟩
 case round =>
  clear H'
  try clear p2
  try clear c4
  obtain ⟨x0_1, x5_1, x6_1, rfl, rfl, HA, HK1, HO_5, HB⟩ := hrel
  cases gk with
  | zero => exact absurd HA.out (by simp [spec_l2Put.l0])
  | succ k1 =>
   have H := HA.out
   clear HA
   simp only [spec_l2Put.l0] at H
   by_cases c5 : x6_1 < a1
   ·rw [if_pos c5] at H
    have c5b0 : decide (x6_1 < a1) = true := decide_eq_true c5
    clear c5
    by_cases c6 : x5_1.length < 140737488355328
    ·rw [if_pos c6] at H
     have LMc6 := Aside0.mk c6
     clear c6
     obtain ⟨y128, hy128⟩ : ∃ y_ : List Int, y_ = (x5_1 ++ [(Int.tmod x0_1 256) % 256]) := ⟨_, rfl⟩
     replace H : (spec_l2Put.l0 k1 (wrap64 (Int.tdiv x0_1 256)) a1 y128 (wrap64 (x6_1 + 1))) = some r := by first | (rw [hy128]; with_reducible exact H) | (have H2_ := (Option.bind_some _ _).symm.trans H; rw [hy128]; with_reducible exact H2_) | (have H2_ := (Option.bind_some _ _).symm.trans H; with_reducible exact H2_) | with_reducible exact H | (rw [hy128]; exact H) | exact H
     have Ny128 := Aside0.mk hy128
     clear hy128
     have H' := Aside0.mk H
     clear H
     go_wp2_with (first | ((with_reducible refine gate_builtin (b := .append) (xs := #[.tmp 13, .tmp 17]) rfl ?_); at_builtin; refine Kd.R_append (Kd.int .u8) (w0 := w) w.heap.size rfl (.tmp 13) (.tmp 17) 22 5 (.int .u8 0) 1 rfl Try.underlying22 info5 rfl (by decide) (by omega) u5 x5_1 ((Int.tmod x0_1 256) % 256) [.int .u8 ((Int.tmod x0_1 256) % 256)] (fun _ => True) (fun _ => False) rfl rfl ?aP (fun _ hk => hk.elim) ?aF ?aO ?aB ?aS ?aL ?_; (case aP => exact rfl); (case aB => exact (by repeat (first | (with_reducible first | exact HB.out | apply below_alloc | apply pw_below_drewN | apply below_drew1) | exact HB.out))); (case aF => exact (fun _ _ => trivial)); (case aO => exact (by (with_reducible repeat (first | apply Kd.R_alloc | apply Kd.R_drewN | apply Kd.R_drew)); exact HO_5.out)); (case aS => exact (below_size (by repeat (first | (with_reducible first | exact HB.out | apply below_alloc | apply pw_below_drewN | apply below_drew1) | exact HB.out)))); (case aL => have := LMc6.out; omega); intro v129 w7 ho hb hg hat; rw [← Ny128.out] at ho; have n0_ := Aside0.mk (hb); have n1_ := Aside0.mk (ho); clear HB; clear HO_5; have HB := n0_; have HO130 := n1_; clear n0_ n1_; clear ho hb hg hat))
     go_roundg k1
     case measure => have := HK1.out; omega
     case rel => exact ⟨(wrap64 (Int.tdiv x0_1 256)), (y128), (wrap64 (x6_1 + 1)), (by first | rfl | (simp; done) | (simp [*]; done)), (by first | rfl | (simp; done) | (simp [*]; done)), H', ⟨by have := HK1.out; omega⟩, ⟨by (with_reducible repeat (first | apply Kd.R_alloc | apply Kd.R_drewN | apply Kd.R_drew)); exact HO130.out⟩, ⟨by repeat (first | (with_reducible first | exact HB.out | apply below_alloc | apply pw_below_drewN | apply below_drew1) | exact HB.out)⟩⟩
    ·rw [if_neg c6] at H
     exact absurd H (by simp)
   ·rw [if_neg c5] at H
    have c5b0 : decide (x6_1 < a1) = false := decide_eq_false c5
    clear c5
    obtain rfl := Option.some.inj H
    go_wp2
    go_ret
    exact ⟨_, by first | rfl | (simp [errW_none, errW_some] <;> rfl) | (simp [*, errW_none, errW_some] <;> rfl), by (with_reducible repeat (first | apply Kd.R_alloc | apply Kd.R_drewN | apply Kd.R_drew)); exact HO_5.out, by repeat (first | (with_reducible first | exact HB.out | apply below_alloc | apply pw_below_drewN | apply below_drew1) | exact HB.out)⟩

/-! ### spec_l5Item: function 41 -/
def spec_l5Item.f (a0 : Int) (a1 : Int) (l2 : List Int) : Option (Bool) := if a0 ≥ 1 then (if a0 ≤ 50 then (if a1 ≥ 1 then (if a1 ≤ 1000000000 then (some (decide ((l2.length : Int) ≤ 64))) else (some false)) else (some false)) else (some false)) else (some false)
set_option maxHeartbeats 8000000 in
set_option maxRecDepth 100000 in
theorem spec_l5Item.calls (a0 : Int) (a1 : Int) (A2 : Option Addr) (c2 : Nat) (l2 : List Int) (r : Bool) (w : World) (hr2 : Kd.C (Kd.int .u8) w A2 l2.length l2) (hc2 : l2.length ≤ c2) (h : spec_l5Item.f a0 a1 l2 = some r) :
 Calls Try.prog 41 #[.int .i64 a0, .int .i64 a1, .slice A2 l2.length c2] w fun e w' => e = .returned (.bool r) ∧ Drawn0 w w' := by
 have HR2 := Aside0.mk hr2
 have HC2 := Aside0.mk hc2
 clear hr2 hc2
 have H : (if a0 ≥ 1 then (if a0 ≤ 50 then (if a1 ≥ 1 then (if a1 ≤ 1000000000 then (some (decide ((l2.length : Int) ≤ 64))) else (some false)) else (some false)) else (some false)) else (some false)) = some r := h
 clear h
 by_cases c4 : a0 ≥ 1
 ·rw [if_pos c4] at H
  have c4b0 : decide (1 ≤ a0) = true := decide_eq_true c4
  clear c4
  by_cases c5 : a0 ≤ 50
  ·rw [if_pos c5] at H
   have c5b0 : decide (a0 ≤ 50) = true := decide_eq_true c5
   clear c5
   by_cases c6 : a1 ≥ 1
   ·rw [if_pos c6] at H
    have c6b0 : decide (1 ≤ a1) = true := decide_eq_true c6
    clear c6
    by_cases c7 : a1 ≤ 1000000000
    ·rw [if_pos c7] at H
     have c7b0 : decide (a1 ≤ 1000000000) = true := decide_eq_true c7
     clear c7
     obtain rfl := Option.some.inj H
     go_enter Try.func41, Try.ntmps41
     go_wp2
     go_ret
     exact ⟨by first | rfl | (simp; done) | (simp [*]; done), by repeat (first | exact Drawn0.refl _ | apply Drawn0.step)⟩
    ·rw [if_neg c7] at H
     have c7b0 : decide (a1 ≤ 1000000000) = false := decide_eq_false c7
     clear c7
     obtain rfl := Option.some.inj H
     go_enter Try.func41, Try.ntmps41
     go_wp2
     go_ret
     exact ⟨by first | rfl | (simp; done) | (simp [*]; done), by repeat (first | exact Drawn0.refl _ | apply Drawn0.step)⟩
   ·rw [if_neg c6] at H
    have c6b0 : decide (1 ≤ a1) = false := decide_eq_false c6
    clear c6
    obtain rfl := Option.some.inj H
    go_enter Try.func41, Try.ntmps41
    go_wp2
    go_ret
    exact ⟨by first | rfl | (simp; done) | (simp [*]; done), by repeat (first | exact Drawn0.refl _ | apply Drawn0.step)⟩
  ·rw [if_neg c5] at H
   have c5b0 : decide (a0 ≤ 50) = false := decide_eq_false c5
   clear c5
   obtain rfl := Option.some.inj H
   go_enter Try.func41, Try.ntmps41
   go_wp2
   go_ret
   exact ⟨by first | rfl | (simp; done) | (simp [*]; done), by repeat (first | exact Drawn0.refl _ | apply Drawn0.step)⟩
 ·rw [if_neg c4] at H
  have c4b0 : decide (1 ≤ a0) = false := decide_eq_false c4
  clear c4
  obtain rfl := Option.some.inj H
  go_enter Try.func41, Try.ntmps41
  go_wp2
  go_ret
  exact ⟨by first | rfl | (simp; done) | (simp [*]; done), by repeat (first | exact Drawn0.refl _ | apply Drawn0.step)⟩

end Go.Proofs.Ytladodfapnigfaa.XFnExactDecodeState
