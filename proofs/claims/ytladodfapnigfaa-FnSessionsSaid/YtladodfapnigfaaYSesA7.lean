/- A7 -/
import Derived.Test.YtladodfapnigfaaYSesx0
import Derived.Test.YtladodfapnigfaaYSesx2
import Derived.Test.YtladodfapnigfaaYSesx7
import Derived.Deep.RegionHeld3
import Derived.Test.YtladodfapnigfaaYSesA4
import Derived.Test.YtladodfapnigfaaYSesA6
namespace Go.Proofs.Ytladodfapnigfaa.YSes
open Go.RowKit Go.Proofs.YtladodfapnigfaaW.PrintWords Go.Proofs.YtladodfapnigfaaW.PrintLast Go.Proofs.YtladodfapnigfaaW.PrintMore
attribute [local go_sem] max2_int min2_int max_two min_two max_three min_three max_four min_four
set_option linter.unusedVariables false
set_option linter.unusedSimpArgs false
/-- What take tells of a decoded item: the kept items, the sessions, the place and the code. -/
def takeOf (base : Int) (ks : List S24) (ss : List S74) (x : S24) : List S24 × List S74 × Int × Int :=
 let y := rd_T74 ss (cntS ss x.f0 : Nat)
 if thereS ss x.f0 = true ∧ (x.f1 < y.f1 ∨ (x.f1 = y.f1 ∧ bytes_Equal.f x.f2 y.f3 ≠ some true)) then (ks, ss, 0, 4)
 else if thereS ss x.f0 = true ∧ x.f1 = y.f1 then (ks, ss, y.f2, 0)
 else if 1000000 ≤ base + ks.length then (ks, ss, 0, 6)
 else (ks ++ [x], if thereS ss x.f0 = true then ss.set (cntS ss x.f0) ⟨x.f0, x.f1, base + ks.length, x.f2⟩ else ss.take (cntS ss x.f0) ++ ⟨x.f0, x.f1, base + ks.length, x.f2⟩ :: ss.drop (cntS ss x.f0), base + ks.length, 0)
def takeF (k : Nat) (base : Int) (ks : List S24) (ss : List S74) (b : List Int) : Option (List S24 × List S74 × Int × Int) :=
 if b = [] then some (ks, ss, 0, 0) else (impl_DecodeItem.f k b).map fun t => if t.2.2.2 = 0 then takeOf base ks ss ⟨t.1, t.2.1, t.2.2.1⟩ else (ks, ss, 0, 5)
/-- A row with one element set anew. -/
theorem S_of_set {α : Type} (d : Kd α) {e base : Nat} {W w' : World} {okS okD ok' : Nat → Prop} {V : Value} {l : List α} {x : α} {i : Nat} {seg xs : List Value} {f : Nat → Nat}
 (h0 : ∀ k, V.ownBlock = some k → okS k) (hr : Reps ((Kd.tag f d).M W base (fun k => okS k ∧ some k ≠ V.ownBlock)) d.sz l.zipIdx xs) (hi : i < l.length) (hM : d.M W base okD x seg) (hap : ∀ k, okD k → ¬ okS k)
 (ho' : w'.ownsRow base e d.sz V l.length (xs.take (i * d.sz) ++ seg ++ xs.drop ((i + 1) * d.sz))) (hsl : seg.length = d.sz) (hg : W.grownBy w' V.ownBlock)
 (h1 : ∀ k, okS k → ok' k) (h2 : ∀ k, okD k → ok' k) : Kd.S d e w' base ok' V (l.set i x) := by
 classical
 have hxl : xs.length = l.length * d.sz := by have := hr.1; rwa [List.length_zipIdx] at this
 have hil : i * d.sz + d.sz ≤ l.length * d.sz := by rw [← Nat.succ_mul]; exact Nat.mul_le_mul_right _ hi
 have hta : (xs.take (i * d.sz)).length = i * d.sz := by rw [List.length_take]; omega
 have hij : (i + 1) * d.sz = i * d.sz + d.sz := by rw [Nat.add_mul, Nat.one_mul]
 refine ⟨fun k => if okD k then i else f k, fun k hk => h1 k (h0 k hk), xs.take (i * d.sz) ++ seg ++ xs.drop ((i + 1) * d.sz), by rw [List.length_zipIdx, List.length_set]; exact ho', by rw [List.length_zipIdx, List.length_set]; exact ho'.1, fun j p hp => ?_⟩
 rw [List.getElem?_zipIdx] at hp
 obtain ⟨y, hj, rfl⟩ := Option.map_eq_some_iff.1 hp
 show d.M w' base (fun k => (ok' k ∧ some k ≠ V.ownBlock) ∧ (if okD k then i else f k) = 0 + j) y (((xs.take (i * d.sz) ++ seg ++ xs.drop ((i + 1) * d.sz)).drop (j * d.sz)).take d.sz)
 by_cases eji : j = i
 ·subst eji
  have hy : x = y := by rw [List.getElem?_set_self hi] at hj; exact Option.some.inj hj
  subst hy
  have e1 : ((xs.take (j * d.sz) ++ seg ++ xs.drop ((j + 1) * d.sz)).drop (j * d.sz)).take d.sz = seg := by
   rw [List.append_assoc, List.drop_left' hta, List.take_left' hsl]
  rw [e1]
  refine d.M_mono (fun k hk => ?_) (Kd.M_grown (d.M_bound hM) hg (fun k hk e2 => hap k hk.1 (h0 k e2.symm)))
  exact ⟨⟨h2 k hk.1, fun e2 => hap k hk.1 (h0 k e2.symm)⟩, by rw [if_pos hk.1, Nat.zero_add]⟩
 ·rw [List.getElem?_set_ne (fun e => eji e.symm)] at hj
  have hjl : j < l.length := (List.getElem?_eq_some_iff.1 hj).1
  have hm : d.M W base (fun k => (okS k ∧ some k ≠ V.ownBlock) ∧ f k = j) y ((xs.drop (j * d.sz)).take d.sz) := hr.2 j (y, j) (Kd.zip_at hj)
  have e1 : ((xs.take (i * d.sz) ++ seg ++ xs.drop ((i + 1) * d.sz)).drop (j * d.sz)).take d.sz = (xs.drop (j * d.sz)).take d.sz := by
   rcases Nat.lt_or_ge j i with hlt | hge
   ·have hjs : j * d.sz + d.sz ≤ i * d.sz := by rw [← Nat.succ_mul]; exact Nat.mul_le_mul_right _ hlt
    rw [List.append_assoc, List.drop_append_of_le_length (by omega), List.take_append_of_le_length (by rw [List.length_drop]; omega), List.drop_take, List.take_take, Nat.min_eq_left (by omega)]
   ·have hj1 : j * d.sz = (i * d.sz + d.sz) + (j - 1 - i) * d.sz := by
     rw [← hij, ← Nat.add_mul]; congr 1; omega
    have hlb : (xs.take (i * d.sz) ++ seg).length = i * d.sz + d.sz := by rw [List.length_append, hta, hsl]
    rw [hj1, ← List.drop_drop, List.drop_left' hlb, hij, List.drop_drop]
  rw [e1]
  refine d.M_mono (fun k hk => ?_) (Kd.M_grown (d.M_bound hm) hg (fun k hk => hk.1.1.2))
  obtain ⟨⟨⟨a1, a2⟩, a3⟩, _⟩ := hk
  exact ⟨⟨h1 k a1, a2⟩, by rw [if_neg (fun h => hap k h a1), a3, Nat.zero_add]⟩
/-- The four cells of a session stored into an owned row. -/
theorem set_sess {W : World} {base g cap n i : Nat} {xs : List Value} (h : W.ownsRow base 74 4 (.slice (some ⟨g, 0, none⟩) n cap) n xs) (hi : i < n) (a b c d : Value) :
 ((((W.setCell ⟨g, i * 4, none⟩ a).setCell ⟨g, i * 4 + 1, none⟩ b).setCell ⟨g, i * 4 + 2, none⟩ c).setCell ⟨g, i * 4 + 3, none⟩ d).ownsRow base 74 4 (.slice (some ⟨g, 0, none⟩) n cap) n (xs.take (i * 4) ++ [a, b, c, d] ++ xs.drop ((i + 1) * 4)) ∧ W.grownBy ((((W.setCell ⟨g, i * 4, none⟩ a).setCell ⟨g, i * 4 + 1, none⟩ b).setCell ⟨g, i * 4 + 2, none⟩ c).setCell ⟨g, i * 4 + 3, none⟩ d) (some g) := by
 rcases h.2 with ⟨e, _⟩ | ⟨g', cap', cur, e, h1, h2, h3, h4, h5, h6⟩
 ·cases e
 ·cases e
  have hxl := h.1
  refine ⟨⟨by simp only [List.length_append, List.length_take, List.length_drop, List.length_cons, List.length_nil, hxl]; omega, .inr ⟨g, cap, _, rfl, h1, blk_set (blk_set (blk_set (blk_set h2 _ _) _ _) _ _) _ _, h3, h4, by simp only [Array.size_setIfInBounds]; exact h5, ?_⟩⟩, ?_⟩
  ·apply List.ext_getElem?
   intro q
   have hx : ∀ q, q < n * 4 → xs[q]? = cur.toList[q]? := fun q hq => by rw [← h6, List.getElem?_take, if_pos hq]
   rw [List.getElem?_take]
   simp only [Array.toList_setIfInBounds]
   have hcl : cur.toList.length = cap * 4 := by simpa using h5
   have hq4 : q < i * 4 ∨ q = i * 4 ∨ q = i * 4 + 1 ∨ q = i * 4 + 2 ∨ q = i * 4 + 3 ∨ (i + 1) * 4 ≤ q := by omega
   rcases hq4 with hq | rfl | rfl | rfl | rfl | hq
   ·rw [if_pos (by omega), List.getElem?_set_ne (by omega), List.getElem?_set_ne (by omega), List.getElem?_set_ne (by omega), List.getElem?_set_ne (by omega), List.append_assoc, List.getElem?_append_left (by rw [List.length_take]; omega), List.getElem?_take, if_pos hq, hx q (by omega)]
   ·rw [if_pos (by omega), List.getElem?_set_ne (by omega), List.getElem?_set_ne (by omega), List.getElem?_set_ne (by omega), List.getElem?_set_self (by omega), List.append_assoc, List.getElem?_append_right (by rw [List.length_take]; omega), List.length_take, Nat.min_eq_left (by omega), Nat.sub_self]; rfl
   ·rw [if_pos (by omega), List.getElem?_set_ne (by omega), List.getElem?_set_ne (by omega), List.getElem?_set_self (by simp only [List.length_set]; omega), List.append_assoc, List.getElem?_append_right (by rw [List.length_take]; omega), List.length_take, Nat.min_eq_left (by omega), Nat.add_sub_cancel_left]; rfl
   ·rw [if_pos (by omega), List.getElem?_set_ne (by omega), List.getElem?_set_self (by simp only [List.length_set]; omega), List.append_assoc, List.getElem?_append_right (by rw [List.length_take]; omega), List.length_take, Nat.min_eq_left (by omega), Nat.add_sub_cancel_left]; rfl
   ·rw [if_pos (by omega), List.getElem?_set_self (by simp only [List.length_set]; omega), List.append_assoc, List.getElem?_append_right (by rw [List.length_take]; omega), List.length_take, Nat.min_eq_left (by omega), Nat.add_sub_cancel_left]; rfl
   ·rw [List.getElem?_set_ne (by omega), List.getElem?_set_ne (by omega), List.getElem?_set_ne (by omega), List.getElem?_set_ne (by omega), List.getElem?_append_right (by simp only [List.length_append, List.length_take, List.length_cons, List.length_nil]; omega), List.getElem?_drop]
    have e1 : (i + 1) * 4 + (q - (xs.take (i * 4) ++ [a, b, c, d]).length) = q := by simp only [List.length_append, List.length_take, List.length_cons, List.length_nil]; omega
    rw [e1]
    by_cases hqn : q < n * 4
    ·rw [if_pos hqn, hx q hqn]
    ·rw [if_neg hqn, List.getElem?_eq_none (by omega)]
  ·refine ⟨rfl, rfl, rfl, by simp [World.setCell], fun k _ hk => ?_⟩
   have hne : k ≠ g := fun e => hk (by rw [e])
   exact (((Below.heap_setCell _ _ _ _ hne).trans (Below.heap_setCell _ _ _ _ hne)).trans (Below.heap_setCell _ _ _ _ hne)).trans (Below.heap_setCell _ _ _ _ hne)
theorem keep4 {W : World} {gx b : Nat} {a c d : Value} {t : TypeId} (hne : gx ≠ b) (h : W.heap[gx]? = some (.cells #[a, c, d] t (0, 0))) (v0 v1 v2 v3 : Value) :
 ((((W.setCell ⟨b, 0, none⟩ v0).setCell ⟨b, 1, none⟩ v1).setCell ⟨b, 2, none⟩ v2).setCell ⟨b, 3, none⟩ v3).cell? ⟨gx, 0, none⟩ = some a ∧ ((((W.setCell ⟨b, 0, none⟩ v0).setCell ⟨b, 1, none⟩ v1).setCell ⟨b, 2, none⟩ v2).setCell ⟨b, 3, none⟩ v3).cell? ⟨gx, 1, none⟩ = some c ∧ ((((W.setCell ⟨b, 0, none⟩ v0).setCell ⟨b, 1, none⟩ v1).setCell ⟨b, 2, none⟩ v2).setCell ⟨b, 3, none⟩ v3).cell? ⟨gx, 2, none⟩ = some d := by
 have h4 := blk_far (p := ⟨b, 3, none⟩) (blk_far (p := ⟨b, 2, none⟩) (blk_far (p := ⟨b, 1, none⟩) (blk_far (p := ⟨b, 0, none⟩) h hne v0) hne v1) hne v2) hne v3
 exact ⟨blk_cell h4 0, blk_cell h4 1, blk_cell h4 2⟩
theorem addr_at (g k : Nat) : (⟨g, 0, none⟩ : Addr).add k = ⟨g, k, none⟩ := by unfold Addr.add; split <;> simp_all
theorem cell_far1 {W : World} {b g k : Nat} {v : Value} (hne : b ≠ g) (h : W.cell? ⟨b, k, none⟩ = some v) (a : Nat) (u : Value) : (W.setCell ⟨g, a, none⟩ u).cell? ⟨b, k, none⟩ = some v :=
 (World.cell?_of_block (Below.heap_setCell _ _ _ _ hne)).trans h
theorem cell_far4 {W : World} {b g k : Nat} {v : Value} (hne : b ≠ g) (h : W.cell? ⟨b, k, none⟩ = some v) (a0 a1 a2 a3 : Nat) (v0 v1 v2 v3 : Value) :
 ((((W.setCell ⟨g, a0, none⟩ v0).setCell ⟨g, a1, none⟩ v1).setCell ⟨g, a2, none⟩ v2).setCell ⟨g, a3, none⟩ v3).drew.cell? ⟨b, k, none⟩ = some v :=
 (World.cell?_drew ..).trans (cell_far1 hne (cell_far1 hne (cell_far1 hne (cell_far1 hne h _ _) _ _) _ _) _ _)
section told
variable {base : Int} {ks : List S24} {ss : List S74} {x : S24} {at_ : Nat} {y : S74}
theorem takeOf_exist (hat : at_ = cntS ss x.f0) (hth : true = thereS ss x.f0) (hy : y = rd_T74 ss (at_ : Int)) (h : x.f1 < y.f1 ∨ (x.f1 = y.f1 ∧ bytes_Equal.f x.f2 y.f3 ≠ some true)) : takeOf base ks ss x = (ks, ss, 0, 4) := by
 subst hat hy; unfold takeOf; exact if_pos ⟨hth.symm, h⟩
theorem takeOf_same (hat : at_ = cntS ss x.f0) (hth : true = thereS ss x.f0) (hy : y = rd_T74 ss (at_ : Int)) (h : x.f1 = y.f1) (h2 : bytes_Equal.f x.f2 y.f3 = some true) : takeOf base ks ss x = (ks, ss, y.f2, 0) := by
 subst hat hy; unfold takeOf
 refine (if_neg (fun hn => ?_)).trans (if_pos ⟨hth.symm, h⟩)
 rcases hn.2 with h3 | h3
 ·omega
 ·exact h3.2 h2
theorem takeOf_later (hat : at_ = cntS ss x.f0) (hth : true = thereS ss x.f0) (hy : y = rd_T74 ss (at_ : Int)) (h : ¬ x.f1 < y.f1) (h2 : ¬ x.f1 = y.f1) : takeOf base ks ss x = if (1000000 : Int) ≤ base + ks.length then (ks, ss, 0, 6) else (ks ++ [x], ss.set at_ ⟨x.f0, x.f1, base + ks.length, x.f2⟩, base + ks.length, 0) := by
 subst hat hy; unfold takeOf
 refine (if_neg (fun hn => ?_)).trans ((if_neg (fun hn => h2 hn.2)).trans ?_)
 ·rcases hn.2 with h3 | h3
  ·exact h h3
  ·exact h2 h3.1
 ·rw [← hth, if_pos rfl]
theorem takeOf_new (hat : at_ = cntS ss x.f0) (hth : false = thereS ss x.f0) : takeOf base ks ss x = if (1000000 : Int) ≤ base + ks.length then (ks, ss, 0, 6) else (ks ++ [x], ss.take at_ ++ ⟨x.f0, x.f1, base + ks.length, x.f2⟩ :: ss.drop at_, base + ks.length, 0) := by
 subst hat; unfold takeOf
 refine (if_neg (fun hn => ?_)).trans ((if_neg (fun hn => ?_)).trans ?_)
 ·rw [hn.1] at hth; cases hth
 ·rw [hn.1] at hth; cases hth
 ·rw [← hth]; rfl
end told
/-- A service behind a pointer. -/
def HeldS (w0 : World) (N gs : Nat) (base : Int) (A1 : Option Addr) (c1 : Nat) (ks : List S24) (A2 : Option Addr) (c2 : Nat) (ss : List S74) (okA okB : Nat → Prop) (w : World) : Prop :=
 w.heap[gs]? = some (.cells #[.int .i64 base, .slice A1 ks.length c1, .slice A2 ss.length c2] 48 (0, 0)) ∧ Kd.S k24 24 w w0.heap.size okA (.slice A1 ks.length c1) ks ∧ Kd.S k74 74 w w0.heap.size okB (.slice A2 ss.length c2) ss ∧ Below w0.heap.size w0 w ∧ N ≤ w.heap.size
/-- Its rows are apart, and of the blocks below N. -/
def ApartS (w0 : World) (N gs : Nat) (okA okB : Nat → Prop) : Prop := (∀ k, okA k → ¬ okB k) ∧ (∀ k, okA k → k < N) ∧ (∀ k, okB k → k < N) ∧ w0.heap.size ≤ gs ∧ gs < N
section held
variable {w0 w w' : World} {N gs : Nat} {base : Int} {A1 A2 : Option Addr} {c1 c2 : Nat} {ks : List S24} {ss : List S74} {okA okB : Nat → Prop}
theorem HeldS.below (h : HeldS w0 N gs base A1 c1 ks A2 c2 ss okA okB w) (hb : Below w.heap.size w w') : HeldS w0 N gs base A1 c1 ks A2 c2 ss okA okB w' :=
 ⟨blk_below h.1 hb, Kd.S_below h.2.1 hb, Kd.S_below h.2.2.1 hb, below_step h.2.2.2.1 hb, Nat.le_trans h.2.2.2.2 (below_size hb)⟩
theorem HeldS.set (h : HeldS w0 N gs base A1 c1 ks A2 c2 ss okA okB w) (ha : ApartS w0 N gs okA okB) {g : Nat} (hg : N ≤ g) (q : Nat) (u : Value) : HeldS w0 N gs base A1 c1 ks A2 c2 ss okA okB (w.setCell ⟨g, q, none⟩ u) := by
 obtain ⟨_, h1, h2, h3, h4⟩ := ha
 exact ⟨blk_far h.1 (by show gs ≠ g; omega) _, Kd.S_far h.2.1 (p := ⟨g, q, none⟩) (fun k hk => by have := h1 k hk; show k ≠ g; omega) _, Kd.S_far h.2.2.1 (p := ⟨g, q, none⟩) (fun k hk => by have := h2 k hk; show k ≠ g; omega) _, below_set h.2.2.2.1 (by omega), by have := h.2.2.2.2; simpa [World.setCell] using this⟩
theorem HeldS.cell (h : HeldS w0 N gs base A1 c1 ks A2 c2 ss okA okB w) : w.cell? ⟨gs, 0, none⟩ = some (.int .i64 base) ∧ w.cell? ⟨gs, 1, none⟩ = some (.slice A1 ks.length c1) ∧ w.cell? ⟨gs, 2, none⟩ = some (.slice A2 ss.length c2) ∧ w.frozen? ⟨gs, 0, none⟩ = false ∧ w.frozen? ⟨gs, 1, none⟩ = false ∧ w.frozen? ⟨gs, 2, none⟩ = false :=
 ⟨blk_cell h.1 0, blk_cell h.1 1, blk_cell h.1 2, blk_frozen h.1 0, blk_frozen h.1 1, blk_frozen h.1 2⟩
end held
theorem insertAt.calls (w0 wc W : World) (N M gs gx at_ : Nat) (base : Int) (A1 : Option Addr) (c1 : Nat) (ks : List S24) (A2 : Option Addr) (c2 : Nat) (ss : List S74) (x : S74) (okA okB : Nat → Prop) (dz dx : Value) (a c : Value) (xd : List Int)
 (hBa : Below wc.heap.size wc W) (HH : HeldS w0 N gs base A1 c1 ks A2 c2 ss okA okB wc) (HA : ApartS w0 N gs okA okB) (hNM : N ≤ M) (hM : M ≤ wc.heap.size) (hat : at_ ≤ ss.length) (hsl : ss.length ≤ 1000000)
 (hv : W.heap[wc.heap.size]? = some (.cells #[.int .i64 x.f0, .int .i64 x.f1, .int .i64 x.f2, dz] 74 (0, 0))) (HRz : Kd.R (Kd.int .u8) 5 wc w0.heap.size (fun k => M ≤ k) dz x.f3)
 (HKX : wc.heap[gx]? = some (.cells #[a, c, dx] 24 (0, 0))) (HRx : Kd.R (Kd.int .u8) 5 wc w0.heap.size (fun k => N ≤ k ∧ k < M) dx xd) :
 Calls Try.prog 82 #[.slice A2 ss.length c2, .int .i64 (at_ : Int), .slice (some ⟨wc.heap.size, 0, none⟩) 1 1] W fun e wi => ∃ A2' c2', e = .returned (.slice A2' (ss.take at_ ++ x :: ss.drop at_).length c2') ∧ wi.heap[gs]? = some (.cells #[.int .i64 base, .slice A1 ks.length c1, .slice A2 ss.length c2] 48 (0, 0)) ∧ Kd.S k24 24 wi w0.heap.size okA (.slice A1 ks.length c1) ks ∧ Kd.S k74 74 wi w0.heap.size (fun k => okB k ∨ M ≤ k) (.slice A2' (ss.take at_ ++ x :: ss.drop at_).length c2') (ss.take at_ ++ x :: ss.drop at_) ∧ Below w0.heap.size w0 wi ∧ wi.heap[gx]? = some (.cells #[a, c, dx] 24 (0, 0)) ∧ Kd.R (Kd.int .u8) 5 wi w0.heap.size (fun k => N ≤ k ∧ k < M) dx xd ∧ M ≤ wi.heap.size := by
 obtain ⟨a1, a2, a3, a4, a5⟩ := HA
 have hNw := HH.2.2.2.2
 have hSB := Kd.S_below HH.2.2.1 hBa
 refine (insertOne.calls W w0.heap.size (.slice A2 ss.length c2) ss x at_ wc.heap.size dz okB (fun k => M ≤ k) (fun k => okB k ∨ M ≤ k) hSB (Nat.le_trans (below_size HH.2.2.2.1) (below_size hBa)) hat (by omega) hv (fun h => by have := a3 _ h; omega) (Kd.R_below HRz hBa) (fun k h1 h2 => by have := a3 _ h2; omega) (fun _ h => .inl h) (fun _ h => .inr h) (.inr (Nat.le_trans hM (below_size hBa)))).mono ?_
 rintro e wi ⟨V', rfl, hS, hg, hat'⟩
 obtain ⟨A2', c2', rfl⟩ := Kd.S_slice hS
 have hown : ∀ k, (Value.slice A2 ss.length c2).ownBlock = some k → okB k := (Kd.S_R hSB).1
 refine ⟨A2', c2', rfl, blk_grown (blk_below HH.1 hBa) hg (Kd.S_ne hSB (blk_below HH.1 hBa) (by decide)), Kd.S_grown (Kd.S_below HH.2.1 hBa) hg (fun k hk e => a1 k hk (hown k e.symm)), hS, (below_step HH.2.2.2.1 hBa).grown hg (Nat.le_trans (below_size HH.2.2.2.1) (below_size hBa)) (fun k hk => Kd.S_base hSB k hk), blk_grown (blk_below HKX hBa) hg (Kd.S_ne hSB (blk_below HKX hBa) (by decide)), Kd.R_grown (Kd.R_below HRx hBa) hg (fun k hk e => by have := a3 _ (hown k e.symm); omega), Nat.le_trans (Nat.le_trans hM (below_size hBa)) hg.size⟩
/-- A session of the held row set anew, and what else was held then. -/
def SetAt (w0 : World) (N M gs gx at_ : Nat) (base : Int) (A1 : Option Addr) (c1 : Nat) (ks : List S24) (A2 : Option Addr) (c2 : Nat) (ss : List S74) (okA okB : Nat → Prop) (dx : Value) (a c : Value) (xd : List Int) (wi : World) : Prop :=
 wi.heap[gs]? = some (.cells #[.int .i64 base, .slice A1 ks.length c1, .slice A2 ss.length c2] 48 (0, 0)) ∧ Kd.S k24 24 wi w0.heap.size okA (.slice A1 ks.length c1) ks ∧ Kd.S k74 74 wi w0.heap.size (fun k => okB k ∨ M ≤ k) (.slice A2 ss.length c2) ss ∧ Below w0.heap.size w0 wi ∧ wi.heap[gx]? = some (.cells #[a, c, dx] 24 (0, 0)) ∧ Kd.R (Kd.int .u8) 5 wi w0.heap.size (fun k => N ≤ k ∧ k < M) dx xd ∧ M ≤ wi.heap.size
theorem SetAt.drew {w0 wi : World} {N M gs gx at_ : Nat} {base : Int} {A1 : Option Addr} {c1 : Nat} {ks : List S24} {A2 : Option Addr} {c2 : Nat} {ss : List S74} {okA okB : Nat → Prop} {dx : Value} {a c : Value} {xd : List Int} (h : SetAt w0 N M gs gx at_ base A1 c1 ks A2 c2 ss okA okB dx a c xd wi) : SetAt w0 N M gs gx at_ base A1 c1 ks A2 c2 ss okA okB dx a c xd wi.drew :=
 ⟨blk_drew h.1, Kd.S_drew h.2.1, Kd.S_drew h.2.2.1, below_drew1 h.2.2.2.1, blk_drew h.2.2.2.2.1, Kd.R_drew h.2.2.2.2.2.1, h.2.2.2.2.2.2⟩
theorem setAt_of (w0 wc : World) (N M gs gx at_ : Nat) (base : Int) (A1 : Option Addr) (c1 : Nat) (ks : List S24) (g c2 : Nat) (ss : List S74) (x : S74) (okA okB : Nat → Prop) (dz dx : Value) (a c : Value) (xd : List Int)
 (HH : HeldS w0 N gs base A1 c1 ks (some ⟨g, 0, none⟩) c2 ss okA okB wc) (HA : ApartS w0 N gs okA okB) (hNM : N ≤ M) (hM : M ≤ wc.heap.size) (hat : at_ < ss.length)
 (HRz : Kd.R (Kd.int .u8) 5 wc w0.heap.size (fun k => M ≤ k) dz x.f3)
 (HKX : wc.heap[gx]? = some (.cells #[a, c, dx] 24 (0, 0))) (HRx : Kd.R (Kd.int .u8) 5 wc w0.heap.size (fun k => N ≤ k ∧ k < M) dx xd) :
 SetAt w0 N M gs gx at_ base A1 c1 ks (some ⟨g, 0, none⟩) c2 (ss.set at_ x) okA okB dx a c xd ((((wc.setCell ⟨g, at_ * 4, none⟩ (.int .i64 x.f0)).setCell ⟨g, at_ * 4 + 1, none⟩ (.int .i64 x.f1)).setCell ⟨g, at_ * 4 + 2, none⟩ (.int .i64 x.f2)).setCell ⟨g, at_ * 4 + 3, none⟩ dz) := by
 obtain ⟨a1, a2, a3, a4, a5⟩ := HA
 obtain ⟨h1, h2, h3, h4, h5⟩ := HH
 have hown : okB g := (Kd.S_R h3).1 g rfl
 have hS := h3
 obtain ⟨f, f0, xs, ho, hr⟩ := hS
 rw [List.length_zipIdx] at ho
 obtain ⟨hset, hg⟩ := set_sess ho hat (.int .i64 x.f0) (.int .i64 x.f1) (.int .i64 x.f2) dz
 have hM' := k74_mkM wc w0.heap.size (fun k => M ≤ k) x HRz
 have hap : ∀ k, M ≤ k → ¬ okB k := fun k h hk => by have := a3 _ hk; omega
 generalize ((((wc.setCell ⟨g, at_ * 4, none⟩ (.int .i64 x.f0)).setCell ⟨g, at_ * 4 + 1, none⟩ (.int .i64 x.f1)).setCell ⟨g, at_ * 4 + 2, none⟩ (.int .i64 x.f2)).setCell ⟨g, at_ * 4 + 3, none⟩ dz) = wi at hset hg ⊢
 have hlen : (ss.set at_ x).length = ss.length := List.length_set
 unfold SetAt
 rw [hlen]
 refine ⟨blk_grown h1 hg (fun e => ?_), Kd.S_grown h2 hg (fun k hk e => ?_), ?_, h4.grown hg (below_size h4) (fun k hk => ?_), blk_grown HKX hg (fun e => ?_), Kd.R_grown HRx hg (fun k hk e => ?_), Nat.le_trans hM hg.size⟩
 ·have := Kd.S_ne h3 h1 (by decide)
  exact this e
 ·cases e; exact a1 _ hk hown
 ·exact S_of_set k74 f0 hr hat hM' hap hset rfl hg (fun _ h => .inl h) (fun _ h => .inr h)
 ·cases hk; exact Kd.S_base h3 g rfl
 ·have := Kd.S_ne h3 HKX (by decide)
  exact this e
 ·cases e; have := a3 _ hown; omega
/-- append of an item to the held items, in a region that draws. -/
theorem keptAppend {ops : Array Oper} {o : Oper} {a : Act} {Q : Exit → Act → World → Prop} {Kc : Act → World → Prop} (w0 wd : World) (N M gs gx : Nat) (base : Int) (A1 : Option Addr) (c1 : Nat) (ks : List S24) (A2 : Option Addr) (c2 : Nat) (ss : List S74) (okA okB : Nat → Prop) (Ad : Option Addr) (cD : Nat) (x0 x1 : Int) (xd : List Int)
 (hS : SetAt w0 N M gs gx 0 base A1 c1 ks A2 c2 ss okA okB (.slice Ad xd.length cD) (.int .i64 x0) (.int .i64 x1) xd wd) (HA : ApartS w0 N gs okA okB) (hNM : N ≤ M) (hkl : ks.length ≤ 1000000)
 (ho : o.op = .call { callee := .builtin .append, args := #[.tmp 106, .tmp 108], argTypes := #[45, 45] }) (hw : Region.wanted o (yielded ops a.tmps) = true) (hs : a.eval (.tmp 106) = .slice A1 ks.length c1) (hx : a.eval (.tmp 108) = .slice (some ⟨wd.heap.size, 0, none⟩) 1 1)
 (h : ∀ A1' c1' w1, w1.heap[gs]? = some (.cells #[.int .i64 base, .slice A1 ks.length c1, .slice A2 ss.length c2] 48 (0, 0)) →
  Kd.S k24 24 w1 w0.heap.size (fun k => okA k ∨ (N ≤ k ∧ k < M) ∨ wd.heap.size ≤ k) (.slice A1' (ks ++ [(⟨x0, x1, xd⟩ : S24)]).length c1') (ks ++ [(⟨x0, x1, xd⟩ : S24)]) →
  Kd.S k74 74 w1 w0.heap.size (fun k => (okB k ∨ M ≤ k) ∧ k < wd.heap.size) (.slice A2 ss.length c2) ss → Below w0.heap.size w0 w1 → Kc (a.put o.dst (.slice A1' (ks ++ [(⟨x0, x1, xd⟩ : S24)]).length c1')) w1) :
 if Region.wanted o (yielded ops a.tmps) = true then Oper.wp Try.prog o a ((wd.alloc (.cells #[.int .i64 x0, .int .i64 x1, .slice Ad xd.length cD] 24 (0, 0))).drew) Kc Q else Kc (a.put o.dst undef) ((wd.alloc (.cells #[.int .i64 x0, .int .i64 x1, .slice Ad xd.length cD] 24 (0, 0))).drew) := by
 obtain ⟨s1, s2, s3, s4, s5, s6, s7⟩ := hS
 obtain ⟨a1, a2, a3, a4, a5⟩ := HA
 have hdr : Below wd.heap.size wd wd.drew := below_drew1 (Below.refl _ _)
 refine Kd.S_append_step (P := Try.prog) (o := o) (a := a) (ops := ops) (Q := Q) (Kc := Kc) k24 (w0 := w0) (W := wd.drew) w0.heap.size hw (.tmp 106) (.tmp 108) 45 24 (.agg #[(.int .i64 0), (.int .i64 0), (.slice none 0 0)]) 40 ho Try.underlying45 info24 rfl (by decide) (by omega) (.slice A1 ks.length c1) ks (⟨x0, x1, xd⟩ : S24) [.int .i64 x0, .int .i64 x1, .slice Ad xd.length cD] (fun k => okA k ∨ (N ≤ k ∧ k < M) ∨ wd.heap.size ≤ k) (fun k => N ≤ k ∧ k < M) hs hx
  (k24_mkM _ _ _ (⟨x0, x1, xd⟩ : S24) (Kd.R_drew s6))
  (fun k hk => ⟨.inr (.inl hk), fun e => by have := a2 k ((Kd.S_R s2).1 k e.symm); omega⟩) (fun k hk => .inr (.inr hk))
  (Kd.S_drew (Kd.S_mono s2 (fun k hk => ⟨.inl hk, fun h => by have := a2 k hk; omega⟩))) (below_drew1 s4) (below_size (below_drew1 s4)) (by omega) ?_
 intro v1 w1 ho hb hg hat
 obtain ⟨A1', c1', rfl⟩ := Kd.S_slice ho
 refine h A1' c1' w1 (blk_grown (w := wd.drew) s1 hg (Kd.S_ne s2 s1 (by decide))) ho ?_ hb
 refine Kd.S_mono (Kd.S_bound (Kd.S_grown (w := wd.drew) (Kd.S_drew (Kd.S_mono (Kd.S_bound s3) (ok' := fun k => (okB k ∨ M ≤ k) ∧ k < wd.heap.size) (fun k hk => ⟨hk.1, hk.2.2.1⟩))) hg (fun k hk e => ?_))) (fun k hk => hk.1)
 have hkA := a2 _ ((Kd.S_R s2).1 k e.symm)
 rcases hk.1 with hk1 | hk1
 ·exact a1 _ ((Kd.S_R s2).1 k e.symm) hk1
 ·omega

end Go.Proofs.Ytladodfapnigfaa.YSes
