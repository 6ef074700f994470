/- Contracts of the functions that Ses comes to, each proved over the translation. Written by this session's program xprint.py; the parts between 'BY HAND' rows are typed by hand. Conditions: each theorem's own hypotheses. -/
import Derived.Test.YtladodfapnigfaaYSesx0
import Derived.Test.YtladodfapnigfaaYSesx1
import Derived.Test.YtladodfapnigfaaYSesx4
namespace Go.Proofs.Ytladodfapnigfaa.YSes
open Go.RowKit Go.Proofs.YtladodfapnigfaaW.PrintWords Go.Proofs.YtladodfapnigfaaW.PrintLast Go.Proofs.YtladodfapnigfaaW.PrintMore
attribute [local go_sem] max2_int min2_int max_two min_two max_three min_three max_four min_four   -- for this text's walks alone
set_option linter.unusedVariables false
set_option linter.unusedSimpArgs false

/-! ### impl_DecodeState: function 29 · BY HAND -/
/-! The reader's step: what it tells, what is left, is all well. -/
def head8 (l : List Int) : Int := Go.Proofs.Ytladodfapnigfaa.Num.val (l.take 8)
def nextF (l : List Int) (ok : Bool) (most : Int) : Int × List Int × Bool := if l.length < 8 then (0, l, false) else if most < head8 l then (0, l, false) else (head8 l, l.drop 8, ok)
theorem ds_unlittle_l0 (x : List Int) (hb : Go.Proofs.Ytladodfapnigfaa.Num.Bytes x) (hx : x.length ≤ 8) : ∀ (j k : Nat), j ≤ x.length → j < k →
 impl_unlittle.l0 k x (Go.Proofs.Ytladodfapnigfaa.Num.val (x.drop j)) ((j : Int) - 1) = some (Go.Proofs.Ytladodfapnigfaa.Num.val x) := by
 intro j
 induction j with
 | zero =>
  intro k hj hk
  obtain ⟨k, rfl⟩ : ∃ m, k = m + 1 := ⟨k - 1, by omega⟩
  rw [impl_unlittle.l0, if_neg (by omega), List.drop_zero]
 | succ j ih =>
  intro k hj hk
  obtain ⟨k, rfl⟩ : ∃ m, k = m + 1 := ⟨k - 1, by omega⟩
  have hr := Go.Proofs.Ytladodfapnigfaa.Num.val_le (hb.drop (j + 1)) (n := 7) (by simp; omega)
  have hg := hb.get j (by omega)
  rw [show ((j + 1 : Nat) : Int) - 1 = (j : Int) by omega, impl_unlittle.l0, if_pos (by omega), if_pos (by omega), if_pos (by omega), Go.Proofs.Ytladodfapnigfaa.Num.rd_get x j (by omega), Go.Proofs.Ytladodfapnigfaa.Num.or_byte _ _ hr.1 (by have := hr.2; omega) hg.1 hg.2, ← Go.Proofs.Ytladodfapnigfaa.Num.val_drop x j (by omega), Go.Proofs.Ytladodfapnigfaa.Num.w64 (by omega) (by omega)]
  exact ih k (by omega) (by omega)
theorem ds_unlittle (x : List Int) (hb : Go.Proofs.Ytladodfapnigfaa.Num.Bytes x) (hx : x.length ≤ 8) : impl_unlittle.f 9 x = some (Go.Proofs.Ytladodfapnigfaa.Num.val x) := by
 unfold impl_unlittle.f
 have h := ds_unlittle_l0 x hb hx x.length 9 (Nat.le_refl _) (by omega)
 rw [List.drop_of_length_le (Nat.le_refl _)] at h
 rw [Go.Proofs.Ytladodfapnigfaa.Num.w64 (by omega) (by omega)]
 exact h
theorem head8_range (l : List Int) (hb : Go.Proofs.Ytladodfapnigfaa.Num.Bytes l) : 0 ≤ head8 l ∧ head8 l < 18446744073709551616 := by
 have h := Go.Proofs.Ytladodfapnigfaa.Num.val_le (hb.take 8) (n := 8) (by simp; omega)
 exact ⟨h.1, by have := h.2; unfold head8; omega⟩
def NextAt (w0 : World) (g4 g5 : Nat) (l : List Int) (ok : Bool) (W : World) : Prop :=
 ∃ A c, W.heap[g4]? = some (.cells #[.slice A l.length c] 22 (0, 0)) ∧ l.length ≤ c ∧ Kd.C (Kd.int .u8) w0 A l.length l ∧ W.heap[g5]? = some (.cells #[.bool ok] 4 (0, 0))
theorem NextAt.below {w0 : World} {g4 g5 : Nat} {l : List Int} {ok : Bool} {W W' : World} (h : NextAt w0 g4 g5 l ok W) (hb : Below W.heap.size W W') : NextAt w0 g4 g5 l ok W' := by
 obtain ⟨A, c, h1, h2, h3, h4⟩ := h
 exact ⟨A, c, blk_below h1 hb, h2, h3, blk_below h4 hb⟩
theorem NextAt.kept {w0 : World} {g4 g5 : Nat} {l : List Int} {ok : Bool} {W W' : World} {S : Nat → Prop} (h : NextAt w0 g4 g5 l ok W) (hk : Kept W W' S) (h4 : ¬ S g4) (h5 : ¬ S g5) : NextAt w0 g4 g5 l ok W' := by
 obtain ⟨A, c, h1, h2, h3, h6⟩ := h
 exact ⟨A, c, blk_kept h1 hk h4, h2, h3, blk_kept h6 hk h5⟩
def NextTells (w0 : World) (g4 g5 : Nat) (r : Int × List Int × Bool) (w : World) (e : Ending) (w' : World) : Prop :=
 e = .returned (.int .i64 r.1) ∧ NextAt w0 g4 g5 r.2.1 r.2.2 w' ∧ Below w0.heap.size w0 w' ∧ Kept w w' (fun k => k = g4 ∨ k = g5)
set_option maxHeartbeats 8000000 in
set_option maxRecDepth 100000 in
theorem nextState.calls (w0 : World) (g4 g5 : Nat) (hne : g4 ≠ g5) (hg4 : w0.heap.size ≤ g4) (hg5 : w0.heap.size ≤ g5) (most : Int) (hm : 0 ≤ most) (hmm : most ≤ 2000000000) (l : List Int) (hl : l.length ≤ 16777216) (ok : Bool) (w : World)
 (hS : NextAt w0 g4 g5 l ok w) (hB : Below w0.heap.size w0 w) (hb : Go.Proofs.Ytladodfapnigfaa.Num.Bytes l) :
 Calls Try.prog 60 #[.int .u64 most, .pointer (some ⟨g4, 0, none⟩), .pointer (some ⟨g5, 0, none⟩)] w (NextTells w0 g4 g5 (nextF l ok most) w) := by
 obtain ⟨A, c, h4, hc, hC, h5⟩ := hS
 have HC := Aside0.mk hC
 have HCc := Aside0.mk hc
 have H4 := Aside0.mk h4
 have H5 := Aside0.mk h5
 have HB := Aside0.mk hB
 have HBy := Aside0.mk hb
 have HG := Aside0.mk (And.intro hne (And.intro hg4 hg5))
 have HM := Aside0.mk (And.intro hm hmm)
 have HL := Aside0.mk hl
 have k4 : w.cell? ⟨g4, 0, none⟩ = some (.slice A l.length c) := blk_cell h4 0
 have k5 : w.cell? ⟨g5, 0, none⟩ = some (.bool ok) := blk_cell h5 0
 have f4 := blk_frozen h4 0
 have f5 := blk_frozen h5 0
 clear hC hc h4 h5 hB hb hne hg4 hg5 hm hmm hl
 by_cases c8 : l.length < 8
 ·have e : nextF l ok most = (0, l, false) := if_pos c8
  rw [e]
  clear e
  have t8 : decide ((l.length : Int) < 8) = true := decide_eq_true (by omega)
  have t8n : decide (l.length < 8) = true := decide_eq_true c8
  clear c8
  go_enter Try.func60, Try.ntmps60
  go_wp2
  go_ret
  refine ⟨rfl, ⟨A, c, ?_, HCc.out, HC.out, ?_⟩, below_set HB.out HG.out.2.2, Kept.setCell (Kept.refl _ _) (.inl (.inr rfl)) _⟩
  ·exact blk_far H4.out HG.out.1 _
  ·exact blk_put H5.out 0 _ rfl
 ·have t8 : decide ((l.length : Int) < 8) = false := decide_eq_false (by omega)
  have t8n : decide (l.length < 8) = false := decide_eq_false c8
  obtain ⟨i0, hi0, _, hsz0, _⟩ := info_parts info5
  have hcut := cut_to (P := Try.prog) 22 5 .i64 Try.underlying22 hi0 A l.length c 8 (by omega) (by omega) HCc.out
  have hcut2 := cut_from (P := Try.prog) 22 5 .i64 Try.underlying22 hi0 1 hsz0 A l.length c 8 (by omega) (by omega)
  have hTk : (l.take 8).length = 8 := by rw [List.length_take]; omega
  have HTC := Aside0.mk (show Kd.C (Kd.int .u8) w0 A (l.take 8).length (l.take 8) from Kd.C_take HC.out (by omega))
  obtain ⟨A', hA'⟩ : ∃ A', A' = (if c = (8 : Int).toNat then A else A.map (·.add ((8 : Int).toNat * 1))) := ⟨_, rfl⟩
  have HDC := Aside0.mk (show Kd.C (Kd.int .u8) w0 A' (l.drop 8).length (l.drop 8) from by rw [hA']; exact Kd.C_drop (m := 8) (c := c) HC.out (by omega) HCc.out)
  obtain ⟨n', hn'⟩ : ∃ n, n = (l.drop 8).length := ⟨_, rfl⟩
  obtain ⟨c', hc'⟩ : ∃ x, x = c - (8 : Int).toNat := ⟨_, rfl⟩
  rw [← hA', show l.length - (8 : Int).toNat = n' by rw [hn', List.length_drop]; rfl, ← hc'] at hcut2
  have HNC := Aside0.mk (And.intro hn' hc')
  clear hA' hn' hc'
  have HUN := Aside0.mk (ds_unlittle (l.take 8) (HBy.out.take 8) (by omega))
  have HRG := Aside0.mk (head8_range l HBy.out)
  have HTK := Aside0.mk hTk
  have HC8 := Aside0.mk c8
  have HT8c := Aside0.mk (show (8 : Nat) ≤ c by have := HCc.out; omega)
  clear hTk c8 hi0 hsz0
  go_enter Try.func60, Try.ntmps60
  go_wp2_with fail
  refine (calls_of_args (show _ = #[.slice A (l.take 8).length c] by rw [HTK.out]) (impl_unlittle.calls 9 A c (l.take 8) _ _ (Kd.C_below HTC.out HB.out) (by have := HTK.out; have := HT8c.out; omega) HUN.out)).mono ?_
  rintro e w1 ⟨rfl, ⟨nd, rfl⟩⟩
  by_cases cm : most < head8 l
  ·have e : nextF l ok most = (0, l, false) := by unfold nextF; rw [if_neg HC8.out, if_pos cm]
   have HE := Aside0.mk e
   clear e
   have tm : decide (most < Go.Proofs.Ytladodfapnigfaa.Num.val (l.take 8)) = true := decide_eq_true cm
   clear cm
   go_wp2
   go_ret
   rw [HE.out]
   refine ⟨rfl, ⟨A, c, ?_, HCc.out, HC.out, ?_⟩, below_set (pw_below_drewN HB.out nd) HG.out.2.2, Kept.setCell (Kept.drewN (Kept.refl _ _) nd) (.inl (.inr rfl)) _⟩
   ·exact blk_far (blk_drewN H4.out nd) HG.out.1 _
   ·exact blk_put (blk_drewN H5.out nd) 0 _ rfl
  ·have e : nextF l ok most = (head8 l, l.drop 8, ok) := by unfold nextF; rw [if_neg HC8.out, if_neg cm]
   have HE := Aside0.mk e
   clear e
   have tm : decide (most < Go.Proofs.Ytladodfapnigfaa.Num.val (l.take 8)) = false := decide_eq_false cm
   have HV := Aside0.mk (show wrap64 (Go.Proofs.Ytladodfapnigfaa.Num.val (l.take 8)) = head8 l from Go.Proofs.Ytladodfapnigfaa.Num.w64 (by have := HRG.out.1; unfold head8 at this; omega) (by have := HM.out.2; unfold head8 at cm; omega))
   clear cm
   go_wp2_with fail
   refine (calls_of_args (show _ = #[.slice A (l.take 8).length c] by rw [HTK.out]) (impl_unlittle.calls 9 A c (l.take 8) _ _ (Kd.C_below HTC.out (pw_below_drewN HB.out nd)) (by have := HTK.out; have := HT8c.out; omega) HUN.out)).mono ?_
   rintro e w1 ⟨rfl, ⟨nd2, rfl⟩⟩
   go_wp2
   go_ret
   rw [HE.out, ← HV.out]
   refine ⟨rfl, ⟨A', c', ?_, ?_, HDC.out, ?_⟩, below_set (pw_below_drewN HB.out _) HG.out.2.1, Kept.setCell (Kept.drewN (Kept.refl _ _) _) (.inl (.inl rfl)) _⟩
   ·rw [← HNC.out.1]
    exact blk_put (blk_drewN H4.out _) 0 _ rfl
   ·rw [HNC.out.2, List.length_drop]
    have := HCc.out
    show l.length - 8 ≤ c - 8
    omega
   ·exact blk_far (blk_drewN H5.out _) (Ne.symm HG.out.1) _
/-! ### the whole reader -/
def Good (l : List Int) : Prop := Go.Proofs.Ytladodfapnigfaa.Num.Bytes l ∧ l.length ≤ 16777216
theorem nextF_good {l : List Int} {ok : Bool} {m : Int} (h : Good l) : Good (nextF l ok m).2.1 := by
 unfold nextF
 split
 ·exact h
 ·split
  ·exact h
  ·exact ⟨h.1.drop 8, by have := h.2; show (l.drop 8).length ≤ _; rw [List.length_drop]; omega⟩
theorem nextF_range {l : List Int} {ok : Bool} {m : Int} (h : Good l) (hm : 0 ≤ m) : 0 ≤ (nextF l ok m).1 ∧ (nextF l ok m).1 ≤ m := by
 unfold nextF
 split
 ·exact ⟨Int.le_refl 0, hm⟩
 ·split
  ·exact ⟨Int.le_refl 0, hm⟩
  ·exact ⟨(head8_range l h.1).1, by show head8 l ≤ m; omega⟩
def DsInv (w0 : World) (g2 g4 g5 g7 : Nat) (okS : Nat → Prop) (base : Int) (l : List Int) (ok : Bool) (v : Value) (ss : List S74) (W : World) : Prop :=
 NextAt w0 g4 g5 l ok W ∧ W.heap[g2]? = some (.cells #[.int .i64 0, .slice none 0 0, .slice none 0 0] 48 (0, 0)) ∧ W.heap[g7]? = some (.cells #[.int .i64 base, .slice none 0 0, v] 48 (0, 0)) ∧ Kd.S k74 74 W w0.heap.size okS v ss ∧ Below w0.heap.size w0 W
def DsG (w0 : World) (g2 g4 g5 : Nat) : Prop := w0.heap.size ≤ g2 ∧ g2 < g4 ∧ g4 < g5
theorem S_two {w : World} {base : Nat} {okS : Nat → Prop} {v : Value} {ss : List S74} {g4 g5 : Nat} {c4 c5 : Array Value} {W' : World} (h : Kd.S k74 74 w base okS v ss)
 (h4 : w.heap[g4]? = some (.cells c4 22 (0, 0))) (h5 : w.heap[g5]? = some (.cells c5 4 (0, 0))) (hk : Kept w W' (fun k => k = g4 ∨ k = g5)) : Kd.S k74 74 W' base okS v ss :=
 Kd.S_mono (Kd.S_kept (Kd.S_types (Kd.S_types h h4 (by decide)) h5 (by decide)) hk (fun k h e => e.elim h.1.2 h.2)) (fun k h => h.1.1)
theorem DsInv.next {w0 : World} {g2 g4 g5 g7 : Nat} {okS : Nat → Prop} {base : Int} {l : List Int} {ok : Bool} {v : Value} {ss : List S74} {r : Int × List Int × Bool} {w w' : World} (h : DsInv w0 g2 g4 g5 g7 okS base l ok v ss w) (hG : DsG w0 g2 g4 g5) (h7 : g5 < g7)
 (hn : NextAt w0 g4 g5 r.2.1 r.2.2 w') (hb : Below w0.heap.size w0 w') (hk : Kept w w' (fun k => k = g4 ∨ k = g5)) : DsInv w0 g2 g4 g5 g7 okS base r.2.1 r.2.2 v ss w' := by
 obtain ⟨⟨A, c, h4, hc, hC, h5⟩, h2, h7', hS, hB⟩ := h
 obtain ⟨_, _, _⟩ := hG
 exact ⟨hn, blk_kept h2 hk (by omega), blk_kept h7' hk (by omega), S_two hS h4 h5 hk, hb⟩
theorem DsInv.below {w0 : World} {g2 g4 g5 g7 : Nat} {okS : Nat → Prop} {base : Int} {l : List Int} {ok : Bool} {v : Value} {ss : List S74} {w w' : World} (h : DsInv w0 g2 g4 g5 g7 okS base l ok v ss w) (hb : Below w.heap.size w w') : DsInv w0 g2 g4 g5 g7 okS base l ok v ss w' :=
 ⟨h.1.below hb, blk_below h.2.1 hb, blk_below h.2.2.1 hb, Kd.S_below h.2.2.2.1 hb, below_step h.2.2.2.2 hb⟩
theorem DsInv.free {w0 : World} {g2 g4 g5 g7 : Nat} {okS : Nat → Prop} {base : Int} {l : List Int} {ok : Bool} {v : Value} {ss : List S74} {w : World} (h : DsInv w0 g2 g4 g5 g7 okS base l ok v ss w) : DsInv w0 g2 g4 g5 g7 (fun _ => True) base l ok v ss w :=
 ⟨h.1, h.2.1, h.2.2.1, Kd.S_mono h.2.2.2.1 (fun _ _ => trivial), h.2.2.2.2⟩
theorem DsInv.old {w0 : World} {g2 g4 g5 g7 : Nat} {okS : Nat → Prop} {base : Int} {l : List Int} {ok : Bool} {v : Value} {ss : List S74} {w : World} (h : DsInv w0 g2 g4 g5 g7 okS base l ok v ss w) : DsInv w0 g2 g4 g5 g7 (fun k => k < w.heap.size) base l ok v ss w :=
 ⟨h.1, h.2.1, h.2.2.1, Kd.S_mono (Kd.S_bound h.2.2.2.1) (fun _ hk => hk.2.2.1), h.2.2.2.2⟩
theorem DsInv.oldN {w0 : World} {g2 g4 g5 g7 : Nat} {okS : Nat → Prop} {base : Int} {l : List Int} {ok : Bool} {v : Value} {ss : List S74} {w : World} (h : DsInv w0 g2 g4 g5 g7 okS base l ok v ss w) : ∃ N, N ≤ w.heap.size ∧ g5 < N ∧ w0.heap.size ≤ N ∧ DsInv w0 g2 g4 g5 g7 (fun k => k < N) base l ok v ss w :=
 ⟨w.heap.size, Nat.le_refl _, blk_lt h.1.choose_spec.choose_spec.2.2.2, h.2.2.2.2.size, h.old⟩
theorem DsInv.fall {w0 : World} {g2 g4 g5 g7 : Nat} {okS : Nat → Prop} {base : Int} {l : List Int} {ok : Bool} {v : Value} {ss : List S74} {w : World} (h : DsInv w0 g2 g4 g5 g7 okS base l ok v ss w) (hG : DsG w0 g2 g4 g5) (h7 : g5 < g7) : DsInv w0 g2 g4 g5 g7 okS base l false v ss (w.setCell ⟨g5, 0, none⟩ (.bool false)) := by
 obtain ⟨⟨A, c, h4, hc, hC, h5⟩, h2, h7', hS, hB⟩ := h
 obtain ⟨_, _, _⟩ := hG
 exact ⟨⟨A, c, blk_far h4 (by show g4 ≠ g5; omega) _, hc, hC, blk_put h5 0 _ rfl⟩, blk_far h2 (by show g2 ≠ g5; omega) _, blk_far h7' (by show g7 ≠ g5; omega) _, Kd.S_set hS h5 (by decide) 0 _, below_set hB (by omega)⟩
theorem DsInv.push {w0 : World} {g2 g4 g5 g7 : Nat} {okS : Nat → Prop} {base : Int} {l : List Int} {ok : Bool} {v v1 : Value} {ss ss1 : List S74} {w w1 : World} (h : DsInv w0 g2 g4 g5 g7 okS base l ok v ss w) (hG : DsG w0 g2 g4 g5) (h7 : g5 < g7)
 (hS1 : Kd.S k74 74 w1 w0.heap.size (fun _ => True) v1 ss1) (hb : Below w0.heap.size w0 w1) (hg : w.grownBy w1 v.ownBlock) : DsInv w0 g2 g4 g5 g7 (fun _ => True) base l ok v1 ss1 (w1.setCell ⟨g7, 2, none⟩ v1) := by
 obtain ⟨⟨A, c, h4, hc, hC, h5⟩, h2, h7', hS, hB⟩ := h
 obtain ⟨_, _, _⟩ := hG
 have b7 := blk_grown h7' hg (Kd.S_ne hS h7' (by decide))
 exact ⟨⟨A, c, blk_far (blk_grown h4 hg (Kd.S_ne hS h4 (by decide))) (by show g4 ≠ g7; omega) _, hc, hC, blk_far (blk_grown h5 hg (Kd.S_ne hS h5 (by decide))) (by show g5 ≠ g7; omega) _⟩, blk_far (blk_grown h2 hg (Kd.S_ne hS h2 (by decide))) (by show g2 ≠ g7; omega) _, blk_put b7 2 _ rfl, Kd.S_set hS1 b7 (by decide) 2 _, below_set hb (by omega)⟩

theorem DsInv.cut {w0 : World} {g2 g4 g5 g7 g9 : Nat} {okS : Nat → Prop} {base : Int} {l l' : List Int} {ok : Bool} {v : Value} {ss : List S74} {w : World} (h : DsInv w0 g2 g4 g5 g7 okS base l ok v ss w) (hG : DsG w0 g2 g4 g5) (h7 : g5 < g7) {a b c x d : Value}
 (h9 : w.heap[g9]? = some (.cells #[a, b, c, x] 74 (0, 0))) (h59 : g5 < g9) (hN : ∀ k, okS k → k ≠ g9) {A' : Option Addr} {c' : Nat} (hC' : Kd.C (Kd.int .u8) w0 A' l'.length l') (hc' : l'.length ≤ c') :
 DsInv w0 g2 g4 g5 g7 okS base l' ok v ss ((w.setCell ⟨g9, 3, none⟩ d).setCell ⟨g4, 0, none⟩ (.slice A' l'.length c')) ∧ ((w.setCell ⟨g9, 3, none⟩ d).setCell ⟨g4, 0, none⟩ (.slice A' l'.length c')).heap[g9]? = some (.cells #[a, b, c, d] 74 (0, 0)) := by
 obtain ⟨⟨A, cc, h4, hc, hC, h5⟩, h2, h7', hS, hB⟩ := h
 obtain ⟨_, _, _⟩ := hG
 have n27 := blk_ne h7' h9 (by decide)
 have n29 := blk_ne h2 h9 (by decide)
 have b4 := blk_far (p := ⟨g9, 3, none⟩) h4 (by show g4 ≠ g9; omega) d
 have b9 := blk_put (cs' := #[a, b, c, d]) h9 3 d rfl
 refine ⟨⟨⟨A', c', blk_put b4 0 _ rfl, hc', hC', blk_far (blk_far h5 (by show g5 ≠ g9; omega) _) (by show g5 ≠ g4; omega) _⟩, blk_far (blk_far h2 n29 _) (by show g2 ≠ g4; omega) _, blk_far (blk_far h7' n27 _) (by show g7 ≠ g4; omega) _, ?_, below_set (below_set hB (by omega)) (by omega)⟩, blk_far b9 (by show g9 ≠ g4; omega) _⟩
 exact Kd.S_set (Kd.S_far hS (p := ⟨g9, 3, none⟩) (fun k hk => hN k hk) d) b4 (by decide) 0 _
def dsLoop : Nat → List Int → List S74 → List Int × Bool × List S74
 | 0, l, ss => (l, true, ss)
 | n + 1, l, ss =>
  let p1 := nextF l true 50
  let p2 := nextF p1.2.1 p1.2.2 1000000000
  let p3 := nextF p2.2.1 p2.2.2 2000000
  let p4 := nextF p3.2.1 p3.2.2 64
  if p4.2.2 = true ∧ p4.1 ≤ (p4.2.1.length : Int) then dsLoop n (p4.2.1.drop p4.1.toNat) (ss ++ [⟨p1.1, p2.1, p3.1, p4.2.1.take p4.1.toNat⟩])
  else (p4.2.1, false, ss ++ [⟨p1.1, p2.1, p3.1, []⟩])
def dsGo (n : Nat) (l : List Int) (ok : Bool) (ss : List S74) : List Int × Bool × List S74 := if ok = true then dsLoop n l ss else (l, false, ss)
def dsBase (b : List Int) : Int × List Int × Bool := nextF b true 2000000
def dsCount (b : List Int) : Int × List Int × Bool := nextF (dsBase b).2.1 (dsBase b).2.2 50
def dsRun (b : List Int) : List Int × Bool × List S74 := dsGo (dsCount b).1.toNat (dsCount b).2.1 (dsCount b).2.2 []
def dsTell (b : List Int) (valid : Bool) : Int × List S74 × Int := if (dsRun b).2.1 = true ∧ (dsRun b).1 = [] ∧ valid = true then ((dsBase b).1, (dsRun b).2.2, 0) else (0, [], 5)
def DsTells (w0 : World) (r : Int × List S74 × Int) (e : Ending) (w' : World) : Prop := ∃ v, e = .returned (.tuple #[.agg #[.int .i64 r.1, .slice none 0 0, v], .int .i64 r.2.2]) ∧ Kd.S k74 74 w' w0.heap.size (fun _ => True) v r.2.1 ∧ Below w0.heap.size w0 w'
set_option maxHeartbeats 8000000 in
set_option maxRecDepth 100000 in
theorem decodeState.calls (k : Nat) (A0 : Option Addr) (c0 : Nat) (l0 : List Int) (w : World) (hr0 : Kd.C (Kd.int .u8) w A0 l0.length l0) (hc0 : l0.length ≤ c0) (hg : Good l0) (valid : Bool) (hv : impl_Service_valid.f k (dsBase l0).1 [] (dsRun l0).2.2 = some valid) :
 Calls Try.prog 29 #[.slice A0 l0.length c0] w (DsTells w (dsTell l0 valid)) := by
 have hu48 := Try.underlying48
 have hu74 := Try.underlying74
 have HR0 := Aside0.mk hr0
 have HC0 := Aside0.mk hc0
 have HGd := Aside0.mk hg
 have HV := Aside0.mk hv
 clear hr0 hc0 hg hv
 have hmf : ∀ (fn : Fn) (first cap : Array Value) (w : World), (Instr.makeFunc fn first cap).run Try.prog w = .ok (.func fn first cap) w := fun _ _ _ _ => rfl
 go_enter Try.func29, Try.ntmps29
 go_wp2_with ((with_reducible refine gate_dst (N := 2) rfl ?_); refine box_event ?hg (N := 2) ?hd (cs := #[.int .i64 0, .slice none 0 0, .slice none 0 0]) (t := 48) ?hr ?_; (case hd => rfl); (case hg => rfl); (case hr => first | (go_simp; done) | (go_simp; rfl)); intro g2 hg2 w2 bk2 hb2; have HG2 := Aside0.mk hg2; have BK2 := Aside0.mk bk2; have HB := Aside0.mk hb2; clear hg2 bk2 hb2)
 obtain ⟨g4, hg4⟩ : ∃ g, g = w2.heap.size := ⟨_, rfl⟩
 obtain ⟨g5, hg5⟩ : ∃ g, g = w2.heap.size + 1 := ⟨_, rfl⟩
 have e1 : (w2.alloc (Obj.cells #[.slice A0 l0.length c0] 22)).heap.size = w2.heap.size + 1 := Array.size_push _
 have b4 : ((w2.alloc (Obj.cells #[.slice A0 l0.length c0] 22)).alloc (Obj.cells #[.bool true] 4)).heap[g4]? = some (.cells #[.slice A0 l0.length c0] 22 (0, 0)) := by rw [hg4]; exact blk_alloc (blk_new w2 _) _
 have b5 : ((w2.alloc (Obj.cells #[.slice A0 l0.length c0] 22)).alloc (Obj.cells #[.bool true] 4)).heap[g5]? = some (.cells #[.bool true] 4 (0, 0)) := by rw [hg5, ← e1]; exact blk_new _ _
 have b2 := blk_alloc (blk_alloc BK2.out (.cells #[.slice A0 l0.length c0] 22 (0, 0))) (.cells #[.bool true] 4 (0, 0))
 have bB := below_alloc (below_alloc HB.out (.cells #[.slice A0 l0.length c0] 22 (0, 0))) (.cells #[.bool true] 4 (0, 0))
 have hG : DsG w g2 g4 g5 := ⟨by rw [HG2.out]; exact Nat.le_refl _, by rw [hg4]; exact blk_lt BK2.out, by omega⟩
 rw [← hg5, ← hg4]
 obtain ⟨w5, hw5⟩ : ∃ W, W = ((w2.alloc (Obj.cells #[.slice A0 l0.length c0] 22)).alloc (Obj.cells #[.bool true] 4)) := ⟨_, rfl⟩
 rw [← hw5] at b4 b5 b2 bB ⊢
 have HG := Aside0.mk hG
 have HN := Aside0.mk (show NextAt w g4 g5 l0 true w5 from ⟨A0, c0, b4, HC0.out, HR0.out, b5⟩)
 clear BK2 HB
 have BK2 := Aside0.mk b2
 have HB := Aside0.mk bB
 clear hg4 hg5 e1 b4 b5 b2 bB hG hw5 HG2 w2
 have hne : g4 ≠ g5 := by have := HG.out.2.2; omega
 have h4le : w.heap.size ≤ g4 := by have := HG.out.1; have := HG.out.2.1; omega
 have h5le : w.heap.size ≤ g5 := by have := HG.out.2.2; omega
 have HNE := Aside0.mk (And.intro hne (And.intro h4le h5le))
 clear hne h4le h5le
 refine (nextState.calls w g4 g5 HNE.out.1 HNE.out.2.1 HNE.out.2.2 2000000 (by omega) (by omega) l0 HGd.out.2 true _ HN.out HB.out HGd.out.1).mono ?_
 rintro e w6 ⟨rfl, hn, hb, hk⟩
 have b2 := blk_kept BK2.out hk (by have := HG.out; unfold DsG at this; omega)
 rw [show nextF l0 true 2000000 = dsBase l0 from rfl] at hn ⊢
 clear BK2 HB HN
 have HN := Aside0.mk hn
 have HB := Aside0.mk hb
 have BK2 := Aside0.mk b2
 clear hn hb hk b2
 go_wp2_with fail
 obtain ⟨g7, hg7⟩ : ∃ g, g = w6.heap.size := ⟨_, rfl⟩
 have b7 : (w6.alloc (Obj.cells #[.int .i64 (dsBase l0).1, .slice none 0 0, .slice none 0 0] 48)).heap[g7]? = some (.cells #[.int .i64 (dsBase l0).1, .slice none 0 0, .slice none 0 0] 48 (0, 0)) := by rw [hg7]; exact blk_new _ _
 have bl : Below w6.heap.size w6 (w6.alloc (Obj.cells #[.int .i64 (dsBase l0).1, .slice none 0 0, .slice none 0 0] 48)) := below_alloc (Below.refl _ _) _
 have h57 : g5 < g7 := by obtain ⟨_, _, _, _, _, h5⟩ := HN.out; rw [hg7]; exact blk_lt h5
 rw [← hg7]
 obtain ⟨w7, hw7⟩ : ∃ W, W = (w6.alloc (Obj.cells #[.int .i64 (dsBase l0).1, .slice none 0 0, .slice none 0 0] 48)) := ⟨_, rfl⟩
 rw [← hw7] at b7 bl ⊢
 have HI := Aside0.mk (show DsInv w g2 g4 g5 g7 (fun _ => True) (dsBase l0).1 (dsBase l0).2.1 (dsBase l0).2.2 (.slice none 0 0) [] w7 from ⟨HN.out.below bl, blk_below BK2.out bl, b7, Kd.S_nil _ _ _ _ _, below_step HB.out bl⟩)
 have H57 := Aside0.mk h57
 have HGd1 := Aside0.mk (show Good (dsBase l0).2.1 from nextF_good HGd.out)
 clear hg7 b7 bl h57 hw7 HN BK2 HB w6
 refine (nextState.calls w g4 g5 HNE.out.1 HNE.out.2.1 HNE.out.2.2 50 (by omega) (by omega) (dsBase l0).2.1 HGd1.out.2 (dsBase l0).2.2 _ HI.out.1 HI.out.2.2.2.2 HGd1.out.1).mono ?_
 rintro e w8 ⟨rfl, hn, hb, hk⟩
 have HI2 := Aside0.mk (HI.out.next HG.out H57.out hn hb hk)
 clear HI hn hb hk
 have HI := HI2
 clear HI2
 rw [show nextF (dsBase l0).2.1 (dsBase l0).2.2 50 = dsCount l0 from rfl] at HI ⊢
 have HGd2 := Aside0.mk (show Good (dsCount l0).2.1 from nextF_good HGd1.out)
 have HRG := Aside0.mk (show 0 ≤ (dsCount l0).1 ∧ (dsCount l0).1 ≤ 50 from nextF_range HGd1.out (by omega))
 obtain ⟨n0, hn0⟩ : ∃ n : Nat, (dsCount l0).1 = (n : Int) := ⟨(dsCount l0).1.toNat, by have := HRG.out; omega⟩
 have HRun := Aside0.mk (show dsGo n0 (dsCount l0).2.1 (dsCount l0).2.2 [] = dsRun l0 by unfold dsRun; rw [hn0]; rfl)
 have HN50 := Aside0.mk (show n0 ≤ 50 by have := HRG.out; omega)
 rw [hn0]
 clear hn0 HRG HGd1
 obtain ⟨R, hR⟩ : ∃ R, R = dsRun l0 := ⟨_, rfl⟩
 rw [← hR] at HRun
 have HR := Aside0.mk hR
 clear hR
 go_wp2_with fail
 go_loopg [8] n0 (fun gk v8 W => ∃ (n : Nat) (l : List Int) (ok : Bool) (v : Value) (ss : List S74), v8 = .int .i64 (n : Nat) ∧ Aside0 (dsGo n l ok ss = R) ∧ Aside0 (gk = n) ∧ Aside0 (ss.length + n ≤ 50) ∧ Aside0 (Good l) ∧ Aside0 (DsInv w g2 g4 g5 g7 (fun _ => True) (dsBase l0).1 l ok v ss W))
 case atStart => exact ⟨n0, _, _, _, [], rfl, HRun, ⟨rfl⟩, ⟨by have := HN50.out; simp; omega⟩, HGd2, HI⟩
 case round =>
  obtain ⟨n, l, ok, v, ss, rfl, HRn, HGk, HLen, HGl, HIn⟩ := hrel
  clear HRun HGd2 HI
  by_cases hcont : n ≠ 0 ∧ ok = true
  ·obtain ⟨hn, rfl⟩ := hcont
   obtain ⟨m, rfl⟩ : ∃ m, n = m + 1 := ⟨n - 1, by omega⟩
   obtain ⟨k1, hk1⟩ : ∃ q, gk = q + 1 := ⟨gk - 1, by have := HGk.out; omega⟩
   subst hk1
   obtain ⟨N, hN, hN5, hN0, hI⟩ := HIn.out.oldN
   have HI := Aside0.mk hI
   have HN := Aside0.mk hN
   have HN5 := Aside0.mk (And.intro hN5 hN0)
   clear hI hN hN5 hN0 hn
   have t0 : decide (((m + 1 : Nat) : Int) > 0) = true := decide_eq_true (by omega)
   have t0n : decide (0 < m + 1) = true := decide_eq_true (by omega)
   obtain ⟨A, c, h4, hc, hC, h5⟩ := HIn.out.1
   have k4 := blk_cell h4 0
   have k5 := blk_cell h5 0
   have f4 := blk_frozen h4 0
   have f5 := blk_frozen h5 0
   have k20 := blk_cell HIn.out.2.1 0
   have k21 := blk_cell HIn.out.2.1 1
   have k22 := blk_cell HIn.out.2.1 2
   have f20 := blk_frozen HIn.out.2.1 0
   have f21 := blk_frozen HIn.out.2.1 1
   have f22 := blk_frozen HIn.out.2.1 2
   have k70 := blk_cell HIn.out.2.2.1 0
   have k71 := blk_cell HIn.out.2.2.1 1
   have k72 := blk_cell HIn.out.2.2.1 2
   have f70 := blk_frozen HIn.out.2.2.1 0
   have f71 := blk_frozen HIn.out.2.2.1 1
   have f72 := blk_frozen HIn.out.2.2.1 2
   clear h4 hc hC h5
   clear HIn
   go_wp2_with fail
   clear k4 k5 f4 f5 k20 k21 k22 f20 f21 f22 k70 k71 k72 f70 f71 f72
   refine (nextState.calls w g4 g5 HNE.out.1 HNE.out.2.1 HNE.out.2.2 50 (by omega) (by omega) l HGl.out.2 true _ HI.out.1 HI.out.2.2.2.2 HGl.out.1).mono ?_
   rintro e wn ⟨rfl, hn, hb, hk⟩
   have HI2 := Aside0.mk (HI.out.next HG.out H57.out hn hb hk)
   have HN2 := Aside0.mk (show N ≤ wn.heap.size from Nat.le_trans HN.out hk.1)
   clear HI HN hn hb hk
   have HI := HI2
   have HN := HN2
   clear HI2 HN2
   obtain ⟨p1, ep1⟩ : ∃ p, p = nextF l true 50 := ⟨_, rfl⟩
   rw [← ep1] at HI ⊢
   have Gp1 := Aside0.mk (show Good p1.2.1 by rw [ep1]; exact nextF_good HGl.out)
   have Ep1 := Aside0.mk ep1
   clear ep1
   go_wp2_with fail
   refine (nextState.calls w g4 g5 HNE.out.1 HNE.out.2.1 HNE.out.2.2 1000000000 (by omega) (by omega) p1.2.1 Gp1.out.2 p1.2.2 _ HI.out.1 HI.out.2.2.2.2 Gp1.out.1).mono ?_
   rintro e wn ⟨rfl, hn, hb, hk⟩
   have HI2 := Aside0.mk (HI.out.next HG.out H57.out hn hb hk)
   have HN2 := Aside0.mk (show N ≤ wn.heap.size from Nat.le_trans HN.out hk.1)
   clear HI HN hn hb hk
   have HI := HI2
   have HN := HN2
   clear HI2 HN2
   obtain ⟨p2, ep2⟩ : ∃ p, p = nextF p1.2.1 p1.2.2 1000000000 := ⟨_, rfl⟩
   rw [← ep2] at HI ⊢
   have Gp2 := Aside0.mk (show Good p2.2.1 by rw [ep2]; exact nextF_good Gp1.out)
   have Ep2 := Aside0.mk ep2
   clear ep2
   go_wp2_with fail
   refine (nextState.calls w g4 g5 HNE.out.1 HNE.out.2.1 HNE.out.2.2 2000000 (by omega) (by omega) p2.2.1 Gp2.out.2 p2.2.2 _ HI.out.1 HI.out.2.2.2.2 Gp2.out.1).mono ?_
   rintro e wn ⟨rfl, hn, hb, hk⟩
   have HI2 := Aside0.mk (HI.out.next HG.out H57.out hn hb hk)
   have HN2 := Aside0.mk (show N ≤ wn.heap.size from Nat.le_trans HN.out hk.1)
   clear HI HN hn hb hk
   have HI := HI2
   have HN := HN2
   clear HI2 HN2
   obtain ⟨p3, ep3⟩ : ∃ p, p = nextF p2.2.1 p2.2.2 2000000 := ⟨_, rfl⟩
   rw [← ep3] at HI ⊢
   have Gp3 := Aside0.mk (show Good p3.2.1 by rw [ep3]; exact nextF_good Gp2.out)
   have Ep3 := Aside0.mk ep3
   clear ep3
   go_wp2_with fail
   obtain ⟨g9, hg9⟩ : ∃ g, g = wn.heap.size := ⟨_, rfl⟩
   have b9 : (wn.alloc (Obj.cells #[.int .i64 p1.1, .int .i64 p2.1, .int .i64 p3.1, .slice none 0 0] 74)).heap[g9]? = some (.cells #[.int .i64 p1.1, .int .i64 p2.1, .int .i64 p3.1, .slice none 0 0] 74 (0, 0)) := by rw [hg9]; exact blk_new _ _
   have bl : Below wn.heap.size wn (wn.alloc (Obj.cells #[.int .i64 p1.1, .int .i64 p2.1, .int .i64 p3.1, .slice none 0 0] 74)) := below_alloc (Below.refl _ _) _
   have hN9 : N ≤ g9 := by rw [hg9]; exact HN.out
   rw [← hg9]
   obtain ⟨wm, hwm⟩ : ∃ W, W = (wn.alloc (Obj.cells #[.int .i64 p1.1, .int .i64 p2.1, .int .i64 p3.1, .slice none 0 0] 74)) := ⟨_, rfl⟩
   rw [← hwm] at b9 bl ⊢
   have HI2 := Aside0.mk (HI.out.below bl)
   have HN2 := Aside0.mk (show N ≤ wm.heap.size from Nat.le_trans HN.out bl.size)
   have HN9 := Aside0.mk hN9
   have BK9 := Aside0.mk b9
   clear HI HN hg9 b9 bl hN9 hwm wn
   have HI := HI2
   have HN := HN2
   clear HI2 HN2
   refine (nextState.calls w g4 g5 HNE.out.1 HNE.out.2.1 HNE.out.2.2 64 (by omega) (by omega) p3.2.1 Gp3.out.2 p3.2.2 _ HI.out.1 HI.out.2.2.2.2 Gp3.out.1).mono ?_
   rintro e wn ⟨rfl, hn, hb, hk⟩
   have HI2 := Aside0.mk (HI.out.next HG.out H57.out hn hb hk)
   have HN2 := Aside0.mk (show N ≤ wn.heap.size from Nat.le_trans HN.out hk.1)
   have b9 := blk_kept BK9.out hk (by have := HN9.out; have := HN5.out; have := HG.out; unfold DsG at this; omega)
   clear BK9
   have BK9 := Aside0.mk b9
   clear b9
   clear HI HN hn hb hk
   have HI := HI2
   have HN := HN2
   clear HI2 HN2
   obtain ⟨p4, ep4⟩ : ∃ p, p = nextF p3.2.1 p3.2.2 64 := ⟨_, rfl⟩
   rw [← ep4] at HI ⊢
   have Gp4 := Aside0.mk (show Good p4.2.1 by rw [ep4]; exact nextF_good Gp3.out)
   have Ep4 := Aside0.mk ep4
   clear ep4
   by_cases hz : (p4.2.1.length : Int) < p4.1
   ·have tz : decide ((p4.2.1.length : Int) < p4.1) = true := decide_eq_true hz
    have HW := Aside0.mk (show ¬ (p4.2.2 = true ∧ p4.1 ≤ (p4.2.1.length : Int)) from fun h => by have := h.2; omega)
    clear hz
    obtain ⟨A, c, h4, hc, hC, h5⟩ := HI.out.1
    have k4 := blk_cell h4 0
    have k5 := blk_cell h5 0
    have f4 := blk_frozen h4 0
    have f5 := blk_frozen h5 0
    have k20 := blk_cell HI.out.2.1 0
    have k21 := blk_cell HI.out.2.1 1
    have k22 := blk_cell HI.out.2.1 2
    have f20 := blk_frozen HI.out.2.1 0
    have f21 := blk_frozen HI.out.2.1 1
    have f22 := blk_frozen HI.out.2.1 2
    have k70 := blk_cell HI.out.2.2.1 0
    have k71 := blk_cell HI.out.2.2.1 1
    have k72 := blk_cell HI.out.2.2.1 2
    have f70 := blk_frozen HI.out.2.2.1 0
    have f71 := blk_frozen HI.out.2.2.1 1
    have f72 := blk_frozen HI.out.2.2.1 2
    clear h4 hc hC h5
    go_upto_region 14 with fail
    clear k4 k5 f4 f5 k20 k21 k22 f20 f21 f22 k70 k71 k72 f70 f71 f72
    have HI2 := Aside0.mk (HI.out.fall HG.out H57.out)
    have b9 := blk_far BK9.out (p := ⟨g5, 0, none⟩) (by have := HN9.out; have := HN5.out; show g9 ≠ g5; omega) (.bool false)
    obtain ⟨wp, hwp⟩ : ∃ W, W = wn.setCell ⟨g5, 0, none⟩ (.bool false) := ⟨_, rfl⟩
    rw [← hwp] at HI2 b9 ⊢
    clear HI BK9 HN
    have HI := HI2
    have BK9 := Aside0.mk b9
    clear HI2 b9 hwp
    have HQ := Aside0.mk (show dsGo m p4.2.1 false (ss ++ [⟨p1.1, p2.1, p3.1, []⟩]) = R by rw [← HRn.out]; show _ = dsLoop (m + 1) l ss; rw [dsLoop]; simp only [← Ep1.out, ← Ep2.out, ← Ep3.out, ← Ep4.out]; rw [if_neg HW.out]; rfl)
    have HD := Aside0.mk (show Kd.R (Kd.int .u8) 5 wp w.heap.size (fun k => N ≤ k) (.slice none 0 0) ([] : List Int) from Kd.R_nil _ _ _ _ _)
    obtain ⟨A, c, h4, hc, hC, h5⟩ := HI.out.1
    have k4 := blk_cell h4 0
    have k5 := blk_cell h5 0
    have f4 := blk_frozen h4 0
    have f5 := blk_frozen h5 0
    have k20 := blk_cell HI.out.2.1 0
    have k21 := blk_cell HI.out.2.1 1
    have k22 := blk_cell HI.out.2.1 2
    have f20 := blk_frozen HI.out.2.1 0
    have f21 := blk_frozen HI.out.2.1 1
    have f22 := blk_frozen HI.out.2.1 2
    have k70 := blk_cell HI.out.2.2.1 0
    have k71 := blk_cell HI.out.2.2.1 1
    have k72 := blk_cell HI.out.2.2.1 2
    have f70 := blk_frozen HI.out.2.2.1 0
    have f71 := blk_frozen HI.out.2.2.1 1
    have f72 := blk_frozen HI.out.2.2.1 2
    clear h4 hc hC h5
    have k90 := blk_cell BK9.out 0
    have k91 := blk_cell BK9.out 1
    have k92 := blk_cell BK9.out 2
    have k93 := blk_cell BK9.out 3
    have f90 := blk_frozen BK9.out 0
    have f91 := blk_frozen BK9.out 1
    have f92 := blk_frozen BK9.out 2
    have f93 := blk_frozen BK9.out 3
    obtain ⟨As, cs, es⟩ := Kd.S_slice HI.out.2.2.2.1
    subst es
    go_wp2_with ((with_reducible refine gate_builtin (b := .append) (xs := #[.tmp 48, .tmp 50]) rfl ?_); at_builtin; refine Kd.S_append k74 (w0 := w) w.heap.size rfl (.tmp 48) (.tmp 50) 46 74 (.agg #[(.int .i64 0), (.int .i64 0), (.int .i64 0), (.slice none 0 0)]) 48 rfl Try.underlying46 info74 rfl (by decide) (by omega) (.slice As ss.length cs) ss (⟨p1.1, p2.1, p3.1, []⟩ : S74) [.int .i64 p1.1, .int .i64 p2.1, .int .i64 p3.1, .slice none 0 0] (fun _ => True) (fun k_ => some k_ = (.slice none 0 0 : Value).ownBlock) rfl rfl ?aP ?aN ?aF ?aO ?aB ?aS ?aL ?_; (case aP => exact k74_mkM _ _ _ (⟨p1.1, p2.1, p3.1, []⟩ : S74) (Kd.R_mono (Kd.R_tight rfl HD.out) (fun _ h_ => h_))); (case aN => exact fun k_ hk_ => ⟨trivial, fun e_ => by have h1 := HD.out.1 k_ hk_.symm; have h2 := (Kd.S_R HI.out.2.2.2.1).1 k_ e_.symm; exact absurd h2 (by omega)⟩); (case aF => exact fun _ _ => trivial); (case aO => exact Kd.S_mono HI.out.2.2.2.1 (fun k_ hk => ⟨trivial, fun e_ => by have h1 := HD.out.1 k_ e_.symm; omega⟩)); (case aB => exact HI.out.2.2.2.2); (case aS => exact below_size HI.out.2.2.2.2); (case aL => have := HLen.out; omega); intro v1 wf ho hb hg hat; obtain ⟨An, cn, en⟩ := Kd.S_slice ho; subst en; have HP := Aside0.mk (HI.out.push HG.out H57.out ho hb hg); simp only [List.length_append, List.length_cons, List.length_nil, Nat.zero_add] at HP; have k7n := blk_grown HI.out.2.2.1 hg (Kd.S_ne HI.out.2.2.2.1 HI.out.2.2.1 (by decide)); have f7n := blk_frozen k7n 2; have k72n := blk_cell k7n 2; clear k72 f72 k7n ho hb hg hat)
    go_roundg k1
    case measure => omega
    case rel => exact ⟨m, p4.2.1, false, _, _, by first | go_num | (congr 1; rw [Go.Proofs.Ytladodfapnigfaa.Num.w64 (by have := HLen.out; omega) (by have := HLen.out; omega)]; try omega), HQ, ⟨by have := HGk.out; omega⟩, ⟨by have := HLen.out; rw [List.length_append]; show ss.length + 1 + m ≤ 50; omega⟩, Gp4, HP⟩
   ·have tz : decide ((p4.2.1.length : Int) < p4.1) = false := decide_eq_false hz
    by_cases ho4 : p4.2.2 = true
    ·have HI3 := HI
     rw [ho4] at HI3
     obtain ⟨A, c, h4, hc, hC, h5⟩ := HI3.out.1
     have hz0 : 0 ≤ p4.1 := by rw [Ep4.out]; exact (nextF_range Gp3.out (by omega)).1
     have hzl : p4.1 ≤ (p4.2.1.length : Int) := by omega
     have HW := Aside0.mk (show p4.2.2 = true ∧ p4.1 ≤ (p4.2.1.length : Int) from ⟨ho4, hzl⟩)
     clear HI
     have HI := HI3
     clear HI3
     obtain ⟨i0, hi0, _, hsz0, _⟩ := info_parts info5
     have hcut := cut_to (P := Try.prog) 22 5 .i64 Try.underlying22 hi0 A p4.2.1.length c p4.1 hz0 hzl hc
     have hcut2 := cut_from (P := Try.prog) 22 5 .i64 Try.underlying22 hi0 1 hsz0 A p4.2.1.length c p4.1 hz0 hzl
     obtain ⟨A', hA'⟩ : ∃ A', A' = (if c = p4.1.toNat then A else A.map (·.add (p4.1.toNat * 1))) := ⟨_, rfl⟩
     obtain ⟨c', hc'⟩ : ∃ x, x = c - p4.1.toNat := ⟨_, rfl⟩
     obtain ⟨L', hL'⟩ : ∃ x, x = p4.2.1.drop p4.1.toNat := ⟨_, rfl⟩
     obtain ⟨D, hD⟩ : ∃ x, x = p4.2.1.take p4.1.toNat := ⟨_, rfl⟩
     have hDl : D.length = p4.1.toNat := by rw [hD, List.length_take]; omega
     have HDC := Aside0.mk (show Kd.C (Kd.int .u8) w A' L'.length L' from by rw [hA', hL']; exact Kd.C_drop (m := p4.1.toNat) (c := c) hC (by omega) hc)
     have HDc := Aside0.mk (show L'.length ≤ c' from by rw [hL', hc', List.length_drop]; omega)
     have HTC := Aside0.mk (show Kd.C (Kd.int .u8) w A D.length D from by rw [hD]; exact Kd.C_take hC (by omega))
     have HTc := Aside0.mk (show D.length ≤ c from by omega)
     have HTs := Aside0.mk (show slices_Clone_byte_byte.f D = some D from if_pos (by have := Gp4.out.2; omega))
     rw [← hA', ← hc', show p4.2.1.length - p4.1.toNat = L'.length by rw [hL', List.length_drop]] at hcut2
     rw [← hDl] at hcut
     have HL' := Aside0.mk hL'
     have HD' := Aside0.mk hD
     have HQ := Aside0.mk (show dsGo m L' true (ss ++ [⟨p1.1, p2.1, p3.1, D⟩]) = R by rw [← HRn.out, hL', hD]; show _ = dsLoop (m + 1) l ss; rw [dsLoop]; simp only [← Ep1.out, ← Ep2.out, ← Ep3.out, ← Ep4.out]; rw [if_pos HW.out]; rfl)
     have k4 := blk_cell h4 0
     have k5 := blk_cell h5 0
     have f4 := blk_frozen h4 0
     have k93 := blk_cell BK9.out 3
     have f93 := blk_frozen BK9.out 3
     have H4 := Aside0.mk h4
     have HGL := Aside0.mk (show Good L' by rw [hL']; exact ⟨Gp4.out.1.drop _, by have := Gp4.out.2; rw [List.length_drop]; omega⟩)
     clear hz hz0 hzl ho4 h4 hc hC h5 hA' hc' hL' hD hDl hi0 hsz0
     go_upto_region 13 with fail
     go_cut [9] (fun v9 W => ∃ (Ad : Option Addr) (cd : Nat), v9 = .pointer (some ⟨g9, 0, none⟩) ∧ Aside0 (DsInv w g2 g4 g5 g7 (fun k => k < N) (dsBase l0).1 L' true v ss W) ∧ Aside0 (W.heap[g9]? = some (.cells #[.int .i64 p1.1, .int .i64 p2.1, .int .i64 p3.1, .slice Ad D.length cd] 74 (0, 0))) ∧ Aside0 (Kd.R (Kd.int .u8) 5 W w.heap.size (fun k => N ≤ k) (.slice Ad D.length cd) D))
     case first =>
      go_region_with (first | (go_at_call 43; refine (slices_Clone_byte_byte.calls A c D D _ ?x1 HTc.out HTs.out).mono ?_; (case x1 => exact Kd.C_below HTC.out (by repeat (first | exact HI.out.2.2.2.2 | apply below_drew1 | apply pw_below_drewN))); rintro e wq ⟨vd, rfl, hR, hb⟩; obtain ⟨Ad, cd, ed⟩ := Kd.R_slice hR; subst ed; have hb2 : Below wn.heap.size wn wq := below_step (by repeat (first | exact Below.refl _ _ | apply below_drew1 | apply pw_below_drewN)) hb; have HRq := Aside0.mk (show Kd.R (Kd.int .u8) 5 wq wn.heap.size (fun _ => True) (.slice Ad D.length cd) D from hR); have HIq := Aside0.mk (HI.out.below hb2); have B9q := Aside0.mk (blk_below BK9.out hb2); have k4q := blk_cell (blk_below H4.out hb2) 0; have f4q := blk_frozen (blk_below H4.out hb2) 0; have k93q := blk_cell B9q.out 3; have f93q := blk_frozen B9q.out 3; clear hR hb hb2))
      all_goals (
       go_wp2_with fail
       go_meet
       (have hd := HIq.out.cut HG.out H57.out B9q.out (by have := HN9.out; have := HN5.out; omega) (fun k hk => by have := HN9.out; omega) (d := .slice Ad D.length cd) HDC.out HDc.out
        refine ⟨Ad, cd, rfl, ⟨hd.1⟩, ⟨hd.2⟩, ⟨?_⟩⟩
        have hR1 := Kd.R_mono (ok' := fun k => wn.heap.size ≤ k) (Kd.R_bound HRq.out) (fun k hk => hk.2.1)
        have l9 := blk_lt BK9.out
        have l4 := blk_lt H4.out
        exact Kd.R_lower (Kd.R_mono (Kd.R_far (Kd.R_far hR1 (p := ⟨g9, 3, none⟩) (fun k hk => by show k ≠ g9; omega) _) (p := ⟨g4, 0, none⟩) (fun k hk => by show k ≠ g4; omega) _) (fun k hk => Nat.le_trans HN.out hk)) (below_size HI.out.2.2.2.2)))
     case rest =>
      obtain ⟨Ad, cd, rfl, HI4, B94, HD⟩ := hcut
      clear HI BK9 k4 k5 f4 k93 f93 H4 HN
      have HI := HI4
      have BK9 := B94
      clear HI4 B94
      clear hcut2
      obtain ⟨A, c, h4, hc, hC, h5⟩ := HI.out.1
      have k4 := blk_cell h4 0
      have k5 := blk_cell h5 0
      have f4 := blk_frozen h4 0
      have f5 := blk_frozen h5 0
      have k20 := blk_cell HI.out.2.1 0
      have k21 := blk_cell HI.out.2.1 1
      have k22 := blk_cell HI.out.2.1 2
      have f20 := blk_frozen HI.out.2.1 0
      have f21 := blk_frozen HI.out.2.1 1
      have f22 := blk_frozen HI.out.2.1 2
      have k70 := blk_cell HI.out.2.2.1 0
      have k71 := blk_cell HI.out.2.2.1 1
      have k72 := blk_cell HI.out.2.2.1 2
      have f70 := blk_frozen HI.out.2.2.1 0
      have f71 := blk_frozen HI.out.2.2.1 1
      have f72 := blk_frozen HI.out.2.2.1 2
      clear h4 hc hC h5
      have k90 := blk_cell BK9.out 0
      have k91 := blk_cell BK9.out 1
      have k92 := blk_cell BK9.out 2
      have k93 := blk_cell BK9.out 3
      have f90 := blk_frozen BK9.out 0
      have f91 := blk_frozen BK9.out 1
      have f92 := blk_frozen BK9.out 2
      have f93 := blk_frozen BK9.out 3
      obtain ⟨As, cs, es⟩ := Kd.S_slice HI.out.2.2.2.1
      subst es
      go_wp2_with ((with_reducible refine gate_builtin (b := .append) (xs := #[.tmp 48, .tmp 50]) rfl ?_); at_builtin; refine Kd.S_append k74 (w0 := w) w.heap.size rfl (.tmp 48) (.tmp 50) 46 74 (.agg #[(.int .i64 0), (.int .i64 0), (.int .i64 0), (.slice none 0 0)]) 48 rfl Try.underlying46 info74 rfl (by decide) (by omega) (.slice As ss.length cs) ss (⟨p1.1, p2.1, p3.1, D⟩ : S74) [.int .i64 p1.1, .int .i64 p2.1, .int .i64 p3.1, .slice Ad D.length cd] (fun _ => True) (fun k_ => some k_ = (.slice Ad D.length cd : Value).ownBlock) rfl rfl ?aP ?aN ?aF ?aO ?aB ?aS ?aL ?_; (case aP => exact k74_mkM _ _ _ (⟨p1.1, p2.1, p3.1, D⟩ : S74) (Kd.R_mono (Kd.R_tight rfl HD.out) (fun _ h_ => h_))); (case aN => exact fun k_ hk_ => ⟨trivial, fun e_ => by have h1 := HD.out.1 k_ hk_.symm; have h2 := (Kd.S_R HI.out.2.2.2.1).1 k_ e_.symm; exact absurd h2 (by omega)⟩); (case aF => exact fun _ _ => trivial); (case aO => exact Kd.S_mono HI.out.2.2.2.1 (fun k_ hk => ⟨trivial, fun e_ => by have h1 := HD.out.1 k_ e_.symm; omega⟩)); (case aB => exact HI.out.2.2.2.2); (case aS => exact below_size HI.out.2.2.2.2); (case aL => have := HLen.out; omega); intro v1 wf ho hb hg hat; obtain ⟨An, cn, en⟩ := Kd.S_slice ho; subst en; have HP := Aside0.mk (HI.out.push HG.out H57.out ho hb hg); simp only [List.length_append, List.length_cons, List.length_nil, Nat.zero_add] at HP; have k7n := blk_grown HI.out.2.2.1 hg (Kd.S_ne HI.out.2.2.2.1 HI.out.2.2.1 (by decide)); have f7n := blk_frozen k7n 2; have k72n := blk_cell k7n 2; clear k72 f72 k7n ho hb hg hat)
      go_roundg k1
      case measure => omega
      case rel => exact ⟨m, L', true, _, _, by first | go_num | (congr 1; rw [Go.Proofs.Ytladodfapnigfaa.Num.w64 (by have := HLen.out; omega) (by have := HLen.out; omega)]; try omega), HQ, ⟨by have := HGk.out; omega⟩, ⟨by have := HLen.out; rw [List.length_append]; show ss.length + 1 + m ≤ 50; omega⟩, HGL, HP⟩
    ·have HW := Aside0.mk (show ¬ (p4.2.2 = true ∧ p4.1 ≤ (p4.2.1.length : Int)) from fun h => ho4 h.1)
     have e4 : p4.2.2 = false := by cases h : p4.2.2 with
      | false => rfl
      | true => exact absurd h ho4
     rw [e4] at HI
     clear hz ho4 e4
     obtain ⟨A, c, h4, hc, hC, h5⟩ := HI.out.1
     have k4 := blk_cell h4 0
     have k5 := blk_cell h5 0
     have f4 := blk_frozen h4 0
     have f5 := blk_frozen h5 0
     have k20 := blk_cell HI.out.2.1 0
     have k21 := blk_cell HI.out.2.1 1
     have k22 := blk_cell HI.out.2.1 2
     have f20 := blk_frozen HI.out.2.1 0
     have f21 := blk_frozen HI.out.2.1 1
     have f22 := blk_frozen HI.out.2.1 2
     have k70 := blk_cell HI.out.2.2.1 0
     have k71 := blk_cell HI.out.2.2.1 1
     have k72 := blk_cell HI.out.2.2.1 2
     have f70 := blk_frozen HI.out.2.2.1 0
     have f71 := blk_frozen HI.out.2.2.1 1
     have f72 := blk_frozen HI.out.2.2.1 2
     clear h4 hc hC h5
     go_upto_region 14 with fail
     clear k4 k5 f4 f5 k20 k21 k22 f20 f21 f22 k70 k71 k72 f70 f71 f72
     have HQ := Aside0.mk (show dsGo m p4.2.1 false (ss ++ [⟨p1.1, p2.1, p3.1, []⟩]) = R by rw [← HRn.out]; show _ = dsLoop (m + 1) l ss; rw [dsLoop]; simp only [← Ep1.out, ← Ep2.out, ← Ep3.out, ← Ep4.out]; rw [if_neg HW.out]; rfl)
     have HD := Aside0.mk (show Kd.R (Kd.int .u8) 5 wn w.heap.size (fun k => N ≤ k) (.slice none 0 0) ([] : List Int) from Kd.R_nil _ _ _ _ _)
     obtain ⟨A, c, h4, hc, hC, h5⟩ := HI.out.1
     have k4 := blk_cell h4 0
     have k5 := blk_cell h5 0
     have f4 := blk_frozen h4 0
     have f5 := blk_frozen h5 0
     have k20 := blk_cell HI.out.2.1 0
     have k21 := blk_cell HI.out.2.1 1
     have k22 := blk_cell HI.out.2.1 2
     have f20 := blk_frozen HI.out.2.1 0
     have f21 := blk_frozen HI.out.2.1 1
     have f22 := blk_frozen HI.out.2.1 2
     have k70 := blk_cell HI.out.2.2.1 0
     have k71 := blk_cell HI.out.2.2.1 1
     have k72 := blk_cell HI.out.2.2.1 2
     have f70 := blk_frozen HI.out.2.2.1 0
     have f71 := blk_frozen HI.out.2.2.1 1
     have f72 := blk_frozen HI.out.2.2.1 2
     clear h4 hc hC h5
     have k90 := blk_cell BK9.out 0
     have k91 := blk_cell BK9.out 1
     have k92 := blk_cell BK9.out 2
     have k93 := blk_cell BK9.out 3
     have f90 := blk_frozen BK9.out 0
     have f91 := blk_frozen BK9.out 1
     have f92 := blk_frozen BK9.out 2
     have f93 := blk_frozen BK9.out 3
     obtain ⟨As, cs, es⟩ := Kd.S_slice HI.out.2.2.2.1
     subst es
     go_wp2_with ((with_reducible refine gate_builtin (b := .append) (xs := #[.tmp 48, .tmp 50]) rfl ?_); at_builtin; refine Kd.S_append k74 (w0 := w) w.heap.size rfl (.tmp 48) (.tmp 50) 46 74 (.agg #[(.int .i64 0), (.int .i64 0), (.int .i64 0), (.slice none 0 0)]) 48 rfl Try.underlying46 info74 rfl (by decide) (by omega) (.slice As ss.length cs) ss (⟨p1.1, p2.1, p3.1, []⟩ : S74) [.int .i64 p1.1, .int .i64 p2.1, .int .i64 p3.1, .slice none 0 0] (fun _ => True) (fun k_ => some k_ = (.slice none 0 0 : Value).ownBlock) rfl rfl ?aP ?aN ?aF ?aO ?aB ?aS ?aL ?_; (case aP => exact k74_mkM _ _ _ (⟨p1.1, p2.1, p3.1, []⟩ : S74) (Kd.R_mono (Kd.R_tight rfl HD.out) (fun _ h_ => h_))); (case aN => exact fun k_ hk_ => ⟨trivial, fun e_ => by have h1 := HD.out.1 k_ hk_.symm; have h2 := (Kd.S_R HI.out.2.2.2.1).1 k_ e_.symm; exact absurd h2 (by omega)⟩); (case aF => exact fun _ _ => trivial); (case aO => exact Kd.S_mono HI.out.2.2.2.1 (fun k_ hk => ⟨trivial, fun e_ => by have h1 := HD.out.1 k_ e_.symm; omega⟩)); (case aB => exact HI.out.2.2.2.2); (case aS => exact below_size HI.out.2.2.2.2); (case aL => have := HLen.out; omega); intro v1 wf ho hb hg hat; obtain ⟨An, cn, en⟩ := Kd.S_slice ho; subst en; have HP := Aside0.mk (HI.out.push HG.out H57.out ho hb hg); simp only [List.length_append, List.length_cons, List.length_nil, Nat.zero_add] at HP; have k7n := blk_grown HI.out.2.2.1 hg (Kd.S_ne HI.out.2.2.2.1 HI.out.2.2.1 (by decide)); have f7n := blk_frozen k7n 2; have k72n := blk_cell k7n 2; clear k72 f72 k7n ho hb hg hat)
     go_roundg k1
     case measure => omega
     case rel => exact ⟨m, p4.2.1, false, _, _, by first | go_num | (congr 1; rw [Go.Proofs.Ytladodfapnigfaa.Num.w64 (by have := HLen.out; omega) (by have := HLen.out; omega)]; try omega), HQ, ⟨by have := HGk.out; omega⟩, ⟨by have := HLen.out; rw [List.length_append]; show ss.length + 1 + m ≤ 50; omega⟩, Gp4, HP⟩
  ·have hRe : R = (l, ok, ss) := by
    rw [← HRn.out]
    unfold dsGo
    cases ok with
    | false => rfl
    | true =>
     have h0 : n = 0 := by
      by_cases h0 : n = 0
      ·exact h0
      ·exact absurd ⟨h0, rfl⟩ hcont
     subst h0
     rfl
   have HRe := Aside0.mk hRe
   clear hRe
   obtain ⟨A, c, h4, hc, hC, h5⟩ := HIn.out.1
   have k4 := blk_cell h4 0
   have k5 := blk_cell h5 0
   have f4 := blk_frozen h4 0
   have f5 := blk_frozen h5 0
   have k20 := blk_cell HIn.out.2.1 0
   have k21 := blk_cell HIn.out.2.1 1
   have k22 := blk_cell HIn.out.2.1 2
   have f20 := blk_frozen HIn.out.2.1 0
   have f21 := blk_frozen HIn.out.2.1 1
   have f22 := blk_frozen HIn.out.2.1 2
   have k70 := blk_cell HIn.out.2.2.1 0
   have k71 := blk_cell HIn.out.2.2.1 1
   have k72 := blk_cell HIn.out.2.2.1 2
   have f70 := blk_frozen HIn.out.2.2.1 0
   have f71 := blk_frozen HIn.out.2.2.1 1
   have f72 := blk_frozen HIn.out.2.2.1 2
   clear h4 hc hC h5
   by_cases hn : n = 0
   ·clear hcont
    subst hn
    have t0 : decide ((((0 : Nat) : Nat) : Int) > 0) = false := rfl
    cases ok with
    | false =>
     go_wp2
     have hT : dsTell l0 valid = (0, [], 5) := if_neg (by rw [← HR.out, HRe.out]; rintro ⟨h1, h2, h3⟩; cases h1)
     rw [hT]
     refine bodyPost_ret (results_ct rfl _ _ g2 48 #[.int .i64 0, .slice none 0 0, .slice none 0 0] (0, 0) _ rfl (blk_put (cs' := #[.int .i64 0, .slice none 0 0, .slice none 0 0]) (blk_put (cs' := #[.int .i64 0, .slice none 0 0, .slice none 0 0]) (blk_put (cs' := #[.int .i64 0, .slice none 0 0, .slice none 0 0]) (HIn.out.2.1) 0 (.int .i64 0) rfl) 1 (.slice none 0 0) rfl) 2 (.slice none 0 0) rfl) Try.underlying48 rfl (by kernel_rfl)) rfl ?_
     exact ⟨_, rfl, Kd.S_nil _ _ _ _ _, below_set (below_set (below_set (HIn.out.2.2.2.2) HG.out.1) HG.out.1) HG.out.1⟩
    | true =>
     by_cases hl : l = []
     ·subst hl
      obtain ⟨Av, cv, ev, hcv, hCv⟩ := Kd.S_reads HIn.out.2.2.2.1
      subst ev
      have HCV := Aside0.mk (And.intro hCv hcv)
      clear hcv hCv
      have tl : decide (((([] : List Int).length : Nat) : Int) > 0) = false := rfl
      go_wp2_with fail
      refine (impl_Service_valid.calls k (dsBase l0).1 none 0 [] Av cv ss valid _ (Kd.C_nil _ _) (Nat.le_refl _) HCV.out.1 HCV.out.2 (by have := HV.out; rw [← HR.out, HRe.out] at this; exact this)).mono ?_
      rintro e w9 ⟨rfl, hb⟩
      have HI9 := Aside0.mk (HIn.out.below hb)
      clear hb HIn
      have HIn := HI9
      clear HI9
      clear k4 k5 f4 f5 k20 k21 k22 f20 f21 f22 k70 k71 k72 f70 f71 f72
      obtain ⟨A, c, h4, hc, hC, h5⟩ := HIn.out.1
      have k4 := blk_cell h4 0
      have k5 := blk_cell h5 0
      have f4 := blk_frozen h4 0
      have f5 := blk_frozen h5 0
      have k20 := blk_cell HIn.out.2.1 0
      have k21 := blk_cell HIn.out.2.1 1
      have k22 := blk_cell HIn.out.2.1 2
      have f20 := blk_frozen HIn.out.2.1 0
      have f21 := blk_frozen HIn.out.2.1 1
      have f22 := blk_frozen HIn.out.2.1 2
      have k70 := blk_cell HIn.out.2.2.1 0
      have k71 := blk_cell HIn.out.2.2.1 1
      have k72 := blk_cell HIn.out.2.2.1 2
      have f70 := blk_frozen HIn.out.2.2.1 0
      have f71 := blk_frozen HIn.out.2.2.1 1
      have f72 := blk_frozen HIn.out.2.2.1 2
      clear h4 hc hC h5
      cases valid with
      | false =>
       go_wp2
       have hT : dsTell l0 false = (0, [], 5) := if_neg (by rw [← HR.out, HRe.out]; rintro ⟨h1, h2, h3⟩; cases h3)
       rw [hT]
       refine bodyPost_ret (results_ct rfl _ _ g2 48 #[.int .i64 0, .slice none 0 0, .slice none 0 0] (0, 0) _ rfl (blk_put (cs' := #[.int .i64 0, .slice none 0 0, .slice none 0 0]) (blk_put (cs' := #[.int .i64 0, .slice none 0 0, .slice none 0 0]) (blk_put (cs' := #[.int .i64 0, .slice none 0 0, .slice none 0 0]) (HIn.out.2.1) 0 (.int .i64 0) rfl) 1 (.slice none 0 0) rfl) 2 (.slice none 0 0) rfl) Try.underlying48 rfl (by kernel_rfl)) rfl ?_
       exact ⟨_, rfl, Kd.S_nil _ _ _ _ _, below_set (below_set (below_set (HIn.out.2.2.2.2) HG.out.1) HG.out.1) HG.out.1⟩
      | true =>
       go_wp2
       have hT : dsTell l0 true = ((dsBase l0).1, ss, 0) := by
        have e : dsTell l0 true = ((dsBase l0).1, (dsRun l0).2.2, 0) := if_pos (by rw [← HR.out, HRe.out]; exact ⟨rfl, rfl, rfl⟩)
        rw [e, ← HR.out, HRe.out]
       rw [hT]
       refine bodyPost_ret (results_ct rfl _ _ g2 48 #[.int .i64 (dsBase l0).1, .slice none 0 0, .slice Av ss.length cv] (0, 0) _ rfl (blk_put (cs' := #[.int .i64 (dsBase l0).1, .slice none 0 0, .slice Av ss.length cv]) (blk_put (cs' := #[.int .i64 (dsBase l0).1, .slice none 0 0, .slice none 0 0]) (blk_put (cs' := #[.int .i64 (dsBase l0).1, .slice none 0 0, .slice none 0 0]) (HIn.out.2.1) 0 (.int .i64 (dsBase l0).1) rfl) 1 (.slice none 0 0) rfl) 2 (.slice Av ss.length cv) rfl) Try.underlying48 rfl (by kernel_rfl)) rfl ?_
       refine ⟨_, rfl, ?_, below_set (below_set (below_set HIn.out.2.2.2.2 HG.out.1) HG.out.1) HG.out.1⟩
       have b0 := HIn.out.2.1
       have b1 := blk_put (cs' := #[.int .i64 (dsBase l0).1, .slice none 0 0, .slice none 0 0]) b0 0 (.int .i64 (dsBase l0).1) rfl
       have b2 := blk_put (cs' := #[.int .i64 (dsBase l0).1, .slice none 0 0, .slice none 0 0]) b1 1 (.slice none 0 0) rfl
       exact Kd.S_set (Kd.S_set (Kd.S_set HIn.out.2.2.2.1 b0 (by decide) 0 _) b1 (by decide) 1 _) b2 (by decide) 2 _
     ·have hlp : 0 < l.length := List.length_pos_iff.2 hl
      have tl : decide (((l.length : Nat) : Int) > 0) = true := decide_eq_true (by omega)
      have tln : decide (0 < l.length) = true := decide_eq_true hlp
      have HL := Aside0.mk hl
      clear hl hlp
      go_wp2
      have hT : dsTell l0 valid = (0, [], 5) := if_neg (by rw [← HR.out, HRe.out]; rintro ⟨h1, h2, h3⟩; exact HL.out h2)
      rw [hT]
      refine bodyPost_ret (results_ct rfl _ _ g2 48 #[.int .i64 0, .slice none 0 0, .slice none 0 0] (0, 0) _ rfl (blk_put (cs' := #[.int .i64 0, .slice none 0 0, .slice none 0 0]) (blk_put (cs' := #[.int .i64 0, .slice none 0 0, .slice none 0 0]) (blk_put (cs' := #[.int .i64 0, .slice none 0 0, .slice none 0 0]) (HIn.out.2.1) 0 (.int .i64 0) rfl) 1 (.slice none 0 0) rfl) 2 (.slice none 0 0) rfl) Try.underlying48 rfl (by kernel_rfl)) rfl ?_
      exact ⟨_, rfl, Kd.S_nil _ _ _ _ _, below_set (below_set (below_set (HIn.out.2.2.2.2) HG.out.1) HG.out.1) HG.out.1⟩
   ·have hok : ok = false := by
     cases ok with
     | false => rfl
     | true => exact absurd ⟨hn, rfl⟩ hcont
    have t0 : decide (((n : Nat) : Int) > 0) = true := decide_eq_true (by omega)
    have t0n : decide (0 < n) = true := decide_eq_true (by omega)
    clear hcont hn
    subst hok
    go_wp2
    have hT : dsTell l0 valid = (0, [], 5) := if_neg (by rw [← HR.out, HRe.out]; rintro ⟨h1, h2, h3⟩; cases h1)
    rw [hT]
    refine bodyPost_ret (results_ct rfl _ _ g2 48 #[.int .i64 0, .slice none 0 0, .slice none 0 0] (0, 0) _ rfl (blk_put (cs' := #[.int .i64 0, .slice none 0 0, .slice none 0 0]) (blk_put (cs' := #[.int .i64 0, .slice none 0 0, .slice none 0 0]) (blk_put (cs' := #[.int .i64 0, .slice none 0 0, .slice none 0 0]) (HIn.out.2.1) 0 (.int .i64 0) rfl) 1 (.slice none 0 0) rfl) 2 (.slice none 0 0) rfl) Try.underlying48 rfl (by kernel_rfl)) rfl ?_
    exact ⟨_, rfl, Kd.S_nil _ _ _ _ _, below_set (below_set (below_set (HIn.out.2.2.2.2) HG.out.1) HG.out.1) HG.out.1⟩
/-! ### end of what is BY HAND -/


/-- A state of type 85 at block g of W; what its slices lead to came in by w0. -/
def IsS85 (w0 W : World) (g : Nat) (f0 : List Int) (f1 : Int) (f2 : Int) : Prop := ∃ A0 c0, W.heap[g]? = some (.cells #[.slice A0 f0.length c0, .int .i64 f1, .int .u64 f2] 85 (0, 0)) ∧ w0.heap.size ≤ g ∧ Kd.C (Kd.int .u8) w0 A0 f0.length f0
theorem IsS85.grown {w0 W : World} {g : Nat} {f0 : List Int} {f1 : Int} {f2 : Int} {W1 : World} {row : Option Nat} (h : IsS85 w0 W g f0 f1 f2) (hw : W.grownBy W1 row) (hne : some g ≠ row) : IsS85 w0 W1 g f0 f1 f2 := by
 obtain ⟨A0, c0, hb, hg, hr0⟩ := h
 exact ⟨A0, c0, blk_grown hb hw hne, hg, hr0⟩
theorem IsS85.own_neN {w0 W : World} {g : Nat} {f0 : List Int} {f1 : Int} {f2 : Int} {α : Type} {d : Kd α} {e : Nat} {base : Nat} {ok : Nat → Prop} {v : Value} {xs : List α} (h : IsS85 w0 W g f0 f1 f2) (ho : Kd.N d e W base ok v xs) (ht : e ≠ 85) : some g ≠ v.ownBlock := by
 obtain ⟨A0, c0, hb, hg, hr0⟩ := h
 exact Kd.N_ne ho hb ht
theorem IsS85.fresh {w0 W : World} {g : Nat} {f0 : List Int} {f1 : Int} {f2 : Int} (h : IsS85 w0 W g f0 f1 f2) : ∀ k, W.heap.size ≤ k → k ≠ g := by
 obtain ⟨A0, c0, hb, hg, hr0⟩ := h
 exact Kd.freshB hb
theorem IsS85.kept {w0 W : World} {g : Nat} {f0 : List Int} {f1 : Int} {f2 : Int} {W1 : World} {S : Nat → Prop} (h : IsS85 w0 W g f0 f1 f2) (hk : Kept W W1 S) (hne : ¬ S g) : IsS85 w0 W1 g f0 f1 f2 := by
 obtain ⟨A0, c0, hb, hg, hr0⟩ := h
 exact ⟨A0, c0, blk_kept hb hk hne, hg, hr0⟩
theorem IsS85.below {w0 W : World} {g : Nat} {f0 : List Int} {f1 : Int} {f2 : Int} {W1 : World} (h : IsS85 w0 W g f0 f1 f2) (hw : Below W.heap.size W W1) : IsS85 w0 W1 g f0 f1 f2 := h.grown (grown_of_below hw none) (by simp)
theorem IsS85.alloc {w0 W : World} {g : Nat} {f0 : List Int} {f1 : Int} {f2 : Int} (h : IsS85 w0 W g f0 f1 f2) (o : Obj) : IsS85 w0 (W.alloc o) g f0 f1 f2 := h.below (below_alloc (Below.refl _ _) o)
theorem IsS85.drewN {w0 W : World} {g : Nat} {f0 : List Int} {f1 : Int} {f2 : Int} (h : IsS85 w0 W g f0 f1 f2) (m : Nat) : IsS85 w0 (W.drewN m) g f0 f1 f2 := h
theorem IsS85.drew {w0 W : World} {g : Nat} {f0 : List Int} {f1 : Int} {f2 : Int} (h : IsS85 w0 W g f0 f1 f2) : IsS85 w0 W.drew g f0 f1 f2 := h
theorem IsS85.at_ {w0 W : World} {g : Nat} {f0 : List Int} {f1 : Int} {f2 : Int} {w' : World} {m : Nat} (hq : W.drewN m = w') (h : IsS85 w0 W g f0 f1 f2) : IsS85 w0 w' g f0 f1 f2 := by subst hq; exact IsS85.drewN h m
theorem IsS85.apart {w0 W : World} {g : Nat} {f0 : List Int} {f1 : Int} {f2 : Int} {α : Type} {d : Kd α} {e : Nat} {base : Nat} {ok : Nat → Prop} {v : Value} {xs : List α} (h : IsS85 w0 W g f0 f1 f2) (ho : d.R e W base ok v xs) (ht : ∀ q, q ∈ e :: d.E → q ≠ 85) : d.R e W base (fun k => ok k ∧ k ≠ g) v xs := by
 obtain ⟨A0, c0, hb, hg, hr0⟩ := h
 exact Kd.R_types ho hb ht
theorem IsS85.own_ne {w0 W : World} {g : Nat} {f0 : List Int} {f1 : Int} {f2 : Int} {α : Type} {d : Kd α} {e : Nat} {base : Nat} {ok : Nat → Prop} {v : Value} {xs : List α} (h : IsS85 w0 W g f0 f1 f2) (ho : d.R e W base ok v xs) (ht : e ≠ 85) : some g ≠ v.ownBlock := by
 obtain ⟨A0, c0, hb, hg, hr0⟩ := h
 exact Kd.R_ne ho hb ht
theorem IsS85.apartQ {w0 W : World} {g : Nat} {f0 : List Int} {f1 : Int} {f2 : Int} {α : Type} {d : Kd α} {e : Nat} {base : Nat} {ok : Nat → Prop} {v : Value} {xs : List α} (h : IsS85 w0 W g f0 f1 f2) (ho : d.Q e W base ok v xs) (ht : ∀ q, q ∈ e :: d.E → q ≠ 85) : d.Q e W base (fun k => ok k ∧ k ≠ g) v xs := by
 obtain ⟨A0, c0, hb, hg, hr0⟩ := h
 exact Kd.Q_types ho hb ht
theorem IsS85.own_neQ {w0 W : World} {g : Nat} {f0 : List Int} {f1 : Int} {f2 : Int} {α : Type} {d : Kd α} {e : Nat} {base : Nat} {ok : Nat → Prop} {v : Value} {xs : List α} (h : IsS85 w0 W g f0 f1 f2) (ho : d.Q e W base ok v xs) (ht : e ≠ 85) : some g ≠ v.ownBlock := by
 obtain ⟨A0, c0, hb, hg, hr0⟩ := h
 exact Kd.Q_ne ho hb ht
theorem IsS85.apartS {w0 W : World} {g : Nat} {f0 : List Int} {f1 : Int} {f2 : Int} {α : Type} {d : Kd α} {e : Nat} {base : Nat} {ok : Nat → Prop} {v : Value} {xs : List α} (h : IsS85 w0 W g f0 f1 f2) (ho : d.S e W base ok v xs) (ht : ∀ q, q ∈ e :: d.E → q ≠ 85) : d.S e W base (fun k => ok k ∧ k ≠ g) v xs := by
 obtain ⟨A0, c0, hb, hg, hr0⟩ := h
 exact Kd.S_types ho hb ht
theorem IsS85.own_neS {w0 W : World} {g : Nat} {f0 : List Int} {f1 : Int} {f2 : Int} {α : Type} {d : Kd α} {e : Nat} {base : Nat} {ok : Nat → Prop} {v : Value} {xs : List α} (h : IsS85 w0 W g f0 f1 f2) (ho : d.S e W base ok v xs) (ht : e ≠ 85) : some g ≠ v.ownBlock := by
 obtain ⟨A0, c0, hb, hg, hr0⟩ := h
 exact Kd.S_ne ho hb ht
theorem IsS85.lt {w0 W : World} {g : Nat} {f0 : List Int} {f1 : Int} {f2 : Int} (h : IsS85 w0 W g f0 f1 f2) : g < W.heap.size := by
 obtain ⟨A0, c0, hb, hg, hr0⟩ := h
 exact blk_lt hb
theorem IsS85.ge {w0 W : World} {g : Nat} {f0 : List Int} {f1 : Int} {f2 : Int} (h : IsS85 w0 W g f0 f1 f2) : w0.heap.size ≤ g := by
 obtain ⟨A0, c0, hb, hg, hr0⟩ := h
 exact hg
theorem IsS85.ne_blk {w0 W : World} {g : Nat} {f0 : List Int} {f1 : Int} {f2 : Int} {a : Nat} {cs : Array Value} {t : TypeId} {fr : Nat × Nat} (h : IsS85 w0 W g f0 f1 f2) (hb2 : W.heap[a]? = some (.cells cs t fr)) (ht : t ≠ 85) : g ≠ a := by
 obtain ⟨A0, c0, hb, hg, hr0⟩ := h
 rintro rfl
 rw [hb] at hb2
 injection hb2 with hb2
 injection hb2 with _ ht2
 exact ht ht2.symm
theorem IsS85.far {w0 W : World} {g : Nat} {f0 : List Int} {f1 : Int} {f2 : Int} {p : Addr} (h : IsS85 w0 W g f0 f1 f2) (hne : g ≠ p.block) (u : Value) : IsS85 w0 (W.setCell p u) g f0 f1 f2 := by
 obtain ⟨A0, c0, hb, hg, hr0⟩ := h
 exact ⟨A0, c0, blk_far hb hne u, hg, hr0⟩
theorem cellS85_0 {W : World} {g : Nat} {A0 : Option Addr} {c0 : Nat} {f0 : List Int} {f1 : Int} {f2 : Int} (h : W.heap[g]? = some (.cells #[.slice A0 f0.length c0, .int .i64 f1, .int .u64 f2] 85 (0, 0))) : W.cell? ⟨g, 0, none⟩ = some (.slice A0 f0.length c0) := (blk_cell h 0).trans rfl
theorem cellS85_1 {W : World} {g : Nat} {A0 : Option Addr} {c0 : Nat} {f0 : List Int} {f1 : Int} {f2 : Int} (h : W.heap[g]? = some (.cells #[.slice A0 f0.length c0, .int .i64 f1, .int .u64 f2] 85 (0, 0))) : W.cell? ⟨g, 1, none⟩ = some (.int .i64 f1) := (blk_cell h 1).trans rfl
theorem IsS85.set_1 {w0 W : World} {g : Nat} {f0 : List Int} {f1 : Int} {f2 : Int} (h : IsS85 w0 W g f0 f1 f2) (x : Int) : IsS85 w0 (W.setCell ⟨g, 1, none⟩ (.int .i64 x)) g f0 x f2 := by
 obtain ⟨A0, c0, hb, hg, hr0⟩ := h
 exact ⟨A0, c0, by simpa using blk_set hb 1 (.int .i64 x), hg, hr0⟩
theorem cellS85_2 {W : World} {g : Nat} {A0 : Option Addr} {c0 : Nat} {f0 : List Int} {f1 : Int} {f2 : Int} (h : W.heap[g]? = some (.cells #[.slice A0 f0.length c0, .int .i64 f1, .int .u64 f2] 85 (0, 0))) : W.cell? ⟨g, 2, none⟩ = some (.int .u64 f2) := (blk_cell h 2).trans rfl
theorem IsS85.set_2 {w0 W : World} {g : Nat} {f0 : List Int} {f1 : Int} {f2 : Int} (h : IsS85 w0 W g f0 f1 f2) (x : Int) : IsS85 w0 (W.setCell ⟨g, 2, none⟩ (.int .u64 x)) g f0 f1 x := by
 obtain ⟨A0, c0, hb, hg, hr0⟩ := h
 exact ⟨A0, c0, by simpa using blk_set hb 2 (.int .u64 x), hg, hr0⟩
theorem IsS85.new (w0 W : World) (A0 : Option Addr) (c0 : Nat) (f0 : List Int) (f1 : Int) (f2 : Int) (hB : Below w0.heap.size w0 W) (hr0 : Kd.C (Kd.int .u8) w0 A0 f0.length f0) : IsS85 w0 (W.alloc (.cells #[.slice A0 f0.length c0, .int .i64 f1, .int .u64 f2] 85)) W.heap.size f0 f1 f2 := ⟨A0, c0, by simpa using heap_alloc_new W _, hB.size, hr0⟩

/-! ### spec_L1Draw: function 31 -/
def spec_L1Draw.f (l0 : List Int) : Option (List Int × Int × Int) := some (l0, 0, IntKind.u64.wrap (88172645463325252 + (IntKind.u64.wrap ((l0.length : Int)))))
set_option maxHeartbeats 8000000 in
set_option maxRecDepth 100000 in
theorem spec_L1Draw.calls (A0 : Option Addr) (c0 : Nat) (l0 : List Int) (r1 : List Int) (r2 : Int) (r3 : Int) (w0 w : World) (hB : Below w0.heap.size w0 w) (hr0 : Kd.C (Kd.int .u8) w0 A0 l0.length l0) (hc0 : l0.length ≤ c0) (h : spec_L1Draw.f l0 = some (r1, r2, r3)) :
 Calls Try.prog 31 #[.slice A0 l0.length c0] w fun e w' => ∃ g_ : Nat, e = .returned (.pointer (some ⟨g_, 0, none⟩)) ∧ IsS85 w0 w' g_ r1 r2 r3 ∧ Below w0.heap.size w0 w' ∧ Below w.heap.size w w' := by
 have hu85 := Try.underlying85
 have HR0 := Aside0.mk hr0
 have HC0 := Aside0.mk hc0
 clear hr0 hc0
 have HBW := Aside0.mk (Below.refl w.heap.size w)
 have HW0 := Aside0.mk hB.size
 have HB := Aside0.mk hB
 clear hB
 have H : (some (l0, 0, IntKind.u64.wrap (88172645463325252 + (IntKind.u64.wrap ((l0.length : Int)))))) = some (r1, r2, r3) := h
 clear h
 simp only [Option.some.injEq, Prod.mk.injEq] at H
 obtain ⟨rfl, rfl, rfl⟩ := H
 go_enter Try.func31, Try.ntmps31
 go_wp2_with (first | ((with_reducible refine gate_dst (N := 9) rfl ?_); refine box_event ?hg (N := 9) ?hd (cs := #[.slice A0 l0.length c0, .int .i64 0, .int .u64 (IntKind.u64.wrap (88172645463325252 + (IntKind.u64.wrap ((l0.length : Int)))))]) (t := 85) ?hr ?_; (case hd => rfl); (case hg => rfl); (case hr => first | (go_simp; done) | (go_simp; rfl)); intro gb170 hg w2 hbox hb; have n0_ := Aside0.mk (below_step HBW.out hb); have n1_ := Aside0.mk (below_step (by repeat (first | (with_reducible first | exact HB.out | apply below_alloc | apply pw_below_drewN | apply below_drew1) | exact HB.out)) hb); have n2_ := Aside0.mk (hbox); have n3_ := Aside0.mk ((by rw [hg]; exact (below_size (by repeat (first | (with_reducible first | exact HBW.out | apply below_alloc | apply pw_below_drewN | apply below_drew1) | exact HBW.out))) : w.heap.size ≤ gb170)); have n4_ := Aside0.mk ((Nat.le_trans HW0.out (by rw [hg]; exact (below_size (by repeat (first | (with_reducible first | exact HBW.out | apply below_alloc | apply pw_below_drewN | apply below_drew1) | exact HBW.out))) : w.heap.size ≤ gb170) : w0.heap.size ≤ gb170)); clear HBW; clear HB; have HBW := n0_; have HB := n1_; have BK170 := n2_; have GW170 := n3_; have GE170 := n4_; clear n0_ n1_ n2_ n3_ n4_; clear hb hbox hg))
 go_ret
 exact ⟨_, rfl, (show IsS85 w0 _ gb170 l0 0 (IntKind.u64.wrap (88172645463325252 + (IntKind.u64.wrap ((l0.length : Int))))) from ⟨_, _, by (with_reducible repeat (first | refine blk_drewN ?_ _ | refine blk_drew ?_ | refine blk_alloc ?_ _)); exact BK170.out, GE170.out, HR0.out⟩), by repeat (first | (with_reducible first | exact HB.out | apply below_alloc | apply pw_below_drewN | apply below_drew1 | refine below_set ?_ GE170.out) | exact HB.out), by repeat (first | (with_reducible first | exact HBW.out | apply below_alloc | apply pw_below_drewN | apply below_drew1 | refine below_set ?_ GW170.out) | exact HBW.out)⟩

end Go.Proofs.Ytladodfapnigfaa.YSes
