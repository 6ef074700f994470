/- FnExactCommitPoint: for all lists and numbers the program's CommitPoint and the reference's tell the same. Conditions: none beyond the statement's own. -/
import Derived.Test.YticehbfbhnheaaaXFnExactCommitPointx2
import Derived.Test.YticehbfbhnheaaaNum
namespace Go.Proofs.Yticehbfbhnheaaa.Pure
open Go.RowKit Go.Proofs.Yticehbfbhnheaaa.XFnExactCommitPoint Go.Proofs.YticehbfbhnheaaaW.PrintWords Go.Proofs.YticehbfbhnheaaaW.PrintLast Go.Proofs.Yticehbfbhnheaaa.Num

theorem toIntS_l0 (x : List Int) (hx : x.length ≤ 1048576) (d : Nat) : ∀ (k i : Nat) (y : List Int), y.length = x.length → i ≤ x.length → x.length - i = d → d < k → y.take i = x.take i →
    laws_toIntS.l0 k x y (i : Int) = some x := by
  induction d with
  | zero =>
    intro k i y hl hi hd hk ht
    obtain ⟨k, rfl⟩ : ∃ m, k = m + 1 := ⟨k - 1, by omega⟩
    rw [laws_toIntS.l0, if_neg (by omega)]
    rw [List.take_of_length_le (by omega), List.take_of_length_le (by omega)] at ht
    rw [ht]
  | succ d ih =>
    intro k i y hl hi hd hk ht
    obtain ⟨k, rfl⟩ : ∃ m, k = m + 1 := ⟨k - 1, by omega⟩
    rw [laws_toIntS.l0, if_pos (by omega), if_pos (by omega), if_pos (by omega), w64n (by omega)]
    exact ih k (i + 1) _ (by simpa using hl) (by omega) (by omega) (by omega) (set_take x y 0 i (by omega) hl ht)
theorem toIntS_ev (x : List Int) (hx : x.length ≤ 1048576) : Ev (fun k => laws_toIntS.f k x) x := ev_of x.length (fun k hk => by
  unfold laws_toIntS.f
  rw [if_pos (by omega), if_pos (by omega)]
  exact toIntS_l0 x hx x.length k 0 _ (by simp) (by omega) (by omega) (by omega) (by simp))
theorem eqIntS_l0 (x : List Int) (hx : x.length ≤ 1048576) (d : Nat) : ∀ (k i : Nat), i ≤ x.length → x.length - i = d → d < k →
    laws_eqIntS.l0 k x x (i : Int) = some true := by
  induction d with
  | zero =>
    intro k i hi hd hk
    obtain ⟨k, rfl⟩ : ∃ m, k = m + 1 := ⟨k - 1, by omega⟩
    rw [laws_eqIntS.l0, if_neg (by omega)]
  | succ d ih =>
    intro k i hi hd hk
    obtain ⟨k, rfl⟩ : ∃ m, k = m + 1 := ⟨k - 1, by omega⟩
    rw [laws_eqIntS.l0, if_pos (by omega), if_pos (by omega), if_pos (by omega), if_pos rfl, w64n (by omega)]
    exact ih k (i + 1) (by omega) (by omega) (by omega)
theorem eqIntS_ev (x : List Int) (hx : x.length ≤ 1048576) : Ev (fun k => laws_eqIntS.f k x x) true := ev_of x.length (fun k hk => by
  unfold laws_eqIntS.f
  rw [if_pos rfl]
  exact eqIntS_l0 x hx x.length k 0 (by omega) (by omega) (by omega))
/-! ### the middle of the sorted numbers is reached by more than half of them -/
def many (i : Int) (l : List Int) : Nat := l.countP (fun m => decide (i ≤ m))
theorem sorted_pair (l : List Int) : (sortedI l).Pairwise (fun a b => a ≤ b) := by
  have h := List.pairwise_mergeSort (le := fun x y : Int => decide (x ≤ y)) (fun a b c h1 h2 => by simp at h1 h2 ⊢; omega) (fun a b => by simp; omega) l
  exact h.imp (fun h => by simpa using h)
theorem many_sorted (i : Int) (l : List Int) : many i (sortedI l) = many i l := (List.mergeSort_perm l _).countP_eq _
theorem many_split (i : Int) (l : List Int) (k : Nat) : many i l = many i (l.take k) + many i (l.drop k) := by
  unfold many
  rw [← List.countP_append, List.take_append_drop]
theorem mid_get (l : List Int) (hp : 0 < l.length) : ∃ h : (l.length - 1) / 2 < (sortedI l).length, cpMid l = (sortedI l)[(l.length - 1) / 2] := by
  have h : (l.length - 1) / 2 < (sortedI l).length := by rw [sortedI_length]; omega
  exact ⟨h, by unfold cpMid; simp [List.getD, h]⟩
theorem many_ge (i : Int) (l : List Int) (hp : 0 < l.length) (h : i ≤ cpMid l) : 2 * many i l > l.length := by
  obtain ⟨hk, hm⟩ := mid_get l hp
  rw [← many_sorted, many_split i (sortedI l) ((l.length - 1) / 2)]
  have hs := sorted_pair l
  rw [List.pairwise_iff_getElem] at hs
  have e : many i ((sortedI l).drop ((l.length - 1) / 2)) = ((sortedI l).drop ((l.length - 1) / 2)).length := by
    unfold many
    rw [List.countP_eq_length]
    intro a ha
    obtain ⟨j, hj, rfl⟩ := List.getElem_of_mem ha
    rw [List.length_drop] at hj
    rw [List.getElem_drop]
    refine decide_eq_true ?_
    rw [hm] at h
    by_cases c : j = 0
    · subst c; simpa using h
    · exact Int.le_trans h (hs _ _ (by omega) (by omega) (by omega))
  rw [e, List.length_drop, sortedI_length]
  omega
theorem many_lt (i : Int) (l : List Int) (hp : 0 < l.length) (h : cpMid l < i) : ¬ 2 * many i l > l.length := by
  obtain ⟨hk, hm⟩ := mid_get l hp
  rw [← many_sorted, many_split i (sortedI l) ((l.length - 1) / 2 + 1)]
  have hs := sorted_pair l
  rw [List.pairwise_iff_getElem] at hs
  have e : many i ((sortedI l).take ((l.length - 1) / 2 + 1)) = 0 := by
    unfold many
    rw [List.countP_eq_zero]
    intro a ha
    obtain ⟨j, hj, rfl⟩ := List.getElem_of_mem ha
    rw [List.length_take] at hj
    rw [List.getElem_take, decide_eq_true_iff]
    rw [hm] at h
    by_cases c : j = (l.length - 1) / 2
    · subst c; omega
    · have := hs j ((l.length - 1) / 2) (by omega) (by omega) (by omega)
      omega
  have h2 : many i ((sortedI l).drop ((l.length - 1) / 2 + 1)) ≤ ((sortedI l).drop ((l.length - 1) / 2 + 1)).length := List.countP_le_length
  rw [List.length_drop, sortedI_length] at h2
  omega
theorem many_nil (i : Int) : many i [] = 0 := rfl
theorem many_drop (i : Int) (l : List Int) (j : Nat) (h : j < l.length) : many i (l.drop j) = (if i ≤ rd l (j : Int) then 1 else 0) + many i (l.drop (j + 1)) := by
  unfold many
  rw [List.drop_eq_getElem_cons h, List.countP_cons, rd_get l j h]
  by_cases c : i ≤ l[j]
  · simp [c]; omega
  · simp [c]
/-! ### the given side -/
theorem spec_l1 (l0 l1 : List Int) (h7 : l0.length ≤ 7) (h6 : l1.length ≤ 1000000) (base term commit i : Int) (hb : 0 ≤ base ∧ base ≤ 1000000) (hi : base < i ∧ i ≤ base + (l1.length : Int)) (r : Int) (d : Nat) : ∀ (j c : Nat), j ≤ l0.length → l0.length - j = d → c ≤ j →
    (rd l1 (i - base - 1) = term → 2 * (c + many i (l0.drop j)) > l0.length → r = i) →
    (¬ (rd l1 (i - base - 1) = term ∧ 2 * (c + many i (l0.drop j)) > l0.length) → Ev (fun k => spec_CommitPoint.l0 k l0 l1 base term commit (i - 1)) r) →
    Ev (fun k => spec_CommitPoint.l1 k l0 l1 base term commit i (c : Int) l0 (l0.length : Int) (j : Int)) r := by
  induction d with
  | zero =>
    intro j c hj hd hc h1 h2
    have w1 : wrap64 (i - base) = i - base := w64 (by omega) (by omega)
    have w2 : wrap64 (i - base - 1) = i - base - 1 := w64 (by omega) (by omega)
    have w3 : wrap64 (i - 1) = i - 1 := w64 (by omega) (by omega)
    have w4 : wrap64 (2 * (c : Int)) = 2 * (c : Int) := w64 (by omega) (by omega)
    rw [List.drop_of_length_le (by omega), many_nil] at h1 h2
    simp only [Nat.add_zero] at h1 h2
    have p1 : ¬ (j : Int) < (l0.length : Int) := by omega
    have p2 : 0 ≤ i - base - 1 := by omega
    have p3 : i - base - 1 < (l1.length : Int) := by omega
    refine Ev.step (fun k => by rw [spec_CommitPoint.l1, if_neg p1, w1, w2, w3, w4, if_pos p2, if_pos p3]) ?_
    by_cases ct : rd l1 (i - base - 1) = term
    · by_cases cn : 2 * c > l0.length
      · simp only [if_pos ct, if_pos (show 2 * (c : Int) > (l0.length : Int) by omega)]
        rw [h1 ct cn]
        exact Ev.now _
      · simp only [if_pos ct, if_neg (show ¬ 2 * (c : Int) > (l0.length : Int) by omega)]
        exact h2 (fun h => cn h.2)
    · simp only [if_neg ct]
      exact h2 (fun h => ct h.1)
  | succ d ih =>
    intro j c hj hd hc h1 h2
    have hjl : j < l0.length := by omega
    rw [many_drop i l0 j hjl] at h1 h2
    have p1 : (j : Int) < (l0.length : Int) := by omega
    have p2 : 0 ≤ (j : Int) := by omega
    by_cases c1 : i ≤ rd l0 (j : Int)
    · rw [if_pos c1] at h1 h2
      have p3 : rd l0 (j : Int) ≥ i := c1
      refine Ev.step (fun k => by rw [spec_CommitPoint.l1, if_pos p1, if_pos p2, if_pos p1, if_pos p3, w64n (by omega), w64n (by omega)]) ?_
      exact ih (j + 1) (c + 1) (by omega) (by omega) (by omega) (fun a b => h1 a (by omega)) (fun a => h2 (fun h => a ⟨h.1, by omega⟩))
    · rw [if_neg c1] at h1 h2
      have p3 : ¬ rd l0 (j : Int) ≥ i := c1
      refine Ev.step (fun k => by rw [spec_CommitPoint.l1, if_pos p1, if_pos p2, if_pos p1, if_neg p3, w64n (n := j) (by omega)]) ?_
      exact ih (j + 1) c (by omega) (by omega) (by omega) (fun a b => h1 a (by omega)) (fun a => h2 (fun h => a ⟨h.1, by omega⟩))
theorem spec_go (l0 l1 : List Int) (h7 : l0.length ≤ 7) (h6 : l1.length ≤ 1000000) (base term commit i : Int) (hb : 0 ≤ base ∧ base ≤ 1000000) (hi : base < i ∧ i ≤ base + (l1.length : Int)) (hc : commit < i) (r : Int)
    (h1 : rd l1 (i - base - 1) = term → 2 * many i l0 > l0.length → r = i)
    (h2 : ¬ (rd l1 (i - base - 1) = term ∧ 2 * many i l0 > l0.length) → Ev (fun k => spec_CommitPoint.l0 k l0 l1 base term commit (i - 1)) r) :
    Ev (fun k => spec_CommitPoint.l0 k l0 l1 base term commit i) r := by
  have p1 : i > base := hi.1
  refine Ev.step (fun k => by rw [spec_CommitPoint.l0, if_pos p1, decide_eq_true (show i > commit from hc)]) ?_
  refine Ev.step (fun k => by rw [spec_CommitPoint.j2, if_pos rfl]) ?_
  exact spec_l1 l0 l1 h7 h6 base term commit i hb hi r l0.length 0 0 (by omega) (by omega) (by omega) (by simpa using h1) (by simpa using h2)
theorem spec_stop (l0 l1 : List Int) (base term commit i : Int) (h : ¬ (base < i ∧ commit < i)) : Ev (fun k => spec_CommitPoint.l0 k l0 l1 base term commit i) commit := by
  by_cases c : base < i
  · have p1 : i > base := c
    refine Ev.step (fun k => by rw [spec_CommitPoint.l0, if_pos p1, decide_eq_false (show ¬ i > commit from fun h2 => h ⟨c, h2⟩)]) ?_
    exact Ev.step (fun k => by rw [spec_CommitPoint.j2, if_neg (by decide)]) (Ev.now _)
  · have p1 : ¬ i > base := c
    refine Ev.step (fun k => by rw [spec_CommitPoint.l0, if_neg p1]) ?_
    exact Ev.step (fun k => by rw [spec_CommitPoint.j2, if_neg (by decide)]) (Ev.now _)
/-- The value from place i downwards. -/
theorem down_fuel (l1 : List Int) (base term commit : Int) (n : Nat) : ∀ (m : Nat) (i : Int), (i - base).toNat < n → (i - base).toNat < m → cpDown l1 base term commit n i = cpDown l1 base term commit m i := by
  induction n with
  | zero => intro m i h; omega
  | succ n ih =>
    intro m i h1 h2
    obtain ⟨m, rfl⟩ : ∃ q, m = q + 1 := ⟨m - 1, by omega⟩
    rw [cpDown, cpDown]
    by_cases c : commit < i ∧ base < i
    · rw [if_pos c, if_pos c]
      by_cases ct : rd l1 (i - base - 1) = term
      · rw [if_pos ct, if_pos ct]
      · rw [if_neg ct, if_neg ct]
        exact ih m (i - 1) (by omega) (by omega)
    · rw [if_neg c, if_neg c]
def downV (l1 : List Int) (base term commit i : Int) : Int := cpDown l1 base term commit ((i - base).toNat + 1) i
theorem downV_stop (l1 : List Int) (base term commit i : Int) (h : ¬ (commit < i ∧ base < i)) : downV l1 base term commit i = commit := by
  unfold downV
  rw [cpDown, if_neg h]
theorem downV_go (l1 : List Int) (base term commit i : Int) (h : commit < i ∧ base < i) : downV l1 base term commit i = if rd l1 (i - base - 1) = term then i else downV l1 base term commit (i - 1) := by
  unfold downV
  rw [cpDown, if_pos h, down_fuel l1 base term commit (i - base).toNat ((i - 1 - base).toNat + 1) (i - 1) (by omega) (by omega)]
theorem spec_down (l0 l1 : List Int) (hp : 0 < l0.length) (h7 : l0.length ≤ 7) (h6 : l1.length ≤ 1000000) (base term commit : Int) (hb : 0 ≤ base ∧ base ≤ 1000000) (d : Nat) : ∀ i : Int, i ≤ base + (l1.length : Int) → (i - base).toNat ≤ d →
    Ev (fun k => spec_CommitPoint.l0 k l0 l1 base term commit i) (downV l1 base term commit (if cpMid l0 < i then cpMid l0 else i)) := by
  induction d with
  | zero =>
    intro i hi hd
    have e : downV l1 base term commit (if cpMid l0 < i then cpMid l0 else i) = commit := downV_stop _ _ _ _ _ (by split <;> omega)
    rw [e]
    exact spec_stop l0 l1 base term commit i (by omega)
  | succ d ih =>
    intro i hi hd
    by_cases c : base < i ∧ commit < i
    · refine spec_go l0 l1 h7 h6 base term commit i hb ⟨c.1, hi⟩ c.2 _ (fun h1 h2 => ?_) (fun h => ?_)
      · by_cases cm : cpMid l0 < i
        · exact absurd h2 (many_lt i l0 hp cm)
        · rw [if_neg cm, downV_go _ _ _ _ _ ⟨c.2, c.1⟩, if_pos h1]
      · have g := ih (i - 1) (by omega) (by omega)
        by_cases cm : cpMid l0 < i
        · have e : (if cpMid l0 < i - 1 then cpMid l0 else i - 1) = cpMid l0 := by split <;> omega
          rw [e] at g
          rw [if_pos cm]
          exact g
        · have h2 := many_ge i l0 hp (by omega)
          have ct : ¬ rd l1 (i - base - 1) = term := fun h3 => h ⟨h3, h2⟩
          have e : (if cpMid l0 < i - 1 then cpMid l0 else i - 1) = i - 1 := by split <;> omega
          rw [e] at g
          rw [if_neg cm, downV_go _ _ _ _ _ ⟨c.2, c.1⟩, if_neg ct]
          exact g
    · have e : downV l1 base term commit (if cpMid l0 < i then cpMid l0 else i) = commit := downV_stop _ _ _ _ _ (by split <;> omega)
      rw [e]
      exact spec_stop l0 l1 base term commit i c
theorem spec_none (l1 : List Int) (h6 : l1.length ≤ 1000000) (base term commit : Int) (hb : 0 ≤ base ∧ base ≤ 1000000) (d : Nat) : ∀ i : Int, i ≤ base + (l1.length : Int) → (i - base).toNat ≤ d →
    Ev (fun k => spec_CommitPoint.l0 k [] l1 base term commit i) commit := by
  induction d with
  | zero =>
    intro i hi hd
    exact spec_stop [] l1 base term commit i (by omega)
  | succ d ih =>
    intro i hi hd
    by_cases c : base < i ∧ commit < i
    · refine spec_go [] l1 (by simp) h6 base term commit i hb ⟨c.1, hi⟩ c.2 _ (fun h1 h2 => absurd h2 (by rw [many_nil]; simp)) (fun h => ih (i - 1) (by omega) (by omega))
    · exact spec_stop [] l1 base term commit i c
theorem commit_both (l0 l1 : List Int) (a2 a3 a4 : Int) : ∃ r, Ev (fun k => spec_CommitPoint.f k l0 l1 a2 a3 a4) r ∧ impl_CommitPoint.f l0 l1 a2 a3 a4 = some r := by
  have out : Ev (fun k => spec_CommitPoint.j0 k l0 l1 a2 a3 a4 true) a4 := Ev.step (fun k => by rw [spec_CommitPoint.j0, if_pos rfl]) (Ev.now _)
  unfold spec_CommitPoint.f impl_CommitPoint.f
  by_cases c1 : (l0.length : Int) > 7
  · refine ⟨a4, ?_, by rw [if_pos (by unfold cpBad; omega)]⟩
    simp only [if_pos c1]; exact out
  by_cases c2 : (l1.length : Int) > 1000000
  · refine ⟨a4, ?_, by rw [if_pos (by unfold cpBad; omega)]⟩
    simp only [if_neg c1, if_pos c2]; exact out
  by_cases c3 : a2 < 0
  · refine ⟨a4, ?_, by rw [if_pos (by unfold cpBad; omega)]⟩
    simp only [if_neg c1, if_neg c2, if_pos c3]; exact out
  by_cases c4 : a2 > 1000000
  · refine ⟨a4, ?_, by rw [if_pos (by unfold cpBad; omega)]⟩
    simp only [if_neg c1, if_neg c2, if_neg c3, decide_eq_true c4]; exact out
  have wt : wrap64 (a2 + (l1.length : Int)) = a2 + (l1.length : Int) := w64 (by omega) (by omega)
  simp only [if_neg c1, if_neg c2, if_neg c3, decide_eq_false c4]
  by_cases c5 : l0.length = 0
  · refine ⟨a4, ?_, by rw [if_pos (by unfold cpBad; omega)]⟩
    obtain rfl : l0 = [] := List.length_eq_zero_iff.1 c5
    refine Ev.step (fun k => by rw [spec_CommitPoint.j0, if_neg (by decide), wt]) ?_
    exact spec_none l1 (by omega) a2 a3 a4 ⟨by omega, by omega⟩ l1.length _ (Int.le_refl _) (by omega)
  · refine ⟨downV l1 a2 a3 a4 (cpTop l0 l1 a2), ?_, ?_⟩
    · refine Ev.step (fun k => by rw [spec_CommitPoint.j0, if_neg (by decide), wt]) ?_
      have g := spec_down l0 l1 (by omega) (by omega) (by omega) a2 a3 a4 ⟨by omega, by omega⟩ l1.length _ (Int.le_refl _) (by omega)
      have e : (if cpMid l0 < a2 + (l1.length : Int) then cpMid l0 else a2 + (l1.length : Int)) = cpTop l0 l1 a2 := by unfold cpTop; split <;> split <;> omega
      rw [e] at g
      exact g
    · rw [if_neg (by unfold cpBad; omega)]
      unfold downV
      have ht : cpTop l0 l1 a2 ≤ a2 + (l1.length : Int) := by unfold cpTop; split <;> omega
      rw [down_fuel l1 a2 a3 a4 (l1.length + 1) ((cpTop l0 l1 a2 - a2).toNat + 1) _ (by omega) (by omega)]
theorem FnExactCommitPoint : laws_FnExactCommitPoint.Pure := by
  intro l0 l1 a2 a3 a4 _ _ _ _ _ _ _ _ _
  apply Ev.rounds
  unfold laws_FnExactCommitPoint.f
  by_cases c1 : (l0.length : Int) > 1048576
  · simp only [if_pos c1]
    exact Ev.now _
  by_cases c2 : (l1.length : Int) > 1048576
  · simp only [if_neg c1, if_pos c2]
    exact Ev.now _
  simp only [if_neg c1, if_neg c2]
  obtain ⟨r, hs, hi⟩ := commit_both l0 l1 a2 a3 a4
  have t0 := toIntS_ev l0 (by omega)
  have t1 := toIntS_ev l1 (by omega)
  refine Ev.bind t0 (Ev.bind t1 (Ev.bind hs (Ev.bind t0 (Ev.bind t1 ?_))))
  simp only [hi, Option.bind_some, if_true]
  refine Ev.bind t0 (Ev.bind (eqIntS_ev l0 (by omega)) ?_)
  simp only [if_true]
  refine Ev.bind t1 (Ev.bind (eqIntS_ev l1 (by omega)) ?_)
  simp only [if_true]
  exact Ev.now _

end Go.Proofs.Yticehbfbhnheaaa.Pure
