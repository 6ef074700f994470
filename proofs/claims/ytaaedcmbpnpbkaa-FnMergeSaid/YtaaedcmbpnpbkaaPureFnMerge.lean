/- A log cut and appended to as MergePoint tells holds the news and loses nothing that agrees; merging again changes nothing: at every draw. Conditions: none beyond the statement's own. -/
import Derived.Test.YtaaedcmbpnpbkaaXFnMergex3
import Derived.Test.YtaaedcmbpnpbkaaAid
import Derived.Test.YtaaedcmbpnpbkaaSized
namespace Go.Proofs.Ytaaedcmbpnpbkaa.Pure
set_option linter.unusedVariables false
open Go.RowKit Go.Proofs.Ytaaedcmbpnpbkaa.XFnMerge Go.Proofs.YtaaedcmbpnpbkaaW.PrintWords Go.Proofs.YtaaedcmbpnpbkaaW.PrintLast
open Go.Proofs.Ytaaedcmbpnpbkaa.Aid

/-- What the draw of a number tells of an unsigned number. -/
theorem u64_range (x : Int) : 0 ≤ IntKind.u64.wrap x ∧ IntKind.u64.wrap x < 18446744073709551616 := by
  simp only [IntKind.wrap, IntKind.bits, IntKind.signed]
  simp
  omega

theorem u64_in {x : Int} (h0 : 0 ≤ x) (h1 : x < 18446744073709551616) : IntKind.u64.wrap x = x := by
  simp only [IntKind.wrap, IntKind.bits, IntKind.signed]
  simp
  omega

theorem pick_some (X a : Int) (hX0 : 0 ≤ X) (hX : X < 18446744073709551616) (h1 : ¬ a ≤ 1) (ha : a ≤ 4611686018427387904) :
    0 ≤ wrap64 (Int.tmod (X / 8589934592) (IntKind.u64.wrap a)) ∧ wrap64 (Int.tmod (X / 8589934592) (IntKind.u64.wrap a)) < a := by
  have e : IntKind.u64.wrap a = a := u64_in (by omega) (by omega)
  rw [e, Int.tmod_eq_emod_of_nonneg (by omega)]
  have g0 := Int.emod_nonneg (X / 8589934592) (show a ≠ 0 by omega)
  have g1 := Int.emod_lt_of_pos (X / 8589934592) (show 0 < a by omega)
  rw [w64 (by omega) (by omega)]
  exact ⟨g0, g1⟩

theorem N_some (s : List Int) (hs : s.length ≤ 1048576) (i x a : Int) (hi : 0 ≤ i) (ha : a ≤ 4611686018427387904) :
    ∃ r i' x', spec_l1Src_N.f s i x a = some (r, i', x') ∧ 0 ≤ i' ∧ 0 ≤ r ∧ (r < a ∨ r = 0) := by
  unfold spec_l1Src_N.f
  by_cases c : i < (s.length : Int)
  · rw [if_pos c, if_pos hi]
    by_cases c1 : a ≤ 1
    · rw [if_pos c1]
      exact ⟨_, _, _, rfl, by rw [w64 (by omega) (by omega)]; omega, by omega, .inr rfl⟩
    · rw [if_neg c1, if_neg (by rw [u64_in (by omega) (by omega)]; omega)]
      have hr := u64_range ((IntKind.u64.wrap ((IntKind.u64.wrap (x + (IntKind.u64.wrap ((IntKind.u64.wrap (rd s i)) + 1)))) * 6364136223846793005)) + 1442695040888963407)
      have hp := pick_some _ a hr.1 hr.2 c1 ha
      exact ⟨_, _, _, rfl, by rw [w64 (by omega) (by omega)]; omega, hp.1, .inl hp.2⟩
  · rw [if_neg c]
    by_cases c1 : a ≤ 1
    · rw [if_pos c1]
      exact ⟨_, _, _, rfl, hi, by omega, .inr rfl⟩
    · rw [if_neg c1, if_neg (by rw [u64_in (by omega) (by omega)]; omega)]
      have hr := u64_range ((IntKind.u64.wrap (IntKind.u64.wrap x * 6364136223846793005)) + 1442695040888963407)
      have hp := pick_some _ a hr.1 hr.2 c1 ha
      exact ⟨_, _, _, rfl, hi, hp.1, .inl hp.2⟩

theorem One_some (s : List Int) (hs : s.length ≤ 1048576) (i x a : Int) (hi : 0 ≤ i) (ha : a ≤ 4611686018427387904) :
    ∃ r i' x', spec_l1Src_One.f s i x a = some (r, i', x') ∧ 0 ≤ i' := by
  unfold spec_l1Src_One.f
  obtain ⟨r, i', x', e, h1, _, _⟩ := N_some s hs i x a hi ha
  rw [e]
  exact ⟨_, _, _, rfl, h1⟩

theorem Wild_some (s : List Int) (hs : s.length ≤ 1048576) (i x : Int) (hi : 0 ≤ i) :
    ∃ r i' x', spec_l1Src_Wild.f s i x = some (r, i', x') ∧ 0 ≤ i' := by
  unfold spec_l1Src_Wild.f
  obtain ⟨r, i', x', e, h1, _, _⟩ := N_some s hs i x 6 hi (by omega)
  rw [e]
  simp only [Option.bind_some]
  by_cases c0 : r = 0
  · rw [if_pos c0]; exact ⟨_, _, _, rfl, h1⟩
  rw [if_neg c0]
  by_cases c1 : r = 1
  · rw [if_pos c1]; exact ⟨_, _, _, rfl, h1⟩
  rw [if_neg c1]
  by_cases c2 : r = 2
  · rw [if_pos c2]; exact ⟨_, _, _, rfl, h1⟩
  rw [if_neg c2]
  by_cases c3 : r = 3
  · rw [if_pos c3]
    obtain ⟨r, i2, x2, e, h2, _, _⟩ := N_some s hs i' x' 100000 h1 (by omega)
    rw [e]; exact ⟨_, _, _, rfl, h2⟩
  rw [if_neg c3]
  by_cases c4 : r = 4
  · rw [if_pos c4]
    obtain ⟨r, i2, x2, e, h2, _, _⟩ := N_some s hs i' x' 1000 h1 (by omega)
    rw [e]; exact ⟨_, _, _, rfl, h2⟩
  rw [if_neg c4]
  obtain ⟨r, i2, x2, e, h2, _, _⟩ := N_some s hs i' x' 20 h1 (by omega)
  rw [e]; exact ⟨_, _, _, rfl, h2⟩

theorem terms_l0 (s : List Int) (hs : s.length ≤ 1048576) (n : Int) (hn : n ≤ 1000) (d : Nat) : ∀ (k : Nat) (acc : List Int) (t i s1 s2 : Int), 0 ≤ s1 → 0 ≤ i → n - i ≤ d → d < k → acc.length + d ≤ 1000 →
    ∃ r, spec_l5Terms.l0 k n acc t i s s1 s2 = some r ∧ r.1.length ≤ acc.length + d ∧ 0 ≤ r.2.1 := by
  induction d with
  | zero =>
    intro k acc t i s1 s2 h1 hi hd hk ha
    obtain ⟨k, rfl⟩ : ∃ m, k = m + 1 := ⟨k - 1, by omega⟩
    simp only [spec_l5Terms.l0]
    rw [if_neg (by omega)]
    exact ⟨_, rfl, by simp, h1⟩
  | succ d ih =>
    intro k acc t i s1 s2 h1 hi hd hk ha
    obtain ⟨k, rfl⟩ : ∃ m, k = m + 1 := ⟨k - 1, by omega⟩
    simp only [spec_l5Terms.l0]
    by_cases c : i < n
    · rw [if_pos c]
      obtain ⟨r, i', x', e, g1, _, _⟩ := N_some s hs s1 s2 5 h1 (by omega)
      rw [e]
      simp only [Option.bind_some]
      rw [if_pos (by omega), w64 (x := i + 1) (by omega) (by omega)]
      obtain ⟨q, hq, hl, h0⟩ := ih k (acc ++ [wrap64 (t + (wrap64 (Int.tdiv r 4)))]) (wrap64 (t + (wrap64 (Int.tdiv r 4)))) (i + 1) i' x' g1 (by omega) (by omega) (by omega) (by simp; omega)
      refine ⟨q, hq, ?_, h0⟩
      simp at hl
      omega
    · rw [if_neg c]
      exact ⟨_, rfl, by simp <;> omega, h1⟩

theorem terms_f (s : List Int) (hs : s.length ≤ 1048576) (n : Int) (hn : n ≤ 40) (k : Nat) (hk : 41 < k) (s1 s2 : Int) (h1 : 0 ≤ s1) :
    ∃ r, spec_l5Terms.f k s s1 s2 n = some r ∧ r.1.length ≤ 40 ∧ 0 ≤ r.2.1 := by
  unfold spec_l5Terms.f
  obtain ⟨r, i', x', e, g1, _, _⟩ := N_some s hs s1 s2 2 h1 (by omega)
  rw [e]
  simp only [Option.bind_some]
  obtain ⟨q, hq, hl, h0⟩ := terms_l0 s hs n (by omega) 40 k [] r 0 i' x' g1 (by omega) (by omega) (by omega) (by simp)
  exact ⟨q, hq, by simpa using hl, h0⟩

def Small (r : Int × List Int × Int × List Int) : Prop := r.2.1.length ≤ 100 ∧ r.2.2.2.length ≤ 100

theorem draw_j4 (s : List Int) (hs : s.length ≤ 1048576) (k : Nat) (hk : 0 < k) (b p : Int) (t n : List Int) (s1 s2 : Int) (h1 : 0 ≤ s1) (ht : t.length ≤ 100) (hn : n.length ≤ 100) :
    ∃ r, spec_DrawMergePoint.j4 k b t p n s s1 s2 = some r ∧ Small r := by
  obtain ⟨k, rfl⟩ : ∃ m, k = m + 1 := ⟨k - 1, by omega⟩
  simp only [spec_DrawMergePoint.j4]
  obtain ⟨r, i', x', e, g1⟩ := One_some s hs s1 s2 12 h1 (by omega)
  rw [e]
  simp only [Option.bind_some]
  by_cases c : r = true
  · rw [if_pos c]
    obtain ⟨r2, i2, x2, e2, g2⟩ := Wild_some s hs i' x' g1
    rw [e2]
    simp only [Option.bind_some]
    obtain ⟨r3, i3, x3, e3, g3, g4, g5⟩ := N_some s hs i2 x2 3 g2 (by omega)
    rw [e3]
    simp only [Option.bind_some, List.length_cons, List.length_nil]
    rw [if_pos g4, if_pos (by omega)]
    exact ⟨_, rfl, ht, hn⟩
  · rw [if_neg c]
    exact ⟨_, rfl, ht, hn⟩

theorem draw_j3 (s : List Int) (hs : s.length ≤ 1048576) (k : Nat) (hk : 1 < k) (b p : Int) (t n : List Int) (s1 s2 : Int) (h1 : 0 ≤ s1) (ht : t.length ≤ 100) (hn : n.length ≤ 100) :
    ∃ r, spec_DrawMergePoint.j3 k b t p n s s1 s2 = some r ∧ Small r := by
  obtain ⟨k, rfl⟩ : ∃ m, k = m + 1 := ⟨k - 1, by omega⟩
  simp only [spec_DrawMergePoint.j3]
  obtain ⟨r, i', x', e, g1⟩ := One_some s hs s1 s2 12 h1 (by omega)
  rw [e]
  simp only [Option.bind_some]
  by_cases c : r = true
  · rw [if_pos c]
    obtain ⟨r2, i2, x2, e2, g2⟩ := Wild_some s hs i' x' g1
    rw [e2]
    simp only [Option.bind_some]
    obtain ⟨r3, i3, x3, e3, g3, g4, g5⟩ := N_some s hs i2 x2 3 g2 (by omega)
    rw [e3]
    simp only [Option.bind_some, List.length_cons, List.length_nil]
    rw [if_pos g4, if_pos (by omega)]
    exact draw_j4 s hs k (by omega) _ p t n i3 x3 g3 ht hn
  · rw [if_neg c]
    exact draw_j4 s hs k (by omega) b p t n i' x' g1 ht hn

theorem draw_l1 (s : List Int) (hs : s.length ≤ 1048576) (b p : Int) (t : List Int) (ht : t.length ≤ 100) (d : Nat) : ∀ (k : Nat) (n : List Int) (j s1 s2 : Int), 0 ≤ s1 → j ≤ d → d + 2 < k → n.length + d ≤ 100 →
    ∃ r, spec_DrawMergePoint.l1 k b t p n j s s1 s2 = some r ∧ Small r := by
  induction d with
  | zero =>
    intro k n j s1 s2 h1 hj hk hn
    obtain ⟨k, rfl⟩ : ∃ m, k = m + 1 := ⟨k - 1, by omega⟩
    simp only [spec_DrawMergePoint.l1]
    rw [if_neg (by omega)]
    by_cases c : (n.length : Int) > 0
    · rw [if_pos c]
      obtain ⟨r, i', x', e, g1⟩ := One_some s hs s1 s2 3 h1 (by omega)
      rw [e]
      simp only [Option.bind_some]
      by_cases c1 : r = true
      · rw [if_pos c1]
        obtain ⟨r3, i3, x3, e3, g3, g4, g5⟩ := N_some s hs i' x' (n.length : Int) g1 (by omega)
        rw [e3]
        simp only [Option.bind_some]
        rw [if_pos g4, if_pos (by omega)]
        exact draw_j3 s hs k (by omega) b p t _ i3 x3 g3 ht (by simp; omega)
      · rw [if_neg c1]
        exact draw_j3 s hs k (by omega) b p t n i' x' g1 ht (by omega)
    · rw [if_neg c]
      exact draw_j3 s hs k (by omega) b p t n s1 s2 h1 ht (by omega)
  | succ d ih =>
    intro k n j s1 s2 h1 hj hk hn
    by_cases c0 : j ≤ d
    · exact ih k n j s1 s2 h1 c0 (by omega) (by omega)
    obtain ⟨k, rfl⟩ : ∃ m, k = m + 1 := ⟨k - 1, by omega⟩
    simp only [spec_DrawMergePoint.l1]
    rw [if_pos (by omega)]
    obtain ⟨r, i', x', e, g1, _, _⟩ := N_some s hs s1 s2 4 h1 (by omega)
    rw [e]
    simp only [Option.bind_some]
    rw [if_pos (by omega), w64 (x := j - 1) (by omega) (by omega)]
    exact ih k (n ++ [r]) (j - 1) i' x' g1 (by omega) (by omega) (by simp; omega)

theorem draw_l0 (s : List Int) (hs : s.length ≤ 1048576) (b p : Int) (t : List Int) (ht : t.length ≤ 100) (hb0 : 0 ≤ b) (hb : b ≤ 5) (hp0 : 0 ≤ p) (hp : p ≤ 1000) (d : Nat) :
    ∀ (k : Nat) (n : List Int) (i s1 s2 : Int), 0 ≤ s1 → p ≤ i → p + 8 - i ≤ d → 2 * d + 20 < k → n.length + d ≤ 90 →
    ∃ r, spec_DrawMergePoint.l0 k b t p n i s s1 s2 = some r ∧ Small r := by
  have fin : ∀ (k : Nat) (n : List Int) (i s1 s2 : Int), 0 ≤ s1 → 18 < k → n.length ≤ 90 → ∃ r, spec_DrawMergePoint.j1 k b t p n i false s s1 s2 = some r ∧ Small r := by
    intro k n i s1 s2 h1 hk hn
    obtain ⟨k, rfl⟩ : ∃ m, k = m + 1 := ⟨k - 1, by omega⟩
    simp only [spec_DrawMergePoint.j1]
    rw [if_neg (by decide)]
    obtain ⟨r, i', x', e, g1, g2, g3⟩ := N_some s hs s1 s2 4 h1 (by omega)
    rw [e]
    simp only [Option.bind_some]
    exact draw_l1 s hs b p t ht 4 k n r i' x' g1 (by omega) (by omega) (by omega)
  induction d with
  | zero =>
    intro k n i s1 s2 h1 hi hd hk hn
    obtain ⟨k, rfl⟩ : ∃ m, k = m + 1 := ⟨k - 1, by omega⟩
    simp only [spec_DrawMergePoint.l0]
    rw [w64 (x := p + 8) (by omega) (by omega), if_neg (by omega)]
    exact fin k n i s1 s2 h1 (by omega) (by omega)
  | succ d ih =>
    intro k n i s1 s2 h1 hi hd hk hn
    obtain ⟨k, rfl⟩ : ∃ m, k = m + 1 := ⟨k - 1, by omega⟩
    simp only [spec_DrawMergePoint.l0]
    rw [w64 (x := p + 8) (by omega) (by omega)]
    by_cases c : i < p + 8
    · rw [if_pos c, w64 (x := i - b) (by omega) (by omega)]
      by_cases c1 : i - b < (t.length : Int)
      · rw [decide_eq_true c1]
        obtain ⟨k, rfl⟩ : ∃ m, k = m + 1 := ⟨k - 1, by omega⟩
        simp only [spec_DrawMergePoint.j1]
        rw [if_pos trivial, w64 (x := i - b) (by omega) (by omega), w64 (x := i + 1) (by omega) (by omega)]
        by_cases c2 : i ≥ b
        · rw [if_pos c2, if_pos (by omega), if_pos c1, if_pos (by omega)]
          exact ih k _ (i + 1) s1 s2 h1 (by omega) (by omega) (by omega) (by simp; omega)
        · rw [if_neg c2, if_pos (by omega)]
          exact ih k _ (i + 1) s1 s2 h1 (by omega) (by omega) (by omega) (by simp; omega)
      · rw [decide_eq_false c1]
        exact fin k n i s1 s2 h1 (by omega) (by omega)
    · rw [if_neg c]
      exact fin k n i s1 s2 h1 (by omega) (by omega)

theorem ex_bind {α β : Type} {x : Option α} {f : α → Option β} {P : α → Prop} {Q : β → Prop} (h : ∃ a, x = some a ∧ P a) (k : ∀ a, P a → ∃ r, f a = some r ∧ Q r) : ∃ r, x.bind f = some r ∧ Q r := by
  obtain ⟨a, rfl, hp⟩ := h
  exact k a hp
def Drawn (a : Int) (r : Int × Int × Int) : Prop := 0 ≤ r.2.1 ∧ 0 ≤ r.1 ∧ (r.1 < a ∨ r.1 = 0)
theorem N_ex (s : List Int) (hs : s.length ≤ 1048576) (i x a : Int) (hi : 0 ≤ i) (ha : a ≤ 4611686018427387904) : ∃ r, spec_l1Src_N.f s i x a = some r ∧ Drawn a r := by
  obtain ⟨r, i', x', e, h⟩ := N_some s hs i x a hi ha
  exact ⟨_, e, h⟩
def Listed (r : List Int × Int × Int) : Prop := r.1.length ≤ 40 ∧ 0 ≤ r.2.1
def Begun (s : List Int) (r : List Int × Int × Int) : Prop := r.1 = s ∧ 0 ≤ r.2.1
theorem begun (s : List Int) : ∃ r, spec_L1Draw.f s = some r ∧ Begun s r := ⟨_, rfl, rfl, Int.le_refl 0⟩
theorem size_ex (s : List Int) : ∃ z, spec_L1Size.f s 20 = some z ∧ z ≤ 20 := by
  unfold spec_L1Size.f
  by_cases c : (wrap64 (2 + (wrap64 ((s.length : Int) / 2)))) > 20
  · rw [if_pos c]; exact ⟨_, rfl, by omega⟩
  · rw [if_neg c]; exact ⟨_, rfl, by omega⟩

theorem draw_f (s : List Int) (hs : s.length ≤ 1048576) (k : Nat) (hk : 100 < k) : ∃ r, spec_DrawMergePoint.f k s = some r ∧ Small r := by
  unfold spec_DrawMergePoint.f
  refine ex_bind (begun s) (fun r0 h0 => ?_)
  obtain ⟨s0, i0, x0⟩ := r0
  obtain ⟨e0, g0⟩ := h0
  dsimp only at e0 g0 ⊢
  subst e0
  refine ex_bind (N_ex s0 hs i0 x0 5 g0 (by omega)) (fun r1 h1 => ?_)
  obtain ⟨b, i1, x1⟩ := r1
  obtain ⟨g1, hb0, hb⟩ := h1
  dsimp only at g1 hb0 hb ⊢
  refine ex_bind (size_ex s0) (fun z hz => ?_)
  refine ex_bind (N_ex s0 hs i1 x1 z g1 (by omega)) (fun r2 h2 => ?_)
  obtain ⟨m, i2, x2⟩ := r2
  obtain ⟨g2, hm0, hm⟩ := h2
  dsimp only at g2 hm0 hm ⊢
  refine ex_bind (terms_f s0 hs m (by omega) k (by omega) i2 x2 g2) (fun r3 h3 => ?_)
  obtain ⟨t, i3, x3⟩ := r3
  obtain ⟨ht, g3⟩ := h3
  dsimp only at ht g3 ⊢
  rw [w64 (x := b + (t.length : Int)) (by omega) (by omega), w64 (x := b + (t.length : Int) + 2) (by omega) (by omega)]
  refine ex_bind (N_ex s0 hs i3 x3 (b + (t.length : Int) + 2) g3 (by omega)) (fun r4 h4 => ?_)
  obtain ⟨p, i4, x4⟩ := r4
  obtain ⟨g4, hp0, hp⟩ := h4
  dsimp only at g4 hp0 hp ⊢
  refine ex_bind (N_ex s0 hs i4 x4 9 g4 (by omega)) (fun r5 h5 => ?_)
  obtain ⟨c, i5, x5⟩ := r5
  obtain ⟨g5, hc0, hc⟩ := h5
  dsimp only at g5 hc0 hc ⊢
  refine ex_bind (terms_f s0 hs c (by omega) k (by omega) i5 x5 g5) (fun r6 h6 => ?_)
  obtain ⟨n, i6, x6⟩ := r6
  obtain ⟨hn, g6⟩ := h6
  dsimp only at hn g6 ⊢
  refine ex_bind (N_ex s0 hs i6 x6 3 g6 (by omega)) (fun r7 h7 => ?_)
  obtain ⟨q, i7, x7⟩ := r7
  obtain ⟨g7, hq0, hq⟩ := h7
  dsimp only at g7 hq0 hq ⊢
  by_cases c1 : q > 0
  · rw [if_pos c1]
    exact draw_l0 s0 hs b p t (by omega) (by omega) (by omega) (by omega) (by omega) 8 k [] p i7 x7 g7 (by omega) (by omega) (by omega) (by simp)
  · rw [if_neg c1]
    exact draw_j3 s0 hs k (by omega) b p t n i7 x7 g7 (by omega) (by omega)

/-- News j lies at its place, or ahead of the log. -/
def At (b p : Int) (l n : List Int) (j : Nat) : Prop := p + 1 + (j : Int) ≤ b ∨ (p + j - b < (l.length : Int) ∧ rd l (p + j - b) = rd n (j : Int))
def Fit (b p : Int) (l n : List Int) (m : Nat) : Prop := ∀ j, j < m → At b p l n j

/-- What MergePoint tells. -/
def Told (b p : Int) (l n : List Int) (r : Int × Int) : Prop := ∃ m : Nat, r.2 = (m : Int) ∧ m ≤ n.length ∧ Fit b p l n m ∧
  ((m = n.length ∧ r.1 = 0) ∨ (m < n.length ∧ b < p + 1 + m ∧ (l.length : Int) ≤ p + m - b ∧ r.1 = 0) ∨ (m < n.length ∧ b < p + 1 + m ∧ p + m - b < (l.length : Int) ∧ rd l (p + m - b) ≠ rd n (m : Int) ∧ r.1 = p + 1 + m))

theorem fit_succ {b p : Int} {l n : List Int} {m : Nat} (h : Fit b p l n m) (g : At b p l n m) : Fit b p l n (m + 1) := by
  intro j hj
  by_cases e : j = m
  · rw [e]; exact g
  · exact h j (by omega)

theorem mp_l0 (b p : Int) (t n : List Int) (hb0 : 0 ≤ b) (hb : b ≤ 1000) (hp0 : 0 ≤ p) (hp : p ≤ 1000) (ht : t.length ≤ 1000) (hn : n.length ≤ 1000) (d : Nat) :
    ∀ (k i : Nat), i ≤ n.length → n.length - i = d → d < k → Fit b p t n i →
    ∃ r, impl_MergePoint.l0 k b t p n n (n.length : Int) (i : Int) = some r ∧ Told b p t n r := by
  induction d with
  | zero =>
    intro k i hi hd hk hf
    obtain ⟨k, rfl⟩ : ∃ m, k = m + 1 := ⟨k - 1, by omega⟩
    simp only [impl_MergePoint.l0]; rw [if_neg (by omega)]
    exact ⟨_, rfl, i, by simp; omega, hi, hf, .inl ⟨by omega, rfl⟩⟩
  | succ d ih =>
    intro k i hi hd hk hf
    obtain ⟨k, rfl⟩ : ∃ m, k = m + 1 := ⟨k - 1, by omega⟩
    have e1 : wrap64 ((wrap64 (p + 1)) + (i : Int)) = p + 1 + i := by rw [w64 (x := p + 1) (by omega) (by omega), w64 (by omega) (by omega)]
    have e3 : wrap64 ((wrap64 (p + 1 + (i : Int) - b)) - 1) = p + i - b := by rw [w64 (x := p + 1 + (i : Int) - b) (by omega) (by omega), w64 (by omega) (by omega)]; omega
    simp only [impl_MergePoint.l0]
    rw [e1, e3, w64n (by omega), if_pos (by omega), if_pos (by omega), if_pos (by omega)]
    by_cases c1 : p + 1 + (i : Int) ≤ b
    · rw [if_pos c1]; exact ih k (i + 1) (by omega) (by omega) (by omega) (fit_succ hf (.inl c1))
    · rw [if_neg c1]
      by_cases c2 : p + (i : Int) - b ≥ (t.length : Int)
      · rw [if_pos c2]; exact ⟨_, rfl, i, rfl, hi, hf, .inr (.inl ⟨by omega, by omega, c2, rfl⟩)⟩
      · rw [if_neg c2, if_pos (by omega), if_pos (by omega)]
        by_cases c3 : rd t (p + (i : Int) - b) = rd n (i : Int)
        · rw [if_pos c3]; exact ih k (i + 1) (by omega) (by omega) (by omega) (fit_succ hf (.inr ⟨by omega, c3⟩))
        · rw [if_neg c3]; exact ⟨_, rfl, i, rfl, hi, hf, .inr (.inr ⟨by omega, by omega, by omega, c3, rfl⟩)⟩

theorem mp_f (b p : Int) (t n : List Int) (hb0 : 0 ≤ b) (hb : b ≤ 1000) (hp0 : 0 ≤ p) (hp : p ≤ 1000) (ht : t.length ≤ 1000) (hn : n.length ≤ 1000) (k : Nat) (hk : 1001 < k) :
    ∃ r, impl_MergePoint.f k b t p n = some r ∧ Told b p t n r := by
  obtain ⟨k, rfl⟩ : ∃ m, k = m + 1 := ⟨k - 1, by omega⟩
  unfold impl_MergePoint.f
  rw [if_neg (by omega), if_neg (by omega), if_neg (by omega), decide_eq_false (by omega)]
  simp only [impl_MergePoint.j0]
  rw [if_neg (by decide)]
  exact mp_l0 b p t n hb0 hb hp0 hp ht hn n.length k 0 (by omega) (by omega) (by omega) (fun j hj => by omega)

/-- Where all news fit, nothing is to be done. -/
theorem told_fit {b p : Int} {l n : List Int} {r : Int × Int} (h : Told b p l n r) (hf : Fit b p l n n.length) : r = (0, (n.length : Int)) := by
  obtain ⟨c, s⟩ := r
  obtain ⟨m, e, hm, _, h⟩ := h
  simp only at e h
  subst e
  rcases h with ⟨h1, h2⟩ | ⟨h1, h2, h3, _⟩ | ⟨h1, h2, h3, h4, _⟩
  · rw [h1, h2]
  · rcases hf m h1 with g | ⟨g, _⟩ <;> omega
  · rcases hf m h1 with g | ⟨_, g⟩
    · omega
    · exact absurd g h4

theorem rd_left (a c : List Int) (q : Int) (h0 : 0 ≤ q) (h : q < (a.length : Int)) : rd (a ++ c) q = rd a q := by
  unfold rd
  rw [List.getD_eq_getElem?_getD, List.getD_eq_getElem?_getD, List.getElem?_append_left (by omega)]
theorem rd_right (a c : List Int) (q : Int) (h : (a.length : Int) ≤ q) : rd (a ++ c) q = rd c (q - a.length) := by
  unfold rd
  rw [List.getD_eq_getElem?_getD, List.getD_eq_getElem?_getD, List.getElem?_append_right (by omega), show q.toNat - a.length = (q - (a.length : Int)).toNat by omega]
theorem rd_drop (a : List Int) (m : Nat) (q : Int) (h : 0 ≤ q) : rd (a.drop m) q = rd a (q + m) := by
  unfold rd
  rw [List.getD_eq_getElem?_getD, List.getD_eq_getElem?_getD, List.getElem?_drop, show m + q.toNat = (q + (m : Int)).toNat by omega]
theorem rd_take (a : List Int) (m : Nat) (q : Int) (h0 : 0 ≤ q) (h : q < (m : Int)) : rd (a.take m) q = rd a q := by
  unfold rd
  rw [List.getD_eq_getElem?_getD, List.getD_eq_getElem?_getD, List.getElem?_take_of_lt (by omega)]

/-- A log cut at the place of news m, and the news from m on behind it. -/
theorem fit_join {b p : Int} {a t n : List Int} {m : Nat} (ha : (a.length : Int) = p + m - b) (hm : m ≤ n.length) (hf : Fit b p t n m) (hat : ∀ q : Int, 0 ≤ q → q < (a.length : Int) → rd a q = rd t q) :
    Fit b p (a ++ n.drop m) n n.length := by
  intro j hj
  by_cases c : p + 1 + (j : Int) ≤ b
  · exact .inl c
  refine .inr ⟨by simp; omega, ?_⟩
  by_cases c1 : j < m
  · rw [rd_left _ _ _ (by omega) (by omega), hat _ (by omega) (by omega)]
    rcases hf j c1 with g | ⟨_, g⟩
    · omega
    · exact g
  · rw [rd_right _ _ _ (by omega), rd_drop _ _ _ (by omega)]
    rw [show p + (j : Int) - b - (a.length : Int) + (m : Int) = (j : Int) by omega]

theorem merge_l1 (b p : Int) (t n l : List Int) (hb0 : 0 ≤ b) (hb : b ≤ 1000) (hp0 : 0 ≤ p) (hp : p ≤ 1000) (ht : t.length ≤ 1000) (hl : l.length ≤ 1000) (hn : n.length ≤ 1000)
    (hfit : Fit b p l n n.length) (hsame : Fit b p t n n.length → l = t) (d : Nat) :
    ∀ (k i : Nat) (y : Bool), i ≤ n.length → n.length - i = d → d + 1002 < k → (y = true → Fit b p t n i) →
    laws_FnMerge.l1 k b t p n l y n (n.length : Int) (i : Int) = some true := by
  induction d with
  | zero =>
    intro k i y hi hd hk hf
    obtain ⟨k, rfl⟩ : ∃ m, k = m + 1 := ⟨k - 1, by omega⟩
    simp only [laws_FnMerge.l1]; rw [if_neg (by omega)]
    obtain ⟨r, hr, hT⟩ := mp_f b p l n hb0 hb hp0 hp hl hn k (by omega)
    have e := told_fit hT hfit
    subst e
    by_cases c : y = true
    · rw [if_pos c]
      have he : l = t := hsame (by have := hf c; rwa [show i = n.length by omega] at this)
      rw [if_pos (by rw [he])]
      simp only [Option.bind_some, List.nil_append, List.length_nil]
      rw [if_pos (by omega), if_pos (by omega), hr]
      simp
    · rw [if_neg c]
      simp only [Option.bind_some, List.nil_append, List.length_nil]
      rw [if_pos (by omega), if_pos (by omega), hr]
      simp
  | succ d ih =>
    intro k i y hi hd hk hf
    obtain ⟨k, rfl⟩ : ∃ m, k = m + 1 := ⟨k - 1, by omega⟩
    have e1 : wrap64 ((wrap64 (p + 1)) + (i : Int)) = p + 1 + i := by rw [w64 (x := p + 1) (by omega) (by omega), w64 (by omega) (by omega)]
    have e3 : wrap64 ((wrap64 (p + 1 + (i : Int) - b)) - 1) = p + i - b := by rw [w64 (x := p + 1 + (i : Int) - b) (by omega) (by omega), w64 (by omega) (by omega)]; omega
    simp only [laws_FnMerge.l1]
    rw [e1, e3, w64n (by omega), if_pos (by omega), if_pos (by omega), if_pos (by omega)]
    by_cases c1 : p + 1 + (i : Int) > b
    · rw [if_pos c1]
      by_cases c2 : p + (i : Int) - b ≥ (t.length : Int)
      · rw [if_pos c2]; exact ih k (i + 1) false (by omega) (by omega) (by omega) (fun h => by cases h)
      · rw [if_neg c2, if_pos (by omega), if_pos (by omega)]
        by_cases c3 : rd t (p + (i : Int) - b) = rd n (i : Int)
        · rw [if_pos c3]; exact ih k (i + 1) y (by omega) (by omega) (by omega) (fun h => fit_succ (hf h) (.inr ⟨by omega, c3⟩))
        · rw [if_neg c3]; exact ih k (i + 1) false (by omega) (by omega) (by omega) (fun h => by cases h)
    · rw [if_neg c1]; exact ih k (i + 1) y (by omega) (by omega) (by omega) (fun h => fit_succ (hf h) (.inl (by omega)))

theorem merge_l0 (b p : Int) (t n l : List Int) (hb0 : 0 ≤ b) (hb : b ≤ 1000) (hp0 : 0 ≤ p) (hp : p ≤ 1000) (ht : t.length ≤ 1000) (hl : l.length ≤ 1000) (hn : n.length ≤ 1000)
    (hfit : Fit b p l n n.length) (hsame : Fit b p t n n.length → l = t) (d : Nat) :
    ∀ (k i : Nat), i ≤ n.length → n.length - i = d → d + 2003 < k →
    laws_FnMerge.l0 k b t p n l n (n.length : Int) (i : Int) = some true := by
  induction d with
  | zero =>
    intro k i hi hd hk
    obtain ⟨k, rfl⟩ : ∃ m, k = m + 1 := ⟨k - 1, by omega⟩
    simp only [laws_FnMerge.l0]; rw [if_neg (by omega)]
    exact merge_l1 b p t n l hb0 hb hp0 hp ht hl hn hfit hsame n.length k 0 true (by omega) (by omega) (by omega) (fun _ j hj => by omega)
  | succ d ih =>
    intro k i hi hd hk
    obtain ⟨k, rfl⟩ : ∃ m, k = m + 1 := ⟨k - 1, by omega⟩
    have e1 : wrap64 ((wrap64 (p + 1)) + (i : Int)) = p + 1 + i := by rw [w64 (x := p + 1) (by omega) (by omega), w64 (by omega) (by omega)]
    have e3 : wrap64 ((wrap64 (p + 1 + (i : Int) - b)) - 1) = p + i - b := by rw [w64 (x := p + 1 + (i : Int) - b) (by omega) (by omega), w64 (by omega) (by omega)]; omega
    simp only [laws_FnMerge.l0]
    rw [e1, e3, w64n (by omega), if_pos (by omega), if_pos (by omega), if_pos (by omega)]
    have g := ih k (i + 1) (by omega) (by omega) (by omega)
    by_cases c1 : p + 1 + (i : Int) > b
    · rw [if_pos c1]
      rcases hfit i (by omega) with h | ⟨h, h'⟩
      · omega
      · rw [if_neg (by omega), if_pos (by omega), if_pos (by omega), if_pos h']; exact g
    · rw [if_neg c1]; exact g

theorem merge_j1 (b p : Int) (t n : List Int) (hb0 : 0 ≤ b) (hb : b ≤ 20) (hp0 : 0 ≤ p) (hp : p ≤ b + (t.length : Int)) (ht : t.length ≤ 100) (hn : n.length ≤ 100) (k : Nat) (hk : 3000 < k) :
    laws_FnMerge.j1 k b t p n = some true := by
  obtain ⟨k, rfl⟩ : ∃ m, k = m + 3 := ⟨k - 3, by omega⟩
  simp only [laws_FnMerge.j1, Option.bind_some, List.length_cons, List.length_nil, List.nil_append]
  obtain ⟨T, hT⟩ : ∃ T, T = t ++ [7, 7] := ⟨_, rfl⟩
  have hTl : T.length = t.length + 2 := by rw [hT]; simp
  rw [← hT]
  rw [if_pos (by omega), if_pos (by omega), if_pos (by omega), if_pos (by omega)]
  obtain ⟨⟨c, s⟩, hr, m, e, hm, hf, h⟩ := mp_f b p T n hb0 (by omega) hp0 (by omega) (by omega) (by omega) (k + 2) (by omega)
  simp only at e h
  subst e
  rw [hr]
  simp only [Option.bind_some]
  rw [if_neg (by omega), if_neg (by omega)]
  simp only [w64 (x := b + (T.length : Int)) (by omega) (by omega)]
  -- the log behind the cut, in all three ways
  have main : ∀ l, l.length ≤ 300 → Fit b p (l ++ n.drop m) n n.length → (Fit b p T n n.length → l ++ n.drop m = T) → laws_FnMerge.j3 (k + 1) b T p n l (m : Int) = some true := by
    intro l hl h1 h2
    simp only [laws_FnMerge.j3]
    rw [if_pos (by omega), if_pos (by omega)]
    simp only [Option.bind_some, Int.toNat_natCast]
    rw [if_pos (by simp; omega)]
    exact merge_l0 b p T n (l ++ n.drop m) hb0 (by omega) hp0 (by omega) (by omega) (by simp; omega) (by omega) h1 h2 n.length k 0 (by omega) (by omega) (by omega)
  rcases h with ⟨h1, h2⟩ | ⟨h1, h2, h3, h4⟩ | ⟨h1, h2, h3, h4, h5⟩
  · subst h2
    rw [if_pos rfl]
    simp only [laws_FnMerge.j2]
    rw [if_neg (by decide), if_neg (by omega)]
    have e : T ++ n.drop m = T := by rw [List.drop_of_length_le (by omega), List.append_nil]
    refine main T (by omega) ?_ (fun _ => e)
    rw [e, ← h1]; exact hf
  · subst h4
    rw [if_pos rfl]
    simp only [laws_FnMerge.j2]
    rw [if_neg (by decide), if_neg (by omega)]
    have hlen : (T.length : Int) = p + m - b := by
      by_cases z : m = 0
      · subst z; omega
      · rcases hf (m - 1) (by omega) with g | ⟨g, _⟩ <;> omega
    refine main T (by omega) (fit_join hlen hm hf (fun _ _ _ => rfl)) (fun g => ?_)
    rcases g m h1 with g | ⟨g, _⟩ <;> omega
  · rw [if_neg (by omega), if_neg (by omega), decide_eq_false (by omega)]
    simp only [laws_FnMerge.j2]
    rw [if_neg (by decide), if_pos (by omega), w64 (x := c - b) (by omega) (by omega), w64 (x := c - b - 1) (by omega) (by omega), if_pos (by omega), if_pos (by omega)]
    have hl : ((T.take (c - b - 1).toNat).length : Int) = p + m - b := by rw [List.length_take]; omega
    refine main _ (by omega) (fit_join hl hm hf (fun q h0 hq => rd_take _ _ _ h0 (by omega))) (fun g => ?_)
    rcases g m h1 with g | ⟨_, g⟩
    · omega
    · exact absurd g h4

theorem FnMerge (s : List Int) (_ : s.length ≤ 9223372036854775807) (_ : ∀ x ∈ s, (Lit.int .u8 x).wf = true) : ∃ k, laws_FnMerge.f k s = some true := by
  refine ⟨4001, ?_⟩
  obtain ⟨K, hK⟩ : ∃ K, K = 4000 := ⟨_, rfl⟩
  rw [show (4001 : Nat) = K + 1 by omega]
  unfold laws_FnMerge.f
  by_cases c : (s.length : Int) > 1048576
  · rw [if_pos c]
  rw [if_neg c]
  obtain ⟨⟨b, t, p, n⟩, hr, ht, hn⟩ := draw_f s (by omega) (K + 1) (by omega)
  simp only at ht hn
  rw [hr]
  simp only [Option.bind_some]
  have reset : laws_FnMerge.j0 (K + 1) b t p n true = some true := by
    simp only [laws_FnMerge.j0]
    rw [if_pos trivial]
    exact merge_j1 0 0 t n (by omega) (by omega) (by omega) (by omega) ht hn K (by omega)
  by_cases c1 : b < 0
  · rw [if_pos c1]; exact reset
  rw [if_neg c1]
  by_cases c2 : b > 20
  · rw [if_pos c2]; exact reset
  rw [if_neg c2]
  by_cases c3 : p < 0
  · rw [if_pos c3]; exact reset
  rw [if_neg c3, w64 (x := b + (t.length : Int)) (by omega) (by omega)]
  by_cases c4 : p > b + (t.length : Int)
  · rw [decide_eq_true c4]; exact reset
  rw [decide_eq_false c4]
  simp only [laws_FnMerge.j0]
  rw [if_neg (by decide)]
  exact merge_j1 b p t n (by omega) (by omega) (by omega) (by omega) ht hn K (by omega)

end Go.Proofs.Ytaaedcmbpnpbkaa.Pure
