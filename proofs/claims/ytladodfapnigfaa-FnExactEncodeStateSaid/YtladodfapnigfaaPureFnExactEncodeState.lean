/- FnExactEncodeState: for every service the law's call answers true. Conditions: none beyond the statement's own. -/
import Derived.Test.YtladodfapnigfaaXFnExactEncodeStatex10
import Derived.Test.YtladodfapnigfaaNum
namespace Go.Proofs.Ytladodfapnigfaa.Pure
open Go.RowKit Go.Proofs.Ytladodfapnigfaa.XFnExactEncodeState Go.Proofs.YtladodfapnigfaaW.PrintWords Go.Proofs.YtladodfapnigfaaW.PrintLast Go.Proofs.Ytladodfapnigfaa.Num

theorem toByteS_l0 (x : List Int) (hx : x.length ≤ 281474976710656) (d : Nat) : ∀ (k i : Nat) (y : List Int), y.length = x.length → i ≤ x.length → x.length - i = d → d < k → y.take i = x.take i →
 laws_toByteS.l0 k x y (i : Int) = some x := by
 induction d with
 | zero =>
  intro k i y hl hi hd hk ht
  obtain ⟨k, rfl⟩ : ∃ m, k = m + 1 := ⟨k - 1, by omega⟩
  rw [laws_toByteS.l0, if_neg (by omega)]
  rw [List.take_of_length_le (by omega), List.take_of_length_le (by omega)] at ht
  rw [ht]
 | succ d ih =>
  intro k i y hl hi hd hk ht
  obtain ⟨k, rfl⟩ : ∃ m, k = m + 1 := ⟨k - 1, by omega⟩
  rw [laws_toByteS.l0, if_pos (by omega), if_pos (by omega), if_pos (by omega), w64n (by omega)]
  exact ih k (i + 1) _ (by simpa using hl) (by omega) (by omega) (by omega) (set_take x y 0 i (by omega) hl ht)
theorem toByteS_ev (x : List Int) (hx : x.length ≤ 281474976710656) : Ev (fun k => laws_toByteS.f k x) x := ev_of x.length (fun k hk => by
 unfold laws_toByteS.f
 rw [if_pos (by omega), if_pos (by omega)]
 exact toByteS_l0 x hx x.length k 0 _ (by simp) (by omega) (by omega) (by omega) (by simp))

theorem eqByteS_l0 (x : List Int) (hx : x.length ≤ 281474976710656) (d : Nat) : ∀ (k i : Nat), i ≤ x.length → x.length - i = d → d < k →
 laws_eqByteS.l0 k x x (i : Int) = some true := by
 induction d with
 | zero =>
  intro k i hi hd hk
  obtain ⟨k, rfl⟩ : ∃ m, k = m + 1 := ⟨k - 1, by omega⟩
  rw [laws_eqByteS.l0, if_neg (by omega)]
 | succ d ih =>
  intro k i hi hd hk
  obtain ⟨k, rfl⟩ : ∃ m, k = m + 1 := ⟨k - 1, by omega⟩
  rw [laws_eqByteS.l0, if_pos (by omega), if_pos (by omega), if_pos (by omega), if_pos rfl, w64n (by omega)]
  exact ih k (i + 1) (by omega) (by omega) (by omega)
theorem eqByteS_ev (x : List Int) (hx : x.length ≤ 281474976710656) : Ev (fun k => laws_eqByteS.f k x x) true := ev_of x.length (fun k hk => by
 unfold laws_eqByteS.f
 rw [if_pos rfl]
 exact eqByteS_l0 x hx x.length k 0 (by omega) (by omega) (by omega))

theorem markByteS_l0 (a : Int) (ha0 : 0 ≤ a) (n : Nat) (hn : n ≤ 281474976710656) (ha : a ≤ 281474976710656) (d : Nat) : ∀ (k i : Nat) (y : List Int), y.length = n → i ≤ n → n - i = d → d < k → (∀ j : Nat, j < i → rd y (j : Int) = (a + j) % 256) →
 ∃ z, laws_markByteS.l0 k y (a + i) (i : Int) = some (a + n, z) ∧ z.length = n ∧ Marked a z := by
 induction d with
 | zero =>
  intro k i y hl hi hd hk ht
  obtain ⟨k, rfl⟩ : ∃ m, k = m + 1 := ⟨k - 1, by omega⟩
  obtain rfl : i = n := by omega
  exact ⟨y, by rw [laws_markByteS.l0, if_neg (by omega)], hl, fun j hj => ht j (by omega)⟩
 | succ d ih =>
  intro k i y hl hi hd hk ht
  obtain ⟨k, rfl⟩ : ∃ m, k = m + 1 := ⟨k - 1, by omega⟩
  rw [laws_markByteS.l0, if_pos (by omega), if_pos (by omega), w64n (by omega), w64 (x := a + (i : Int) + 1) (by omega) (by omega), show a + (i : Int) + 1 = a + ((i + 1 : Nat) : Int) by omega]
  refine ih k (i + 1) _ (by simpa using hl) (by omega) (by omega) (by omega) (fun j hj => ?_)
  by_cases e : j = i
  · subst e
    rw [rd_get _ _ (by simp; omega)]
    simp
  · have h := ht j (by omega)
    rw [rd_get _ _ (by omega)] at h
    rw [rd_get _ _ (by simp; omega), List.getElem_set_ne (by simp; omega), h]
theorem markByteS_ev (a : Int) (ha0 : 0 ≤ a) (ha : a ≤ 281474976710656) (x : List Int) (hx : x.length ≤ 281474976710656) : ∃ z, Ev (fun k => laws_markByteS.f k x a) (a + x.length, z) ∧ z.length = x.length ∧ Marked a z := by
 obtain ⟨z, h, hl, hm⟩ := markByteS_l0 a ha0 x.length hx ha x.length (x.length + 1) 0 x rfl (by omega) (by omega) (by omega) (fun j hj => by omega)
 refine ⟨z, ⟨x.length + 1, fun k hk => ?_⟩, hl, hm⟩
 have e := at_rounds (g := fun k => laws_markByteS.f k x a) (fun k => laws_markByteS.mono x a k) hk (r := (a + x.length, z)) (by
  simp only [laws_markByteS.f]
  simpa using h)
 exact e

theorem heldByteS_l0 (a : Int) (ha0 : 0 ≤ a) (x : List Int) (hn : x.length ≤ 281474976710656) (ha : a ≤ 281474976710656) (hm : Marked a x) (d : Nat) : ∀ (k i : Nat), i ≤ x.length → x.length - i = d → d < k →
 laws_heldByteS.l0 k x (a + i) (i : Int) = some (a + x.length) := by
 induction d with
 | zero =>
  intro k i hi hd hk
  obtain ⟨k, rfl⟩ : ∃ m, k = m + 1 := ⟨k - 1, by omega⟩
  rw [laws_heldByteS.l0, if_neg (by omega), show i = x.length by omega]
 | succ d ih =>
  intro k i hi hd hk
  obtain ⟨k, rfl⟩ : ∃ m, k = m + 1 := ⟨k - 1, by omega⟩
  rw [laws_heldByteS.l0, if_pos (by omega), if_pos (by omega), if_pos (hm i (by omega)), w64n (by omega), w64 (x := a + (i : Int) + 1) (by omega) (by omega), show a + (i : Int) + 1 = a + ((i + 1 : Nat) : Int) by omega]
  exact ih k (i + 1) (by omega) (by omega) (by omega)
theorem heldByteS_ev (a : Int) (ha0 : 0 ≤ a) (ha : a ≤ 281474976710656) (x : List Int) (hx : x.length ≤ 281474976710656) (hm : Marked a x) : Ev (fun k => laws_heldByteS.f k x a) (a + x.length) := ev_of x.length (fun k hk => by
 unfold laws_heldByteS.f
 simpa using heldByteS_l0 a ha0 x hx ha hm x.length k 0 (by omega) (by omega) (by omega))

theorem littleOf_length (v : Int) (n : Nat) : (littleOf v n).length = n := by simp [littleOf]
theorem littleOf_succ (v : Int) (n : Nat) : littleOf v (n + 1) = littleOf v n ++ [v / 2 ^ (8 * n) % 256] := by
 simp [littleOf, List.range_succ]
theorem div_step (v : Int) (n : Nat) : v / 2 ^ (8 * n) / 256 = v / 2 ^ (8 * (n + 1)) := by
 rw [Int.ediv_ediv_of_nonneg (Int.pow_nonneg (by omega)), show (256 : Int) = 2 ^ 8 by decide, ← Int.pow_add, show 8 * (n + 1) = 8 * n + 8 by omega]
theorem div_nonneg (v : Int) (h : 0 ≤ v) (n : Nat) : 0 ≤ v / 2 ^ (8 * n) := Int.ediv_nonneg h (Int.pow_nonneg (by omega))
theorem div_le (v : Int) (h : 0 ≤ v) (n : Nat) : v / 2 ^ (8 * n) ≤ v := Int.ediv_le_self _ h
theorem l2Put_l0 (v : Int) (hv : 0 ≤ v) (hv' : v ≤ 9223372036854775807) (n : Nat) (hn : n ≤ 8) (d : Nat) : ∀ (k i : Nat), i ≤ n → n - i = d → d < k →
 spec_l2Put.l0 k (v / 2 ^ (8 * i)) (n : Int) (littleOf v i) (i : Int) = some (littleOf v n) := by
 induction d with
 | zero =>
  intro k i hi hd hk
  obtain ⟨k, rfl⟩ : ∃ m, k = m + 1 := ⟨k - 1, by omega⟩
  rw [spec_l2Put.l0, if_neg (by omega), show i = n by omega]
 | succ d ih =>
  intro k i hi hd hk
  obtain ⟨k, rfl⟩ : ∃ m, k = m + 1 := ⟨k - 1, by omega⟩
  have h0 := div_nonneg v hv i
  have h1 := div_le v hv i
  have h2 := div_nonneg v hv (i + 1)
  have h3 := div_le v hv (i + 1)
  rw [spec_l2Put.l0, if_pos (by omega), if_pos (by rw [littleOf_length]; omega), w64n (by omega), Int.tdiv_eq_ediv_of_nonneg h0, div_step, w64 (by omega) (by omega), Int.tmod_eq_emod_of_nonneg h0, Int.emod_emod_of_dvd _ (Int.dvd_refl _), ← littleOf_succ]
  exact ih k (i + 1) (by omega) (by omega) (by omega)
theorem l2Put_ev (v : Int) (hv : 0 ≤ v) (hv' : v ≤ 9223372036854775807) (n : Nat) (hn : n ≤ 8) : Ev (fun k => spec_l2Put.f k v (n : Int)) (littleOf v n) := ev_of n (fun k hk => by
 unfold spec_l2Put.f
 have h := l2Put_l0 v hv hv' n hn n k 0 (by omega) (by omega) (by omega)
 simpa [littleOf] using h)
theorem little_some (v : Int) (hv : 0 ≤ v) (n : Nat) (h1 : 1 ≤ n) (hn : n ≤ 8) : impl_little.f v (n : Int) = some (littleOf v n) := by
 unfold impl_little.f
 rw [if_pos ⟨hv, by omega, by omega⟩, Int.toNat_natCast]

theorem szItem_eq (a b : Int) (t : List Int) (x : Int) (ht : t.length ≤ 9223372036854775807) (h0 : 0 ≤ x) (h1 : x ≤ 1048576) : laws_szItem.f a b t x = some (if x - (t.length : Int) < 0 then -1 else x - (t.length : Int)) := by
 unfold laws_szItem.f laws_szByteS.f
 rw [w64 (x := x - (t.length : Int)) (by omega) (by omega)]
 by_cases c : x - (t.length : Int) < 0
 · simp only [if_pos c, Option.bind_some]
   rfl
 · simp only [if_neg c, Option.bind_some]
theorem rd_mem33 (l : List S33) (i : Nat) (h : i < l.length) : rd_T33 l (i : Int) = l[i] := by
 simp [rd_T33, List.getD, h]
theorem szItemS_l0 (l : List S33) (hl : l.length ≤ 1048576) (hb : ∀ x ∈ l, x.f2.length ≤ 9223372036854775807) (d : Nat) : ∀ (i : Nat) (x : Int), i ≤ l.length → l.length - i = d → 0 ≤ x → x ≤ 1048576 →
 ∃ r : Int, (∀ k, d < k → laws_szItemS.l0 k l x (i : Int) = some r) ∧ r ≤ 1048576 ∧ (0 ≤ r → ∀ j : Nat, i ≤ j → j < l.length → (rd_T33 l j).f2.length ≤ 1048576) := by
 induction d with
 | zero =>
  intro i x hi hd h0 h1
  refine ⟨x, fun k hk => ?_, h1, fun _ j h2 h3 => by omega⟩
  obtain ⟨k, rfl⟩ : ∃ m, k = m + 1 := ⟨k - 1, by omega⟩
  rw [laws_szItemS.l0, if_neg (by omega)]
 | succ d ih =>
  intro i x hi hd h0 h1
  have hn : (rd_T33 l i).f2.length ≤ 9223372036854775807 := by rw [rd_mem33 l i (by omega)]; exact hb _ (List.getElem_mem _)
  have he := szItem_eq (rd_T33 l i).f0 (rd_T33 l i).f1 (rd_T33 l i).f2 x hn h0 h1
  by_cases c : x - ((rd_T33 l i).f2.length : Int) < 0
  · refine ⟨-1, fun k hk => ?_, by omega, fun h => by omega⟩
    obtain ⟨k, rfl⟩ : ∃ m, k = m + 1 := ⟨k - 1, by omega⟩
    rw [laws_szItemS.l0, if_pos (by omega), if_pos (by omega), he, Option.bind_some, if_pos c, if_pos (by omega)]
  · obtain ⟨r, hr, hr1, hr2⟩ := ih (i + 1) (x - ((rd_T33 l i).f2.length : Int)) (by omega) (by omega) (by omega) (by omega)
    refine ⟨r, fun k hk => ?_, hr1, fun h j h2 h3 => ?_⟩
    · obtain ⟨k, rfl⟩ : ∃ m, k = m + 1 := ⟨k - 1, by omega⟩
      rw [laws_szItemS.l0, if_pos (by omega), if_pos (by omega), he, Option.bind_some, if_neg c, if_neg c, w64n (by omega)]
      exact hr k (by omega)
    · by_cases e : j = i
      · rw [e]; omega
      · exact hr2 h j (by omega) h3
theorem szItemS_ev (l : List S33) (hl : l.length ≤ 9223372036854775807) (hb : ∀ x ∈ l, x.f2.length ≤ 9223372036854775807) (x : Int) (h0 : 0 ≤ x) (h1 : x ≤ 1048576) :
 ∃ r : Int, Ev (fun k => laws_szItemS.f k l x) r ∧ r ≤ 1048576 ∧ (0 ≤ r → l.length ≤ 1048576 ∧ ∀ x ∈ l, x.f2.length ≤ 1048576) := by
 unfold laws_szItemS.f
 rw [w64 (x := x - (l.length : Int)) (by omega) (by omega)]
 by_cases c : x - (l.length : Int) < 0
 · simp only [if_pos c]
   exact ⟨-1, Ev.now _, by omega, fun h => by omega⟩
 · simp only [if_neg c]
   obtain ⟨r, hr, hr1, hr2⟩ := szItemS_l0 l (by omega) hb l.length 0 (x - (l.length : Int)) (by omega) (by omega) (by omega) (by omega)
   refine ⟨r, ev_of l.length hr, hr1, fun h => ⟨by omega, fun y hy => ?_⟩⟩
   obtain ⟨j, hj, rfl⟩ := List.getElem_of_mem hy
   have := hr2 h j (by omega) hj
   rwa [rd_mem33 l j hj] at this
theorem szSession_eq (a b c0 : Int) (t : List Int) (x : Int) (ht : t.length ≤ 9223372036854775807) (h0 : 0 ≤ x) (h1 : x ≤ 1048576) : laws_szSession.f a b c0 t x = some (if x - (t.length : Int) < 0 then -1 else x - (t.length : Int)) := by
 unfold laws_szSession.f laws_szByteS.f
 rw [w64 (x := x - (t.length : Int)) (by omega) (by omega)]
 by_cases c : x - (t.length : Int) < 0
 · simp only [if_pos c, Option.bind_some]
   rfl
 · simp only [if_neg c, Option.bind_some]
theorem rd_mem96 (l : List S96) (i : Nat) (h : i < l.length) : rd_T96 l (i : Int) = l[i] := by
 simp [rd_T96, List.getD, h]
theorem szSessionS_l0 (l : List S96) (hl : l.length ≤ 1048576) (hb : ∀ x ∈ l, x.f3.length ≤ 9223372036854775807) (d : Nat) : ∀ (i : Nat) (x : Int), i ≤ l.length → l.length - i = d → 0 ≤ x → x ≤ 1048576 →
 ∃ r : Int, (∀ k, d < k → laws_szSessionS.l0 k l x (i : Int) = some r) ∧ r ≤ 1048576 ∧ (0 ≤ r → ∀ j : Nat, i ≤ j → j < l.length → (rd_T96 l j).f3.length ≤ 1048576) := by
 induction d with
 | zero =>
  intro i x hi hd h0 h1
  refine ⟨x, fun k hk => ?_, h1, fun _ j h2 h3 => by omega⟩
  obtain ⟨k, rfl⟩ : ∃ m, k = m + 1 := ⟨k - 1, by omega⟩
  rw [laws_szSessionS.l0, if_neg (by omega)]
 | succ d ih =>
  intro i x hi hd h0 h1
  have hn : (rd_T96 l i).f3.length ≤ 9223372036854775807 := by rw [rd_mem96 l i (by omega)]; exact hb _ (List.getElem_mem _)
  have he := szSession_eq (rd_T96 l i).f0 (rd_T96 l i).f1 (rd_T96 l i).f2 (rd_T96 l i).f3 x hn h0 h1
  by_cases c : x - ((rd_T96 l i).f3.length : Int) < 0
  · refine ⟨-1, fun k hk => ?_, by omega, fun h => by omega⟩
    obtain ⟨k, rfl⟩ : ∃ m, k = m + 1 := ⟨k - 1, by omega⟩
    rw [laws_szSessionS.l0, if_pos (by omega), if_pos (by omega), he, Option.bind_some, if_pos c, if_pos (by omega)]
  · obtain ⟨r, hr, hr1, hr2⟩ := ih (i + 1) (x - ((rd_T96 l i).f3.length : Int)) (by omega) (by omega) (by omega) (by omega)
    refine ⟨r, fun k hk => ?_, hr1, fun h j h2 h3 => ?_⟩
    · obtain ⟨k, rfl⟩ : ∃ m, k = m + 1 := ⟨k - 1, by omega⟩
      rw [laws_szSessionS.l0, if_pos (by omega), if_pos (by omega), he, Option.bind_some, if_neg c, if_neg c, w64n (by omega)]
      exact hr k (by omega)
    · by_cases e : j = i
      · rw [e]; omega
      · exact hr2 h j (by omega) h3
theorem szSessionS_ev (l : List S96) (hl : l.length ≤ 9223372036854775807) (hb : ∀ x ∈ l, x.f3.length ≤ 9223372036854775807) (x : Int) (h0 : 0 ≤ x) (h1 : x ≤ 1048576) :
 ∃ r : Int, Ev (fun k => laws_szSessionS.f k l x) r ∧ r ≤ 1048576 ∧ (0 ≤ r → l.length ≤ 1048576 ∧ ∀ x ∈ l, x.f3.length ≤ 1048576) := by
 unfold laws_szSessionS.f
 rw [w64 (x := x - (l.length : Int)) (by omega) (by omega)]
 by_cases c : x - (l.length : Int) < 0
 · simp only [if_pos c]
   exact ⟨-1, Ev.now _, by omega, fun h => by omega⟩
 · simp only [if_neg c]
   obtain ⟨r, hr, hr1, hr2⟩ := szSessionS_l0 l (by omega) hb l.length 0 (x - (l.length : Int)) (by omega) (by omega) (by omega) (by omega)
   refine ⟨r, ev_of l.length hr, hr1, fun h => ⟨by omega, fun y hy => ?_⟩⟩
   obtain ⟨j, hj, rfl⟩ := List.getElem_of_mem hy
   have := hr2 h j (by omega) hj
   rwa [rd_mem96 l j hj] at this
/-- What the measure tells: where it is no less than nought, everything is small. -/
theorem szService_ev (a : Int) (l1 : List S33) (l2 : List S96) (h1 : l1.length ≤ 9223372036854775807) (h2 : l2.length ≤ 9223372036854775807) (b1 : ∀ x ∈ l1, x.f2.length ≤ 9223372036854775807) (b2 : ∀ x ∈ l2, x.f3.length ≤ 9223372036854775807) :
 ∃ left : Int, Ev (fun k => laws_szService.f k a l1 l2 1048576) left ∧ left ≤ 1048576 ∧ (0 ≤ left → l1.length ≤ 1048576 ∧ l2.length ≤ 1048576 ∧ (∀ x ∈ l1, x.f2.length ≤ 1048576) ∧ ∀ x ∈ l2, x.f3.length ≤ 1048576) := by
 unfold laws_szService.f
 obtain ⟨r, hr, hr1, hr2⟩ := szItemS_ev l1 h1 b1 1048576 (by omega) (by omega)
 by_cases c : r < 0
 · refine ⟨-1, Ev.bind hr ?_, by omega, fun h => by omega⟩
   simp only [if_pos c]
   exact Ev.now _
 · obtain ⟨q, hq, hq1, hq2⟩ := szSessionS_ev l2 h2 b2 r (by omega) hr1
   by_cases c2 : q < 0
   · refine ⟨-1, Ev.bind hr ?_, by omega, fun h => by omega⟩
     simp only [if_neg c]
     refine Ev.bind hq ?_
     simp only [if_pos c2]
     exact Ev.now _
   · refine ⟨q, Ev.bind hr ?_, hq1, fun h => ?_⟩
     · simp only [if_neg c]
       refine Ev.bind hq ?_
       simp only [if_neg c2]
       exact Ev.now _
     · obtain ⟨x1, x2⟩ := hr2 (by omega)
       obtain ⟨y1, y2⟩ := hq2 (by omega)
       exact ⟨x1, y1, x2, y2⟩

/-! ### what makes a service valid, as both sides ask it -/
def ItemOk (a b : Int) (n : Nat) : Prop := 1 ≤ a ∧ a ≤ 50 ∧ 1 ≤ b ∧ b ≤ 1000000000 ∧ n ≤ 64
def SessOk (cnt : Int) (ss : List S74) (j : Nat) : Prop :=
 ItemOk (rd_T74 ss j).f0 (rd_T74 ss j).f1 (rd_T74 ss j).f3.length ∧ 0 ≤ (rd_T74 ss j).f2 ∧ (rd_T74 ss j).f2 < cnt ∧ (0 < j → (rd_T74 ss ((j - 1 : Nat) : Int)).f0 < (rd_T74 ss j).f0)
def ItemsOk (ks : List S24) (i : Nat) : Prop := ∀ j : Nat, i ≤ j → j < ks.length → ItemOk (rd_T24 ks j).f0 (rd_T24 ks j).f1 (rd_T24 ks j).f2.length
def SesssOk (cnt : Int) (ss : List S74) (i : Nat) : Prop := ∀ j : Nat, i ≤ j → j < ss.length → SessOk cnt ss j
def SvcOk (a : Int) (ks : List S24) (ss : List S74) : Prop := (0 ≤ a ∧ a ≤ 1000000 ∧ ks.length ≤ 1000000) ∧ ItemsOk ks 0 ∧ SesssOk (a + ks.length) ss 0
theorem l5Item_iff (a b : Int) (l : List Int) : ∃ t, spec_l5Item.f a b l = some t ∧ (t = true ↔ ItemOk a b l.length) := by
 unfold spec_l5Item.f ItemOk
 by_cases h1 : a ≥ 1
 · by_cases h2 : a ≤ 50
   · by_cases h3 : b ≥ 1
     · by_cases h4 : b ≤ 1000000000
       · rw [if_pos h1, if_pos h2, if_pos h3, if_pos h4]
         exact ⟨_, rfl, by rw [decide_eq_true_iff]; omega⟩
       · rw [if_pos h1, if_pos h2, if_pos h3, if_neg h4]
         exact ⟨_, rfl, by simp; omega⟩
     · rw [if_pos h1, if_pos h2, if_neg h3]
       exact ⟨_, rfl, by simp; omega⟩
   · rw [if_pos h1, if_neg h2]
     exact ⟨_, rfl, by simp; omega⟩
 · rw [if_neg h1]
   exact ⟨_, rfl, by simp; omega⟩
theorem item_valid_same (a b : Int) (l : List Int) : impl_Item_valid.f a b l = spec_l5Item.f a b l := rfl
theorem ItemsOk.end_ {ks : List S24} {i : Nat} (h : ks.length ≤ i) : ItemsOk ks i := fun j h1 h2 => by omega
theorem SesssOk.end_ {cnt : Int} {ss : List S74} {i : Nat} (h : ss.length ≤ i) : SesssOk cnt ss i := fun j h1 h2 => by omega
theorem ItemsOk.step {ks : List S24} {i : Nat} (hi : i < ks.length) : ItemsOk ks i ↔ ItemOk (rd_T24 ks i).f0 (rd_T24 ks i).f1 (rd_T24 ks i).f2.length ∧ ItemsOk ks (i + 1) := by
 constructor
 · intro h
   exact ⟨h i (Nat.le_refl _) hi, fun j h1 h2 => h j (by omega) h2⟩
 · rintro ⟨h1, h2⟩ j h3 h4
   by_cases e : j = i
   · rw [e]; exact h1
   · exact h2 j (by omega) h4
theorem SesssOk.step {cnt : Int} {ss : List S74} {i : Nat} (hi : i < ss.length) : SesssOk cnt ss i ↔ SessOk cnt ss i ∧ SesssOk cnt ss (i + 1) := by
 constructor
 · intro h
   exact ⟨h i (Nat.le_refl _) hi, fun j h1 h2 => h j (by omega) h2⟩
 · rintro ⟨h1, h2⟩ j h3 h4
   by_cases e : j = i
   · rw [e]; exact h1
   · exact h2 j (by omega) h4
theorem false_iff_of {P : Prop} (h : ¬ P) : (false = true) ↔ P := ⟨fun e => (by cases e), fun p => absurd p h⟩

theorem spec_l1 (a : Int) (ks : List S24) (ss : List S74) (ha0 : 0 ≤ a) (ha : a ≤ 1000000) (hk : ks.length ≤ 1000000) (hs : ss.length ≤ 1048576) (d : Nat) : ∀ (k i : Nat), i ≤ ss.length → ss.length - i = d → 2 * d < k →
 ∃ b, spec_L5Valid.l1 k ss (ss.length : Int) (i : Int) a ks ss = some b ∧ (b = true ↔ SesssOk (a + ks.length) ss i) := by
 induction d with
 | zero =>
  intro k i hi hd hk2
  obtain ⟨k, rfl⟩ : ∃ m, k = m + 1 := ⟨k - 1, by omega⟩
  exact ⟨true, by rw [spec_L5Valid.l1, if_neg (by omega)], by simp; exact SesssOk.end_ (by omega)⟩
 | succ d ih =>
  intro k i hi hd hk2
  obtain ⟨k, rfl⟩ : ∃ m, k = m + 2 := ⟨k - 2, by omega⟩
  obtain ⟨b, hb, hiff⟩ := ih k (i + 1) (by omega) (by omega) (by omega)
  rw [SesssOk.step (by omega)]
  obtain ⟨t, ht, hti⟩ := l5Item_iff (rd_T74 ss i).f0 (rd_T74 ss i).f1 (rd_T74 ss i).f3
  rw [spec_L5Valid.l1, if_pos (by omega), if_pos (by omega), if_pos (by omega), ht, Option.bind_some]
  have out : ∀ x0 x1 x2 x3, spec_L5Valid.j3 (k + 1) (i : Int) ss (ss.length : Int) (i : Int) true a ks ss x0 x1 x2 x3 = some false := fun _ _ _ _ => by rw [spec_L5Valid.j3, if_pos rfl]
  cases t with
  | false =>
   rw [if_neg (by decide), out]
   exact ⟨false, rfl, false_iff_of (fun h => by have := hti.2 h.1.1; cases this)⟩
  | true =>
   rw [if_pos rfl]
   have hit := hti.1 rfl
   by_cases c1 : (rd_T74 ss i).f2 < 0
   · rw [if_pos c1, out]
     exact ⟨false, rfl, false_iff_of (fun h => by have := h.1.2.1; omega)⟩
   · rw [if_neg c1, w64 (x := a + (ks.length : Int)) (by omega) (by omega)]
     by_cases c2 : (rd_T74 ss i).f2 ≥ a + (ks.length : Int)
     · rw [decide_eq_true c2, out]
       exact ⟨false, rfl, false_iff_of (fun h => by have := h.1.2.2.1; omega)⟩
     · rw [decide_eq_false c2, spec_L5Valid.j3, if_neg (by decide), w64n (by omega)]
       by_cases c3 : (i : Int) > 0
       · rw [if_pos c3, w64 (x := (i : Int) - 1) (by omega) (by omega), if_pos (by omega), if_pos (by omega), show (i : Int) - 1 = ((i - 1 : Nat) : Int) by omega]
         by_cases c4 : (rd_T74 ss ((i - 1 : Nat) : Int)).f0 ≥ (rd_T74 ss i).f0
         · rw [if_pos c4]
           exact ⟨false, rfl, false_iff_of (fun h => by have := h.1.2.2.2 (by omega); omega)⟩
         · rw [if_neg c4]
           exact ⟨b, hb, hiff.trans ⟨fun h => ⟨⟨hit, by omega, by omega, fun _ => by omega⟩, h⟩, fun h => h.2⟩⟩
       · rw [if_neg c3]
         exact ⟨b, hb, hiff.trans ⟨fun h => ⟨⟨hit, by omega, by omega, fun _ => by omega⟩, h⟩, fun h => h.2⟩⟩

theorem spec_l0 (a : Int) (ks : List S24) (ss : List S74) (ha0 : 0 ≤ a) (ha : a ≤ 1000000) (hk : ks.length ≤ 1000000) (hs : ss.length ≤ 1048576) (d : Nat) : ∀ (k i : Nat), i ≤ ks.length → ks.length - i = d → d + 2 * ss.length + 2 < k →
 ∃ b, spec_L5Valid.l0 k ks (ks.length : Int) (i : Int) a ks ss = some b ∧ (b = true ↔ ItemsOk ks i ∧ SesssOk (a + ks.length) ss 0) := by
 induction d with
 | zero =>
  intro k i hi hd hk2
  obtain ⟨k, rfl⟩ : ∃ m, k = m + 1 := ⟨k - 1, by omega⟩
  obtain ⟨b, hb, hiff⟩ := spec_l1 a ks ss ha0 ha hk hs ss.length k 0 (by omega) (by omega) (by omega)
  rw [spec_L5Valid.l0, if_neg (by omega)]
  exact ⟨b, hb, hiff.trans ⟨fun h => ⟨ItemsOk.end_ (by omega), h⟩, fun h => h.2⟩⟩
 | succ d ih =>
  intro k i hi hd hk2
  obtain ⟨k, rfl⟩ : ∃ m, k = m + 1 := ⟨k - 1, by omega⟩
  obtain ⟨b, hb, hiff⟩ := ih k (i + 1) (by omega) (by omega) (by omega)
  obtain ⟨t, ht, hti⟩ := l5Item_iff (rd_T24 ks i).f0 (rd_T24 ks i).f1 (rd_T24 ks i).f2
  rw [spec_L5Valid.l0, if_pos (by omega), if_pos (by omega), if_pos (by omega), ht, Option.bind_some, w64n (by omega), ItemsOk.step (by omega)]
  cases t with
  | false =>
   rw [if_neg (by decide)]
   exact ⟨false, rfl, false_iff_of (fun h => by have := hti.2 h.1.1; cases this)⟩
  | true =>
   rw [if_pos rfl]
   exact ⟨b, hb, hiff.trans ⟨fun h => ⟨⟨hti.1 rfl, h.1⟩, h.2⟩, fun h => ⟨h.1.2, h.2⟩⟩⟩

theorem spec_valid (a : Int) (ks : List S24) (ss : List S74) (hs : ss.length ≤ 1048576) : ∃ b, Ev (fun k => spec_L5Valid.f k a ks ss) b ∧ (b = true ↔ SvcOk a ks ss) := by
 have out : Ev (fun k => spec_L5Valid.j0 k true a ks ss) false := Ev.step (fun k => by rw [spec_L5Valid.j0, if_pos rfl]) (Ev.now _)
 unfold spec_L5Valid.f
 by_cases c1 : a < 0
 · simp only [if_pos c1]
   exact ⟨false, out, false_iff_of (fun h => by have := h.1.1; omega)⟩
 simp only [if_neg c1]
 by_cases c2 : a > 1000000
 · simp only [if_pos c2]
   exact ⟨false, out, false_iff_of (fun h => by have := h.1.2.1; omega)⟩
 simp only [if_neg c2]
 by_cases c3 : (ks.length : Int) > 1000000
 · simp only [decide_eq_true c3]
   exact ⟨false, out, false_iff_of (fun h => by have := h.1.2.2; omega)⟩
 simp only [decide_eq_false c3]
 obtain ⟨b, hb, hiff⟩ := spec_l0 a ks ss (by omega) (by omega) (by omega) hs ks.length (ks.length + 2 * ss.length + 3) 0 (by omega) (by omega) (by omega)
 refine ⟨b, ⟨ks.length + 2 * ss.length + 4, fun k hk => ?_⟩, hiff.trans ⟨fun h => ⟨⟨by omega, by omega, by omega⟩, h.1, h.2⟩, fun h => h.2⟩⟩
 obtain ⟨k, rfl⟩ : ∃ m, k = m + 1 := ⟨k - 1, by omega⟩
 show spec_L5Valid.j0 (k + 1) _ _ _ _ = _
 rw [spec_L5Valid.j0, if_neg (by decide)]
 obtain ⟨b2, hb2, hiff2⟩ := spec_l0 a ks ss (by omega) (by omega) (by omega) hs ks.length k 0 (by omega) (by omega) (by omega)
 have e : b2 = b := by
  cases b2 <;> cases b
  · rfl
  · exact absurd (hiff2.2 (hiff.1 rfl)) (by decide)
  · exact absurd (hiff.2 (hiff2.1 rfl)) (by decide)
  · rfl
 rw [← e]
 exact hb2

theorem impl_l0 (a : Int) (ks : List S24) (ss : List S74) (ha0 : 0 ≤ a) (ha : a ≤ 1000000) (hk : ks.length ≤ 1000000) (hs : ss.length ≤ 1048576) (d : Nat) : ∀ (k i : Nat), i ≤ ss.length → ss.length - i = d → d < k →
 ∃ b, impl_Service_valid.l0 k ss (ss.length : Int) (i : Int) a ks ss = some b ∧ (b = true ↔ SesssOk (a + ks.length) ss i) := by
 induction d with
 | zero =>
  intro k i hi hd hk2
  obtain ⟨k, rfl⟩ : ∃ m, k = m + 1 := ⟨k - 1, by omega⟩
  exact ⟨true, by rw [impl_Service_valid.l0, if_neg (by omega)], by simp; exact SesssOk.end_ (by omega)⟩
 | succ d ih =>
  intro k i hi hd hk2
  obtain ⟨k, rfl⟩ : ∃ m, k = m + 1 := ⟨k - 1, by omega⟩
  obtain ⟨b, hb, hiff⟩ := ih k (i + 1) (by omega) (by omega) (by omega)
  rw [SesssOk.step (by omega)]
  obtain ⟨t, ht, hti⟩ := l5Item_iff (rd_T74 ss i).f0 (rd_T74 ss i).f1 (rd_T74 ss i).f3
  rw [impl_Service_valid.l0, if_pos (by omega), if_pos (by omega), if_pos (by omega), item_valid_same, ht, Option.bind_some]
  cases t with
  | false =>
   rw [if_neg (by decide)]
   exact ⟨false, rfl, false_iff_of (fun h => by have := hti.2 h.1.1; cases this)⟩
  | true =>
   rw [if_pos rfl]
   have hit := hti.1 rfl
   by_cases c1 : (rd_T74 ss i).f2 < 0
   · rw [if_pos c1]
     exact ⟨false, rfl, false_iff_of (fun h => by have := h.1.2.1; omega)⟩
   · rw [if_neg c1]
     unfold impl_Service_count.f
     rw [Option.bind_some, w64 (x := a + (ks.length : Int)) (by omega) (by omega)]
     by_cases c2 : (rd_T74 ss i).f2 ≥ a + (ks.length : Int)
     · rw [if_pos c2]
       exact ⟨false, rfl, false_iff_of (fun h => by have := h.1.2.2.1; omega)⟩
     · rw [if_neg c2, w64n (by omega)]
       by_cases c3 : (i : Int) > 0
       · rw [if_pos c3, w64 (x := (i : Int) - 1) (by omega) (by omega), if_pos (by omega), if_pos (by omega), show (i : Int) - 1 = ((i - 1 : Nat) : Int) by omega]
         by_cases c4 : (rd_T74 ss ((i - 1 : Nat) : Int)).f0 ≥ (rd_T74 ss i).f0
         · rw [if_pos c4]
           exact ⟨false, rfl, false_iff_of (fun h => by have := h.1.2.2.2 (by omega); omega)⟩
         · rw [if_neg c4]
           exact ⟨b, hb, hiff.trans ⟨fun h => ⟨⟨hit, by omega, by omega, fun _ => by omega⟩, h⟩, fun h => h.2⟩⟩
       · rw [if_neg c3]
         exact ⟨b, hb, hiff.trans ⟨fun h => ⟨⟨hit, by omega, by omega, fun _ => by omega⟩, h⟩, fun h => h.2⟩⟩
theorem any_bad (ks : List S24) : ks.any badItem = false ↔ ItemsOk ks 0 := by
 rw [List.any_eq_false]
 constructor
 · intro h j _ hj
   have e : rd_T24 ks (j : Int) = ks[j] := by simp [rd_T24, List.getD, hj]
   have h1 := h (ks[j]) (List.getElem_mem hj)
   obtain ⟨t, ht, hti⟩ := l5Item_iff (ks[j]).f0 (ks[j]).f1 (ks[j]).f2
   rw [bad_not (ks[j]) t (by rw [item_valid_same]; exact ht)] at h1
   rw [e]
   apply hti.1
   cases t
   · exact absurd rfl h1
   · rfl
 · intro h x hx
   obtain ⟨j, hj, rfl⟩ := List.getElem_of_mem hx
   have e : rd_T24 ks (j : Int) = ks[j] := by simp [rd_T24, List.getD, hj]
   have h1 := h j (Nat.zero_le _) hj
   rw [e] at h1
   obtain ⟨t, ht, hti⟩ := l5Item_iff (ks[j]).f0 (ks[j]).f1 (ks[j]).f2
   rw [bad_not (ks[j]) t (by rw [item_valid_same]; exact ht), hti.2 h1]
   decide
theorem impl_valid (a : Int) (ks : List S24) (ss : List S74) (hs : ss.length ≤ 1048576) : ∃ b, Ev (fun k => impl_Service_valid.f k a ks ss) b ∧ (b = true ↔ SvcOk a ks ss) := by
 have out : Ev (fun k => impl_Service_valid.j0 k true a ks ss) false := Ev.step (fun k => by rw [impl_Service_valid.j0, if_pos rfl]) (Ev.now _)
 unfold impl_Service_valid.f
 by_cases c1 : a < 0
 · simp only [if_pos c1]
   exact ⟨false, out, false_iff_of (fun h => by have := h.1.1; omega)⟩
 simp only [if_neg c1]
 by_cases c2 : a > 1000000
 · simp only [if_pos c2]
   exact ⟨false, out, false_iff_of (fun h => by have := h.1.2.1; omega)⟩
 simp only [if_neg c2]
 by_cases c3 : (ks.length : Int) > 1000000
 · simp only [if_pos c3]
   exact ⟨false, out, false_iff_of (fun h => by have := h.1.2.2; omega)⟩
 simp only [if_neg c3, impl_Item_72.f, Option.bind_some]
 cases c4 : ks.any badItem with
 | true => exact ⟨false, out, false_iff_of (fun h => by have := (any_bad ks).2 h.2.1; rw [c4] at this; cases this)⟩
 | false =>
  have hks := (any_bad ks).1 c4
  obtain ⟨b, hb, hiff⟩ := impl_l0 a ks ss (by omega) (by omega) (by omega) hs ss.length (ss.length + 1) 0 (by omega) (by omega) (by omega)
  refine ⟨b, ⟨ss.length + 2, fun k hk => ?_⟩, hiff.trans ⟨fun h => ⟨⟨by omega, by omega, by omega⟩, hks, h⟩, fun h => h.2.2⟩⟩
  obtain ⟨k, rfl⟩ : ∃ m, k = m + 1 := ⟨k - 1, by omega⟩
  show impl_Service_valid.j0 (k + 1) _ _ _ _ = _
  rw [impl_Service_valid.j0, if_neg (by decide)]
  obtain ⟨b2, hb2, hiff2⟩ := impl_l0 a ks ss (by omega) (by omega) (by omega) hs ss.length k 0 (by omega) (by omega) (by omega)
  have e : b2 = b := by
   cases b2 <;> cases b
   · rfl
   · exact absurd (hiff2.2 (hiff.1 rfl)) (by decide)
   · exact absurd (hiff.2 (hiff2.1 rfl)) (by decide)
   · rfl
  rw [← e]
  exact hb2
/-- Both ask the same. -/
theorem valid_both (a : Int) (ks : List S24) (ss : List S74) (hs : ss.length ≤ 1048576) : ∃ b, Ev (fun k => spec_L5Valid.f k a ks ss) b ∧ Ev (fun k => impl_Service_valid.f k a ks ss) b ∧ (b = true ↔ SvcOk a ks ss) := by
 obtain ⟨b, h1, i1⟩ := spec_valid a ks ss hs
 obtain ⟨b2, h2, i2⟩ := impl_valid a ks ss hs
 have e : b2 = b := by
  cases b2 <;> cases b
  · rfl
  · exact absurd (i2.2 (i1.1 rfl)) (by decide)
  · exact absurd (i1.2 (i2.1 rfl)) (by decide)
  · rfl
 subst e
 exact ⟨b2, h1, h2, i1⟩

/-! ### both encoders of a state -/
def word8 (v : Int) : List Int := littleOf v 8
theorem word8_len (v : Int) : (word8 v).length = 8 := littleOf_length v 8
def sessBytes (x : S74) : List Int := word8 x.f0 ++ word8 x.f1 ++ word8 x.f2 ++ word8 (x.f3.length : Int) ++ x.f3
def fromBytes (ss : List S74) (i : Nat) : List Int := ((ss.drop i).map sessBytes).flatten
theorem sessBytes_len (x : S74) : (sessBytes x).length = 32 + x.f3.length := by
 simp only [sessBytes, List.length_append, word8_len]
theorem fromBytes_end {ss : List S74} {i : Nat} (h : ss.length ≤ i) : fromBytes ss i = [] := by
 simp [fromBytes, List.drop_eq_nil_of_le h]
theorem rd_mem74 (l : List S74) (i : Nat) (h : i < l.length) : rd_T74 l (i : Int) = l[i] := by
 simp [rd_T74, List.getD, h]
theorem rd_mem24 (l : List S24) (i : Nat) (h : i < l.length) : rd_T24 l (i : Int) = l[i] := by
 simp [rd_T24, List.getD, h]
theorem fromBytes_step {ss : List S74} {i : Nat} (h : i < ss.length) : fromBytes ss i = sessBytes (rd_T74 ss i) ++ fromBytes ss (i + 1) := by
 simp only [fromBytes, List.drop_eq_getElem_cons h, List.map_cons, List.flatten_cons, rd_mem74 ss i h]
theorem put_ev (v : Int) (hv : 0 ≤ v) (hv' : v ≤ 9223372036854775807) : Ev (fun k => spec_l2Put.f k v 8) (word8 v) := l2Put_ev v hv hv' 8 (by omega)
theorem little_u64 (v : Int) (hv : 0 ≤ v) (hv' : v ≤ 9223372036854775807) : impl_little.f (IntKind.u64.wrap v) 8 = some (word8 v) := by
 rw [wu64 hv (by omega)]
 exact little_some v hv 8 (by omega) (by omega)
/-- The given side, one session. -/
theorem enc_l1 (ss : List S74) (n i : Int) (acc : List Int) (a b c : Int) (t : List Int) (r : List Int × Int) (ha : 0 ≤ a ∧ a ≤ 9223372036854775807) (hb : 0 ≤ b ∧ b ≤ 9223372036854775807) (hc : 0 ≤ c ∧ c ≤ 9223372036854775807) (ht : t.length ≤ 1048576) (hacc : acc.length ≤ 140000000000)
 (h : Ev (fun k => spec_EncodeState.l0 k (acc ++ (word8 a ++ word8 b ++ word8 c ++ word8 (t.length : Int) ++ t)) ss n (wrap64 (i + 1))) r) :
 Ev (fun k => spec_EncodeState.l1 k acc ss n i [a, b, c, (t.length : Int)] 4 0 a b c t) r := by
 have w1 : wrap64 ((0 : Int) + 1) = 1 := by unfold wrap64; omega
 have w2 : wrap64 ((1 : Int) + 1) = 2 := by unfold wrap64; omega
 have w3 : wrap64 ((2 : Int) + 1) = 3 := by unfold wrap64; omega
 have w4 : wrap64 ((3 : Int) + 1) = 4 := by unfold wrap64; omega
 refine Ev.step (fun k => by rw [spec_EncodeState.l1, if_pos (by decide), if_pos (by decide), if_pos (by simp)]) ?_
 refine Ev.bind (put_ev a ha.1 ha.2) ?_
 simp only [w1, word8_len, if_pos (show acc.length + 8 < 140737488355328 by omega)]
 refine Ev.step (fun k => by rw [spec_EncodeState.l1, if_pos (by decide), if_pos (by decide), if_pos (by simp)]) ?_
 refine Ev.bind (put_ev b hb.1 hb.2) ?_
 simp only [w2, List.length_append, word8_len, if_pos (show acc.length + 8 + 8 < 140737488355328 by omega)]
 refine Ev.step (fun k => by rw [spec_EncodeState.l1, if_pos (by decide), if_pos (by decide), if_pos (by simp)]) ?_
 refine Ev.bind (put_ev c hc.1 hc.2) ?_
 simp only [w3, List.length_append, word8_len, if_pos (show acc.length + 8 + 8 + 8 < 140737488355328 by omega)]
 refine Ev.step (fun k => by rw [spec_EncodeState.l1, if_pos (by decide), if_pos (by decide), if_pos (by simp)]) ?_
 refine Ev.bind (put_ev (t.length : Int) (by omega) (by omega)) ?_
 simp only [w4, List.length_append, word8_len, if_pos (show acc.length + 8 + 8 + 8 + 8 < 140737488355328 by omega)]
 refine Ev.step (fun k => by rw [spec_EncodeState.l1, if_neg (by decide)]) ?_
 simp only [List.length_append, word8_len, if_pos (show acc.length + 8 + 8 + 8 + 8 + t.length < 140737488355328 by omega)]
 simpa only [List.append_assoc] using h
theorem enc_l0 (cnt : Int) (ss : List S74) (hc : cnt ≤ 2000000) (hs : ss.length ≤ 1048576) (d : Nat) : ∀ (i : Nat) (acc : List Int), i ≤ ss.length → ss.length - i = d → SesssOk cnt ss i → acc.length + 96 * d ≤ 140000000000 →
 Ev (fun k => spec_EncodeState.l0 k acc ss (ss.length : Int) (i : Int)) (acc ++ fromBytes ss i, 0) := by
 induction d with
 | zero =>
  intro i acc hi hd hok hacc
  rw [fromBytes_end (by omega), List.append_nil]
  exact Ev.step (fun k => by rw [spec_EncodeState.l0, if_neg (by omega)]) (Ev.now _)
 | succ d ih =>
  intro i acc hi hd hok hacc
  obtain ⟨hok1, hok2⟩ := (SesssOk.step (by omega)).1 hok
  obtain ⟨⟨g1, g2, g3, g4, g5⟩, g6, g7, _⟩ := hok1
  have hlen := sessBytes_len (rd_T74 ss i)
  refine Ev.step (fun k => by rw [spec_EncodeState.l0, if_pos (by omega), if_pos (by omega), if_pos (by omega), Option.bind_some]) ?_
  refine enc_l1 ss (ss.length : Int) (i : Int) acc (rd_T74 ss i).f0 (rd_T74 ss i).f1 (rd_T74 ss i).f2 (rd_T74 ss i).f3 _ ⟨by omega, by omega⟩ ⟨by omega, by omega⟩ ⟨by omega, by omega⟩ (by omega) (by omega) ?_
  have h := ih (i + 1) (acc ++ sessBytes (rd_T74 ss i)) (by omega) (by omega) hok2 (by rw [List.length_append, hlen]; omega)
  rw [w64n (by omega), fromBytes_step (by omega), ← List.append_assoc acc (sessBytes _)]
  exact h
/-- The program's side. -/
def words (y : List Int) (i : Nat) : List Int := ((y.drop i).map word8).flatten
theorem words_step {y : List Int} {i : Nat} (h : i < y.length) : words y i = word8 (rd y i) ++ words y (i + 1) := by
 simp only [words, List.drop_eq_getElem_cons h, List.map_cons, List.flatten_cons, rd_get y i h]
theorem lay_l0 (y : List Int) (hy : y.length ≤ 1000) (hv : ∀ v ∈ y, 0 ≤ v ∧ v ≤ 9223372036854775807) (d : Nat) : ∀ (k i : Nat) (acc : List Int), i ≤ y.length → y.length - i = d → d < k → acc.length + 8 * d ≤ 140000000000 →
 impl_lay.l0 k acc y (y.length : Int) (i : Int) = some (acc ++ words y i) := by
 induction d with
 | zero =>
  intro k i acc hi hd hk hacc
  obtain ⟨k, rfl⟩ : ∃ m, k = m + 1 := ⟨k - 1, by omega⟩
  rw [impl_lay.l0, if_neg (by omega), words, List.drop_eq_nil_of_le (by omega), List.map_nil, List.flatten_nil, List.append_nil]
 | succ d ih =>
  intro k i acc hi hd hk hacc
  obtain ⟨k, rfl⟩ : ∃ m, k = m + 1 := ⟨k - 1, by omega⟩
  have hr := hv _ (List.getElem_mem (show i < y.length by omega))
  rw [← rd_get y i (by omega)] at hr
  rw [words_step (i := i) (by omega), impl_lay.l0, if_pos (by omega), if_pos (by omega), if_pos (by omega), little_u64 _ hr.1 hr.2, Option.bind_some, word8_len, if_pos (by omega), w64n (by omega), ih k (i + 1) (acc ++ word8 (rd y i)) (by omega) (by omega) (by omega) (by rw [List.length_append, word8_len]; omega), List.append_assoc]
theorem lay_ev (y : List Int) (hy : y.length ≤ 1000) (hv : ∀ v ∈ y, 0 ≤ v ∧ v ≤ 9223372036854775807) : Ev (fun k => impl_lay.f k y) (words y 0) := ev_of y.length (fun k hk => by
 unfold impl_lay.f
 have h := lay_l0 y hy hv y.length k 0 [] (by omega) (by omega) (by omega) (by simp; omega)
 simpa using h)
theorem state_l0 (cnt : Int) (ss : List S74) (hc : cnt ≤ 2000000) (hs : ss.length ≤ 1048576) (d : Nat) : ∀ (i : Nat) (acc : List Int), i ≤ ss.length → ss.length - i = d → SesssOk cnt ss i → acc.length + 96 * d ≤ 140000000000 →
 Ev (fun k => impl_Service_state.l0 k acc ss (ss.length : Int) (i : Int)) (acc ++ fromBytes ss i) := by
 induction d with
 | zero =>
  intro i acc hi hd hok hacc
  rw [fromBytes_end (by omega), List.append_nil]
  exact Ev.step (fun k => by rw [impl_Service_state.l0, if_neg (by omega)]) (Ev.now _)
 | succ d ih =>
  intro i acc hi hd hok hacc
  obtain ⟨hok1, hok2⟩ := (SesssOk.step (by omega)).1 hok
  obtain ⟨⟨g1, g2, g3, g4, g5⟩, g6, g7, _⟩ := hok1
  have hlen := sessBytes_len (rd_T74 ss i)
  have hw : words [(rd_T74 ss i).f0, (rd_T74 ss i).f1, (rd_T74 ss i).f2, ((rd_T74 ss i).f3.length : Int)] 0 = word8 (rd_T74 ss i).f0 ++ word8 (rd_T74 ss i).f1 ++ word8 (rd_T74 ss i).f2 ++ word8 ((rd_T74 ss i).f3.length : Int) := by
   simp [words]
  have hwl : (words [(rd_T74 ss i).f0, (rd_T74 ss i).f1, (rd_T74 ss i).f2, ((rd_T74 ss i).f3.length : Int)] 0).length = 32 := by
   rw [hw]; simp only [List.length_append, word8_len]
  refine Ev.step (fun k => by rw [impl_Service_state.l0, if_pos (by omega), if_pos (by omega), if_pos (by omega)]) ?_
  refine Ev.bind (lay_ev _ (by simp) (fun v hv => by
   simp only [List.mem_cons, List.not_mem_nil, or_false] at hv
   rcases hv with rfl | rfl | rfl | rfl <;> omega)) ?_
  simp only [hwl, if_pos (show acc.length + 32 < 140737488355328 by omega), Option.bind_some, List.length_append, if_pos (show acc.length + 32 + (rd_T74 ss i).f3.length < 140737488355328 by omega)]
  have h := ih (i + 1) (acc ++ sessBytes (rd_T74 ss i)) (by omega) (by omega) hok2 (by rw [List.length_append, hlen]; omega)
  rw [w64n (by omega), fromBytes_step (by omega), ← List.append_assoc acc (sessBytes _), hw, List.append_assoc acc]
  exact h
theorem fromBytes_len (cnt : Int) (ss : List S74) (d : Nat) : ∀ i : Nat, i ≤ ss.length → ss.length - i = d → SesssOk cnt ss i → (fromBytes ss i).length ≤ 96 * d := by
 induction d with
 | zero => intro i hi hd _; rw [fromBytes_end (by omega)]; simp
 | succ d ih =>
  intro i hi hd hok
  obtain ⟨hok1, hok2⟩ := (SesssOk.step (by omega)).1 hok
  have h1 := ih (i + 1) (by omega) (by omega) hok2
  have h2 : (rd_T74 ss i).f3.length ≤ 64 := hok1.1.2.2.2.2
  rw [fromBytes_step (by omega), List.length_append, sessBytes_len]
  omega
/-- Both encoders tell the same. -/
theorem encodeState_ev (a : Int) (ks : List S24) (ss : List S74) (hs : ss.length ≤ 1048576) : ∃ z c, Ev (fun k => spec_EncodeState.f k a ks ss) (z, c) ∧ Ev (fun k => impl_EncodeState.f k a ks ss) (z, c) ∧ z.length ≤ 200000000 := by
 obtain ⟨b, h1, h2, hiff⟩ := valid_both a ks ss hs
 unfold spec_EncodeState.f impl_EncodeState.f
 cases b with
 | false =>
  refine ⟨[], 5, Ev.bind h1 ?_, Ev.bind h2 ?_, by simp⟩
  · simp only [Bool.false_eq_true, if_false]; exact Ev.now _
  · simp only [Bool.false_eq_true, if_false]; exact Ev.now _
 | true =>
  obtain ⟨⟨g1, g2, g3⟩, hks, hss⟩ := hiff.1 rfl
  have hfl := fromBytes_len (a + ks.length) ss ss.length 0 (by omega) (by omega) hss
  have hw : words [a + (ks.length : Int), (ss.length : Int)] 0 = word8 (a + (ks.length : Int)) ++ word8 (ss.length : Int) := by simp [words]
  refine ⟨word8 (a + (ks.length : Int)) ++ word8 (ss.length : Int) ++ fromBytes ss 0, 0, Ev.bind h1 ?_, Ev.bind h2 ?_, by simp only [List.length_append, word8_len]; omega⟩
  · simp only [if_true]
    rw [w64 (x := a + (ks.length : Int)) (by omega) (by omega)]
    refine Ev.bind (put_ev _ (by omega) (by omega)) (Ev.bind (put_ev _ (by omega) (by omega)) ?_)
    simp only [word8_len, if_pos (show 8 + 8 < 140737488355328 by omega)]
    exact enc_l0 (a + ks.length) ss (by omega) hs ss.length 0 _ (by omega) (by omega) hss (by simp only [List.length_append, word8_len]; omega)
  · simp only [if_true]
    refine Ev.bind (a := word8 (a + (ks.length : Int)) ++ word8 (ss.length : Int) ++ fromBytes ss 0) ?_ (Ev.now _)
    unfold impl_Service_state.f impl_Service_count.f
    simp only [Option.bind_some]
    rw [w64 (x := a + (ks.length : Int)) (by omega) (by omega)]
    refine Ev.bind (lay_ev _ (by simp) (fun v hv => by
     simp only [List.mem_cons, List.not_mem_nil, or_false] at hv
     rcases hv with rfl | rfl <;> omega)) ?_
    rw [hw]
    exact state_l0 (a + ks.length) ss (by omega) hs ss.length 0 _ (by omega) (by omega) hss (by simp only [List.length_append, word8_len]; omega)

theorem eqItem_ev (x y : Int) (z : List Int) (hz : z.length ≤ 1048576) : Ev (fun k => laws_eqItem.f k x y z x y z) true := by
 unfold laws_eqItem.f
 simp only [if_true]
 refine Ev.bind (eqByteS_ev z (by omega)) ?_
 simp only [if_true]
 exact Ev.now _
theorem eqSession_ev (x y u : Int) (z : List Int) (hz : z.length ≤ 1048576) : Ev (fun k => laws_eqSession.f k x y u z x y u z) true := by
 unfold laws_eqSession.f
 simp only [if_true]
 refine Ev.bind (eqByteS_ev z (by omega)) ?_
 simp only [if_true]
 exact Ev.now _
theorem eqItemS_l0 (l : List S24) (hl : l.length ≤ 1048576) (hb : ∀ x ∈ l, x.f2.length ≤ 1048576) (d : Nat) : ∀ (i : Nat), i ≤ l.length → l.length - i = d → Ev (fun k => laws_eqItemS.l0 k l l (i : Int)) true := by
 induction d with
 | zero =>
  intro i hi hd
  exact Ev.step (fun k => by rw [laws_eqItemS.l0, if_neg (by omega)]) (Ev.now _)
 | succ d ih =>
  intro i hi hd
  have hn : (rd_T24 l i).f2.length ≤ 1048576 := by rw [rd_mem24 l i (by omega)]; exact hb _ (List.getElem_mem _)
  refine Ev.step (fun k => by rw [laws_eqItemS.l0, if_pos (by omega), if_pos (by omega), if_pos (by omega)]) ?_
  refine Ev.bind (eqItem_ev _ _ _ hn) ?_
  simp only [if_true, w64n (show i < 9223372036854775807 by omega)]
  exact ih (i + 1) (by omega) (by omega)
theorem eqSessionS_l0 (l : List S74) (hl : l.length ≤ 1048576) (hb : ∀ x ∈ l, x.f3.length ≤ 1048576) (d : Nat) : ∀ (i : Nat), i ≤ l.length → l.length - i = d → Ev (fun k => laws_eqSessionS.l0 k l l (i : Int)) true := by
 induction d with
 | zero =>
  intro i hi hd
  exact Ev.step (fun k => by rw [laws_eqSessionS.l0, if_neg (by omega)]) (Ev.now _)
 | succ d ih =>
  intro i hi hd
  have hn : (rd_T74 l i).f3.length ≤ 1048576 := by rw [rd_mem74 l i (by omega)]; exact hb _ (List.getElem_mem _)
  refine Ev.step (fun k => by rw [laws_eqSessionS.l0, if_pos (by omega), if_pos (by omega), if_pos (by omega)]) ?_
  refine Ev.bind (eqSession_ev _ _ _ _ hn) ?_
  simp only [if_true, w64n (show i < 9223372036854775807 by omega)]
  exact ih (i + 1) (by omega) (by omega)
/-- A service is the same as itself. -/
theorem eqService_ev (a : Int) (ks : List S24) (ss : List S74) (h1 : ks.length ≤ 1048576) (h2 : ss.length ≤ 1048576) (b1 : ∀ x ∈ ks, x.f2.length ≤ 1048576) (b2 : ∀ x ∈ ss, x.f3.length ≤ 1048576) : Ev (fun k => laws_eqService.f k a ks ss a ks ss) true := by
 unfold laws_eqService.f laws_eqItemS.f laws_eqSessionS.f
 simp only [if_true]
 refine Ev.bind (eqItemS_l0 ks h1 b1 ks.length 0 (by omega) (by omega)) ?_
 simp only [if_true]
 refine Ev.bind (eqSessionS_l0 ss h2 b2 ss.length 0 (by omega) (by omega)) ?_
 simp only [if_true]
 exact Ev.now _
theorem itemsTot_le (l : List S24) (hb : ∀ x ∈ l, x.f2.length ≤ 1048576) : itemsTot l ≤ l.length * 1048578 := by
 induction l with
 | nil => simp [itemsTot]
 | cons x l ih =>
  have h1 := ih (fun y hy => hb y (List.mem_cons_of_mem _ hy))
  have h2 := hb x List.mem_cons_self
  simp only [itemsTot, List.length_cons]
  omega
theorem sessTot_le (l : List S74) (hb : ∀ x ∈ l, x.f3.length ≤ 1048576) : sessTot l ≤ l.length * 1048579 := by
 induction l with
 | nil => simp [sessTot]
 | cons x l ih =>
  have h1 := ih (fun y hy => hb y (List.mem_cons_of_mem _ hy))
  have h2 := hb x List.mem_cons_self
  simp only [sessTot, List.length_cons]
  omega

theorem FnExactEncodeState (a0 : Int) (A1 : Option Addr) (c1 : Nat) (l1 : List S33) (A2 : Option Addr) (c2 : Nat) (l2 : List S96) (w : World) (hr1 : Kd.C k33 w A1 l1.length l1) (hc1 : l1.length ≤ c1) (hr2 : Kd.C k96 w A2 l2.length l2) (hc2 : l2.length ≤ c2)
 (_ : (Lit.int .i64 a0).wf = true) (n1 : l1.length ≤ 9223372036854775807) (g1 : ∀ x ∈ l1, ((Lit.int .i64 x.f0).wf = true) ∧ ((Lit.int .i64 x.f1).wf = true) ∧ (x.f2.length ≤ 9223372036854775807 ∧ ∀ b ∈ x.f2, (Lit.int .u8 b).wf = true)) (n2 : l2.length ≤ 9223372036854775807) (g2 : ∀ x ∈ l2, ((Lit.int .i64 x.f0).wf = true) ∧ ((Lit.int .i64 x.f1).wf = true) ∧ ((Lit.int .i64 x.f2).wf = true) ∧ (x.f3.length ≤ 9223372036854775807 ∧ ∀ b ∈ x.f3, (Lit.int .u8 b).wf = true)) :
 Calls Try.prog 5 #[.agg #[.int .i64 a0, .slice A1 l1.length c1, .slice A2 l2.length c2]] w fun e w' => e = .returned (.bool true) ∧ Below w.heap.size w w' := by
 obtain ⟨left, hsz, hle, hsm⟩ := szService_ev a0 l1 l2 n1 n2 (fun x hx => (g1 x hx).2.2.1) (fun x hx => (g2 x hx).2.2.2.1)
 by_cases c : left < 0
 · obtain ⟨k, hk⟩ := hsz.rounds
   exact lawEncodeState.large k a0 A1 c1 l1 A2 c2 l2 left w hr1 hc1 hr2 hc2 hk c
 · obtain ⟨s1, s2, t1, t2⟩ := hsm (by omega)
   have m1 : (l1.map convItem).length = l1.length := List.length_map _
   have m2 : (l2.map convSess).length = l2.length := List.length_map _
   have u1 : ∀ x ∈ l1.map convItem, x.f2.length ≤ 1048576 := fun x hx => by
    obtain ⟨y, hy, rfl⟩ := List.mem_map.1 hx
    exact t1 y hy
   have u2 : ∀ x ∈ l2.map convSess, x.f3.length ≤ 1048576 := fun x hx => by
    obtain ⟨y, hy, rfl⟩ := List.mem_map.1 hx
    exact t2 y hy
   obtain ⟨z, e, hs, hi, hz⟩ := encodeState_ev a0 (l1.map convItem) (l2.map convSess) (by omega)
   have he := eqByteS_ev z (by omega)
   have hq := eqService_ev a0 (l1.map convItem) (l2.map convSess) (by omega) (by omega) u1 u2
   obtain ⟨z2, hm, hl2, hM⟩ := markByteS_ev 1 (by omega) (by omega) z (by omega)
   have hh := heldByteS_ev 1 (by omega) (by omega) z2 (by omega) hM
   rw [hl2] at hh
   have i1 := itemsTot_le _ u1
   have i2 := sessTot_le _ u2
   obtain ⟨K1, f1⟩ := hsz
   obtain ⟨K2, f2⟩ := hs
   obtain ⟨K3, f3⟩ := hi
   obtain ⟨K4, f4⟩ := he
   obtain ⟨K5, f5⟩ := hq
   obtain ⟨K6, f6⟩ := hm
   obtain ⟨K7, f7⟩ := hh
   have hp : EsPure (K1 + K2 + K3 + K4 + K5 + K6 + K7) a0 l1 l2 (l1.map convItem) (l2.map convSess) left z z2 e := {
    sz := f1 _ (by omega), nonneg := c
    cp1 := by unfold laws_toItemS.f; rw [if_pos ⟨by omega, fun x hx => by have := t1 x hx; omega⟩]
    cp2 := by unfold laws_toSessionS.f; rw [if_pos ⟨by omega, fun x hx => by have := t2 x hx; omega⟩]
    sp := f2 _ (by omega), im := f3 _ (by omega), eqb := f4 _ (by omega), eqs := f5 _ (by omega), mark := f6 _ (by omega), held := f7 _ (by omega)
    tot := by omega
    len1 := by omega
    len2 := by omega }
   exact lawEncodeState.calls _ a0 A1 c1 l1 A2 c2 l2 _ _ left z z2 e w hr1 hc1 hr2 hc2 hp

end Go.Proofs.Ytladodfapnigfaa.Pure
