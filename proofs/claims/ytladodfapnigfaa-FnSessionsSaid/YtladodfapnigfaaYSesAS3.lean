/- AS3 -/
import Derived.Test.YtladodfapnigfaaYSesx0
import Derived.Test.YtladodfapnigfaaYSesx1
import Derived.Test.YtladodfapnigfaaYSesx2
import Derived.Test.YtladodfapnigfaaYSesx3
import Derived.Test.YtladodfapnigfaaYSesx4
import Derived.Test.YtladodfapnigfaaYSesx5
import Derived.Test.YtladodfapnigfaaYSesx6
import Derived.Test.YtladodfapnigfaaYSesx7
import Derived.Test.YtladodfapnigfaaYSesx8
import Derived.Test.YtladodfapnigfaaYSesAS2
import Derived.Test.YtladodfapnigfaaNum
namespace Go.Proofs.Ytladodfapnigfaa.YSes
open Go.RowKit Go.Proofs.YtladodfapnigfaaW.PrintWords Go.Proofs.YtladodfapnigfaaW.PrintLast Go.Proofs.YtladodfapnigfaaW.PrintMore
attribute [local go_sem] max2_int min2_int max_two min_two max_three min_three max_four min_four
set_option linter.unusedVariables false
set_option linter.unusedSimpArgs false
namespace Plain
open Go.Proofs.Ytladodfapnigfaa.Num
theorem unlittle_l0 (x : List Int) (hb : Bytes x) (hx : x.length ≤ 8) : ∀ (j k : Nat), j ≤ x.length → j < k →
    impl_unlittle.l0 k x (val (x.drop j)) ((j : Int) - 1) = some (val x) := by
  intro j
  induction j with
  | zero =>
    intro k hj hk
    obtain ⟨k, rfl⟩ : ∃ m, k = m + 1 := ⟨k - 1, by omega⟩
    rw [impl_unlittle.l0, if_neg (by omega), List.drop_zero]
  | succ j ih =>
    intro k hj hk
    obtain ⟨k, rfl⟩ : ∃ m, k = m + 1 := ⟨k - 1, by omega⟩
    have hr := val_le (hb.drop (j + 1)) (n := 7) (by simp; omega)
    have hg := hb.get j (by omega)
    rw [show ((j + 1 : Nat) : Int) - 1 = (j : Int) by omega, impl_unlittle.l0, if_pos (by omega), if_pos (by omega), if_pos (by omega), rd_get x j (by omega), or_byte _ _ hr.1 (by have := hr.2; omega) hg.1 hg.2, ← val_drop x j (by omega), w64 (by omega) (by omega)]
    exact ih k (by omega) (by omega)
theorem unlittle_ev (x : List Int) (hb : Bytes x) (hx : x.length ≤ 8) : Ev (fun k => impl_unlittle.f k x) (val x) := ev_of x.length (fun k hk => by
  unfold impl_unlittle.f
  have h := unlittle_l0 x hb hx x.length k (Nat.le_refl _) hk
  rw [List.drop_of_length_le (Nat.le_refl _)] at h
  rw [w64 (by omega) (by omega)]
  exact h)
theorem littleOf_length (v : Int) (n : Nat) : (littleOf v n).length = n := by simp [littleOf]
theorem little_some (v : Int) (hv : 0 ≤ v) (n : Nat) (h1 : 1 ≤ n) (hn : n ≤ 8) : impl_little.f v (n : Int) = some (littleOf v n) := by
  unfold impl_little.f
  rw [if_pos ⟨hv, by omega, by omega⟩, Int.toNat_natCast]
def ItemOk (a b : Int) (n : Nat) : Prop := 1 ≤ a ∧ a ≤ 50 ∧ 1 ≤ b ∧ b ≤ 1000000000 ∧ n ≤ 64
def SessOk (cnt : Int) (ss : List S74) (j : Nat) : Prop :=
  ItemOk (rd_T74 ss j).f0 (rd_T74 ss j).f1 (rd_T74 ss j).f3.length ∧ 0 ≤ (rd_T74 ss j).f2 ∧ (rd_T74 ss j).f2 < cnt ∧ (0 < j → (rd_T74 ss ((j - 1 : Nat) : Int)).f0 < (rd_T74 ss j).f0)
def ItemsOk (ks : List S24) (i : Nat) : Prop := ∀ j : Nat, i ≤ j → j < ks.length → ItemOk (rd_T24 ks j).f0 (rd_T24 ks j).f1 (rd_T24 ks j).f2.length
def SesssOk (cnt : Int) (ss : List S74) (i : Nat) : Prop := ∀ j : Nat, i ≤ j → j < ss.length → SessOk cnt ss j
def SvcOk (a : Int) (ks : List S24) (ss : List S74) : Prop := (0 ≤ a ∧ a ≤ 1000000 ∧ ks.length ≤ 1000000) ∧ ItemsOk ks 0 ∧ SesssOk (a + ks.length) ss 0
theorem l5Item_iff (a b : Int) (l : List Int) : ∃ t, impl_Item_valid.f a b l = some t ∧ (t = true ↔ ItemOk a b l.length) := by
  unfold impl_Item_valid.f ItemOk
  by_cases h1 : a ≥ 1
  · by_cases h2 : a ≤ 50
    · by_cases h3 : b ≥ 1
      · by_cases h4 : b ≤ 1000000000
        · rw [if_pos h1, if_pos h2, if_pos h3, if_pos h4]
          exact ⟨_, rfl, by rw [decide_eq_true_iff]; omega⟩
        · rw [if_pos h1, if_pos h2, if_pos h3, if_neg h4]
          exact ⟨_, rfl, by simp; omega⟩
      · rw [if_pos h1, if_pos h2, if_neg h3]
        exact ⟨_, rfl, by simp; omega⟩
    · rw [if_pos h1, if_neg h2]
      exact ⟨_, rfl, by simp; omega⟩
  · rw [if_neg h1]
    exact ⟨_, rfl, by simp; omega⟩
theorem ItemsOk.end_ {ks : List S24} {i : Nat} (h : ks.length ≤ i) : ItemsOk ks i := fun j h1 h2 => by omega
theorem SesssOk.end_ {cnt : Int} {ss : List S74} {i : Nat} (h : ss.length ≤ i) : SesssOk cnt ss i := fun j h1 h2 => by omega
theorem ItemsOk.step {ks : List S24} {i : Nat} (hi : i < ks.length) : ItemsOk ks i ↔ ItemOk (rd_T24 ks i).f0 (rd_T24 ks i).f1 (rd_T24 ks i).f2.length ∧ ItemsOk ks (i + 1) := by
  constructor
  · intro h
    exact ⟨h i (Nat.le_refl _) hi, fun j h1 h2 => h j (by omega) h2⟩
  · rintro ⟨h1, h2⟩ j h3 h4
    by_cases e : j = i
    · rw [e]; exact h1
    · exact h2 j (by omega) h4
theorem SesssOk.step {cnt : Int} {ss : List S74} {i : Nat} (hi : i < ss.length) : SesssOk cnt ss i ↔ SessOk cnt ss i ∧ SesssOk cnt ss (i + 1) := by
  constructor
  · intro h
    exact ⟨h i (Nat.le_refl _) hi, fun j h1 h2 => h j (by omega) h2⟩
  · rintro ⟨h1, h2⟩ j h3 h4
    by_cases e : j = i
    · rw [e]; exact h1
    · exact h2 j (by omega) h4
theorem false_iff_of {P : Prop} (h : ¬ P) : (false = true) ↔ P := ⟨fun e => (by cases e), fun p => absurd p h⟩
theorem impl_l0 (a : Int) (ks : List S24) (ss : List S74) (ha0 : 0 ≤ a) (ha : a ≤ 1000000) (hk : ks.length ≤ 1000000) (hs : ss.length ≤ 1048576) (d : Nat) : ∀ (k i : Nat), i ≤ ss.length → ss.length - i = d → d < k →
    ∃ b, impl_Service_valid.l0 k ss (ss.length : Int) (i : Int) a ks ss = some b ∧ (b = true ↔ SesssOk (a + ks.length) ss i) := by
  induction d with
  | zero =>
    intro k i hi hd hk2
    obtain ⟨k, rfl⟩ : ∃ m, k = m + 1 := ⟨k - 1, by omega⟩
    exact ⟨true, by rw [impl_Service_valid.l0, if_neg (by omega)], by simp; exact SesssOk.end_ (by omega)⟩
  | succ d ih =>
    intro k i hi hd hk2
    obtain ⟨k, rfl⟩ : ∃ m, k = m + 1 := ⟨k - 1, by omega⟩
    obtain ⟨b, hb, hiff⟩ := ih k (i + 1) (by omega) (by omega) (by omega)
    rw [SesssOk.step (by omega)]
    obtain ⟨t, ht, hti⟩ := l5Item_iff (rd_T74 ss i).f0 (rd_T74 ss i).f1 (rd_T74 ss i).f3
    rw [impl_Service_valid.l0, if_pos (by omega), if_pos (by omega), if_pos (by omega), ht, Option.bind_some]
    cases t with
    | false =>
      rw [if_neg (by decide)]
      exact ⟨false, rfl, false_iff_of (fun h => by have := hti.2 h.1.1; cases this)⟩
    | true =>
      rw [if_pos rfl]
      have hit := hti.1 rfl
      by_cases c1 : (rd_T74 ss i).f2 < 0
      · rw [if_pos c1]
        exact ⟨false, rfl, false_iff_of (fun h => by have := h.1.2.1; omega)⟩
      · rw [if_neg c1]
        unfold impl_Service_count.f
        rw [Option.bind_some, w64 (x := a + (ks.length : Int)) (by omega) (by omega)]
        by_cases c2 : (rd_T74 ss i).f2 ≥ a + (ks.length : Int)
        · rw [if_pos c2]
          exact ⟨false, rfl, false_iff_of (fun h => by have := h.1.2.2.1; omega)⟩
        · rw [if_neg c2, w64n (by omega)]
          by_cases c3 : (i : Int) > 0
          · rw [if_pos c3, w64 (x := (i : Int) - 1) (by omega) (by omega), if_pos (by omega), if_pos (by omega), show (i : Int) - 1 = ((i - 1 : Nat) : Int) by omega]
            by_cases c4 : (rd_T74 ss ((i - 1 : Nat) : Int)).f0 ≥ (rd_T74 ss i).f0
            · rw [if_pos c4]
              exact ⟨false, rfl, false_iff_of (fun h => by have := h.1.2.2.2 (by omega); omega)⟩
            · rw [if_neg c4]
              exact ⟨b, hb, hiff.trans ⟨fun h => ⟨⟨hit, by omega, by omega, fun _ => by omega⟩, h⟩, fun h => h.2⟩⟩
          · rw [if_neg c3]
            exact ⟨b, hb, hiff.trans ⟨fun h => ⟨⟨hit, by omega, by omega, fun _ => by omega⟩, h⟩, fun h => h.2⟩⟩
theorem any_bad (ks : List S24) : ks.any badItem = false ↔ ItemsOk ks 0 := by
  rw [List.any_eq_false]
  constructor
  · intro h j _ hj
    have e : rd_T24 ks (j : Int) = ks[j] := by simp [rd_T24, List.getD, hj]
    have h1 := h (ks[j]) (List.getElem_mem hj)
    obtain ⟨t, ht, hti⟩ := l5Item_iff (ks[j]).f0 (ks[j]).f1 (ks[j]).f2
    rw [bad_not (ks[j]) t ht] at h1
    rw [e]
    apply hti.1
    cases t
    · exact absurd rfl h1
    · rfl
  · intro h x hx
    obtain ⟨j, hj, rfl⟩ := List.getElem_of_mem hx
    have e : rd_T24 ks (j : Int) = ks[j] := by simp [rd_T24, List.getD, hj]
    have h1 := h j (Nat.zero_le _) hj
    rw [e] at h1
    obtain ⟨t, ht, hti⟩ := l5Item_iff (ks[j]).f0 (ks[j]).f1 (ks[j]).f2
    rw [bad_not (ks[j]) t ht, hti.2 h1]
    decide
theorem impl_valid (a : Int) (ks : List S24) (ss : List S74) (hs : ss.length ≤ 1048576) : ∃ b, Ev (fun k => impl_Service_valid.f k a ks ss) b ∧ (b = true ↔ SvcOk a ks ss) := by
  have out : Ev (fun k => impl_Service_valid.j0 k true a ks ss) false := Ev.step (fun k => by rw [impl_Service_valid.j0, if_pos rfl]) (Ev.now _)
  unfold impl_Service_valid.f
  by_cases c1 : a < 0
  · simp only [if_pos c1]
    exact ⟨false, out, false_iff_of (fun h => by have := h.1.1; omega)⟩
  simp only [if_neg c1]
  by_cases c2 : a > 1000000
  · simp only [if_pos c2]
    exact ⟨false, out, false_iff_of (fun h => by have := h.1.2.1; omega)⟩
  simp only [if_neg c2]
  by_cases c3 : (ks.length : Int) > 1000000
  · simp only [if_pos c3]
    exact ⟨false, out, false_iff_of (fun h => by have := h.1.2.2; omega)⟩
  simp only [if_neg c3, impl_Item_72.f, Option.bind_some]
  cases c4 : ks.any badItem with
  | true => exact ⟨false, out, false_iff_of (fun h => by have := (any_bad ks).2 h.2.1; rw [c4] at this; cases this)⟩
  | false =>
    have hks := (any_bad ks).1 c4
    obtain ⟨b, hb, hiff⟩ := impl_l0 a ks ss (by omega) (by omega) (by omega) hs ss.length (ss.length + 1) 0 (by omega) (by omega) (by omega)
    refine ⟨b, ⟨ss.length + 2, fun k hk => ?_⟩, hiff.trans ⟨fun h => ⟨⟨by omega, by omega, by omega⟩, hks, h⟩, fun h => h.2.2⟩⟩
    obtain ⟨k, rfl⟩ : ∃ m, k = m + 1 := ⟨k - 1, by omega⟩
    show impl_Service_valid.j0 (k + 1) _ _ _ _ = _
    rw [impl_Service_valid.j0, if_neg (by decide)]
    obtain ⟨b2, hb2, hiff2⟩ := impl_l0 a ks ss (by omega) (by omega) (by omega) hs ss.length k 0 (by omega) (by omega) (by omega)
    have e : b2 = b := by
      cases b2 <;> cases b
      · rfl
      · exact absurd (hiff2.2 (hiff.1 rfl)) (by decide)
      · exact absurd (hiff.2 (hiff2.1 rfl)) (by decide)
      · rfl
    rw [← e]
    exact hb2
def word8 (v : Int) : List Int := littleOf v 8
theorem word8_len (v : Int) : (word8 v).length = 8 := littleOf_length v 8
def sessBytes (x : S74) : List Int := word8 x.f0 ++ word8 x.f1 ++ word8 x.f2 ++ word8 (x.f3.length : Int) ++ x.f3
def fromBytes (ss : List S74) (i : Nat) : List Int := ((ss.drop i).map sessBytes).flatten
theorem sessBytes_len (x : S74) : (sessBytes x).length = 32 + x.f3.length := by
  simp only [sessBytes, List.length_append, word8_len]
theorem fromBytes_end {ss : List S74} {i : Nat} (h : ss.length ≤ i) : fromBytes ss i = [] := by
  simp [fromBytes, List.drop_eq_nil_of_le h]
theorem rd_mem74 (l : List S74) (i : Nat) (h : i < l.length) : rd_T74 l (i : Int) = l[i] := by
  simp [rd_T74, List.getD, h]
theorem rd_mem24 (l : List S24) (i : Nat) (h : i < l.length) : rd_T24 l (i : Int) = l[i] := by
  simp [rd_T24, List.getD, h]
theorem fromBytes_step {ss : List S74} {i : Nat} (h : i < ss.length) : fromBytes ss i = sessBytes (rd_T74 ss i) ++ fromBytes ss (i + 1) := by
  simp only [fromBytes, List.drop_eq_getElem_cons h, List.map_cons, List.flatten_cons, rd_mem74 ss i h]
theorem fromBytes_len (cnt : Int) (ss : List S74) (d : Nat) : ∀ i : Nat, i ≤ ss.length → ss.length - i = d → SesssOk cnt ss i → (fromBytes ss i).length ≤ 96 * d := by
  induction d with
  | zero => intro i hi hd _; rw [fromBytes_end (by omega)]; simp
  | succ d ih =>
    intro i hi hd hok
    obtain ⟨hok1, hok2⟩ := (SesssOk.step (by omega)).1 hok
    have h1 := ih (i + 1) (by omega) (by omega) hok2
    have h2 : (rd_T74 ss i).f3.length ≤ 64 := hok1.1.2.2.2.2
    rw [fromBytes_step (by omega), List.length_append, sessBytes_len]
    omega
theorem little_u64 (v : Int) (hv : 0 ≤ v) (hv' : v ≤ 9223372036854775807) : impl_little.f (IntKind.u64.wrap v) 8 = some (word8 v) := by
  rw [wu64 hv (by omega)]
  exact little_some v hv 8 (by omega) (by omega)
def words (y : List Int) (i : Nat) : List Int := ((y.drop i).map word8).flatten
theorem words_step {y : List Int} {i : Nat} (h : i < y.length) : words y i = word8 (rd y i) ++ words y (i + 1) := by
  simp only [words, List.drop_eq_getElem_cons h, List.map_cons, List.flatten_cons, rd_get y i h]
theorem lay_l0 (y : List Int) (hy : y.length ≤ 1000) (hv : ∀ v ∈ y, 0 ≤ v ∧ v ≤ 9223372036854775807) (d : Nat) : ∀ (k i : Nat) (acc : List Int), i ≤ y.length → y.length - i = d → d < k → acc.length + 8 * d ≤ 140000000000 →
    impl_lay.l0 k acc y (y.length : Int) (i : Int) = some (acc ++ words y i) := by
  induction d with
  | zero =>
    intro k i acc hi hd hk hacc
    obtain ⟨k, rfl⟩ : ∃ m, k = m + 1 := ⟨k - 1, by omega⟩
    rw [impl_lay.l0, if_neg (by omega), words, List.drop_eq_nil_of_le (by omega), List.map_nil, List.flatten_nil, List.append_nil]
  | succ d ih =>
    intro k i acc hi hd hk hacc
    obtain ⟨k, rfl⟩ : ∃ m, k = m + 1 := ⟨k - 1, by omega⟩
    have hr := hv _ (List.getElem_mem (show i < y.length by omega))
    rw [← rd_get y i (by omega)] at hr
    rw [words_step (i := i) (by omega), impl_lay.l0, if_pos (by omega), if_pos (by omega), if_pos (by omega), little_u64 _ hr.1 hr.2, Option.bind_some, word8_len, if_pos (by omega), w64n (by omega), ih k (i + 1) (acc ++ word8 (rd y i)) (by omega) (by omega) (by omega) (by rw [List.length_append, word8_len]; omega), List.append_assoc]
theorem lay_ev (y : List Int) (hy : y.length ≤ 1000) (hv : ∀ v ∈ y, 0 ≤ v ∧ v ≤ 9223372036854775807) : Ev (fun k => impl_lay.f k y) (words y 0) := ev_of y.length (fun k hk => by
  unfold impl_lay.f
  have h := lay_l0 y hy hv y.length k 0 [] (by omega) (by omega) (by omega) (by simp; omega)
  simpa using h)
theorem state_l0 (cnt : Int) (ss : List S74) (hc : cnt ≤ 2000000) (hs : ss.length ≤ 1048576) (d : Nat) : ∀ (i : Nat) (acc : List Int), i ≤ ss.length → ss.length - i = d → SesssOk cnt ss i → acc.length + 96 * d ≤ 140000000000 →
    Ev (fun k => impl_Service_state.l0 k acc ss (ss.length : Int) (i : Int)) (acc ++ fromBytes ss i) := by
  induction d with
  | zero =>
    intro i acc hi hd hok hacc
    rw [fromBytes_end (by omega), List.append_nil]
    exact Ev.step (fun k => by rw [impl_Service_state.l0, if_neg (by omega)]) (Ev.now _)
  | succ d ih =>
    intro i acc hi hd hok hacc
    obtain ⟨hok1, hok2⟩ := (SesssOk.step (by omega)).1 hok
    obtain ⟨⟨g1, g2, g3, g4, g5⟩, g6, g7, _⟩ := hok1
    have hlen := sessBytes_len (rd_T74 ss i)
    have hw : words [(rd_T74 ss i).f0, (rd_T74 ss i).f1, (rd_T74 ss i).f2, ((rd_T74 ss i).f3.length : Int)] 0 = word8 (rd_T74 ss i).f0 ++ word8 (rd_T74 ss i).f1 ++ word8 (rd_T74 ss i).f2 ++ word8 ((rd_T74 ss i).f3.length : Int) := by
      simp [words]
    have hwl : (words [(rd_T74 ss i).f0, (rd_T74 ss i).f1, (rd_T74 ss i).f2, ((rd_T74 ss i).f3.length : Int)] 0).length = 32 := by
      rw [hw]; simp only [List.length_append, word8_len]
    refine Ev.step (fun k => by rw [impl_Service_state.l0, if_pos (by omega), if_pos (by omega), if_pos (by omega)]) ?_
    refine Ev.bind (lay_ev _ (by simp) (fun v hv => by
      simp only [List.mem_cons, List.not_mem_nil, or_false] at hv
      rcases hv with rfl | rfl | rfl | rfl <;> omega)) ?_
    simp only [hwl, if_pos (show acc.length + 32 < 140737488355328 by omega), Option.bind_some, List.length_append, if_pos (show acc.length + 32 + (rd_T74 ss i).f3.length < 140737488355328 by omega)]
    have h := ih (i + 1) (acc ++ sessBytes (rd_T74 ss i)) (by omega) (by omega) hok2 (by rw [List.length_append, hlen]; omega)
    rw [w64n (by omega), fromBytes_step (by omega), ← List.append_assoc acc (sessBytes _), hw, List.append_assoc acc]
    exact h
theorem littleOf_cons (v : Int) (n : Nat) : littleOf v (n + 1) = (v % 256) :: littleOf (v / 256) n := by
  simp only [littleOf, List.range_succ_eq_map, List.map_cons, List.map_map]
  congr 1
  · simp
  · apply List.map_congr_left
    intro i _
    show v / 2 ^ (8 * (i + 1)) % 256 = v / 256 / 2 ^ (8 * i) % 256
    rw [Int.ediv_ediv_of_nonneg (by omega), show (256 : Int) = 2 ^ 8 by decide, ← Int.pow_add, show 8 + 8 * i = 8 * (i + 1) by omega]
theorem littleOf_val : ∀ (x : List Int), Bytes x → littleOf (val x) x.length = x
  | [], _ => rfl
  | b :: l, h => by
    have hb := h b List.mem_cons_self
    have ih := littleOf_val l (fun y hy => h y (List.mem_cons_of_mem _ hy))
    rw [List.length_cons, littleOf_cons, val, show (b + 256 * val l) % 256 = b by omega, show (b + 256 * val l) / 256 = val l by omega, ih]
theorem val_littleOf (n : Nat) : ∀ v : Int, 0 ≤ v → v < 256 ^ n → val (littleOf v n) = v := by
  induction n with
  | zero => intro v h0 h1; simp at h1; have : v = 0 := by omega
            subst this; rfl
  | succ n ih =>
    intro v h0 h1
    have h2 : v / 256 < 256 ^ n := by
      apply Int.ediv_lt_of_lt_mul (by omega)
      rw [Int.pow_succ] at h1
      exact h1
    rw [littleOf_cons, val, ih (v / 256) (by omega) h2]
    omega
theorem word8_head (v : Int) (l : List Int) (h0 : 0 ≤ v) (h1 : v ≤ 9223372036854775807) : head8 (word8 v ++ l) = v := by
  unfold head8
  rw [List.take_append_of_le_length (by rw [word8_len]; omega), List.take_of_length_le (by rw [word8_len]; omega)]
  exact val_littleOf 8 v h0 (by omega)
theorem nextF_word (v m : Int) (l : List Int) (ok : Bool) (h0 : 0 ≤ v) (hm : v ≤ m) (hmm : m ≤ 9223372036854775807) : nextF (word8 v ++ l) ok m = (v, l, ok) := by
  unfold nextF
  rw [if_neg (by rw [List.length_append, word8_len]; omega), word8_head v l h0 (by omega), if_neg (by omega), List.drop_append_of_le_length (by rw [word8_len]; omega), List.drop_of_length_le (by rw [word8_len]; omega), List.nil_append]
theorem fromBytes_cons (x : S74) (ss : List S74) : fromBytes (x :: ss) 0 = sessBytes x ++ fromBytes ss 0 := by simp [fromBytes]
theorem fromBytes_nil : fromBytes ([] : List S74) 0 = [] := rfl
def SessFit (x : S74) : Prop := (0 ≤ x.f0 ∧ x.f0 ≤ 50) ∧ (0 ≤ x.f1 ∧ x.f1 ≤ 1000000000) ∧ (0 ≤ x.f2 ∧ x.f2 ≤ 2000000) ∧ x.f3.length ≤ 64
theorem dsLoop_in (new : List S74) : ∀ (ss : List S74) (rest : List Int), (∀ x ∈ new, SessFit x) → dsLoop new.length (fromBytes new 0 ++ rest) ss = (rest, true, ss ++ new) := by
  induction new with
  | nil => intro ss rest _; simp [dsLoop, fromBytes]
  | cons x new ih =>
    intro ss rest h
    obtain ⟨h0, h1, h2, h3⟩ := h x List.mem_cons_self
    rw [List.length_cons, dsLoop, fromBytes_cons, sessBytes]
    have e : word8 x.f0 ++ word8 x.f1 ++ word8 x.f2 ++ word8 (x.f3.length : Int) ++ x.f3 ++ fromBytes new 0 ++ rest = word8 x.f0 ++ (word8 x.f1 ++ (word8 x.f2 ++ (word8 (x.f3.length : Int) ++ (x.f3 ++ (fromBytes new 0 ++ rest))))) := by simp only [List.append_assoc]
    rw [e]
    simp only [nextF_word x.f0 50 _ _ h0.1 h0.2 (by omega), nextF_word x.f1 1000000000 _ _ h1.1 h1.2 (by omega), nextF_word x.f2 2000000 _ _ h2.1 h2.2 (by omega), nextF_word (x.f3.length : Int) 64 _ _ (by omega) (by omega) (by omega), Int.toNat_natCast]
    rw [if_pos ⟨trivial, by rw [List.length_append]; omega⟩, List.drop_append_of_le_length (Nat.le_refl _), List.drop_of_length_le (Nat.le_refl _), List.nil_append, List.take_append_of_le_length (Nat.le_refl _), List.take_of_length_le (Nat.le_refl _), ih _ _ (fun y hy => h y (List.mem_cons_of_mem _ hy))]
    simp
def encoded (base : Int) (ss : List S74) : List Int := word8 base ++ word8 (ss.length : Int) ++ fromBytes ss 0
theorem dsRun_in (base : Int) (ss : List S74) (h0 : 0 ≤ base) (h1 : base ≤ 2000000) (hn : ss.length ≤ 50) (h : ∀ x ∈ ss, SessFit x) : (dsBase (encoded base ss)).1 = base ∧ dsRun (encoded base ss) = ([], true, ss) := by
  have e1 : dsBase (encoded base ss) = (base, word8 (ss.length : Int) ++ fromBytes ss 0, true) := by
    unfold dsBase encoded
    rw [List.append_assoc]
    exact nextF_word base 2000000 _ _ h0 h1 (by omega)
  have e2 : dsCount (encoded base ss) = ((ss.length : Int), fromBytes ss 0, true) := by
    unfold dsCount
    rw [e1]
    exact nextF_word (ss.length : Int) 50 _ _ (by omega) (by omega) (by omega)
  refine ⟨by rw [e1], ?_⟩
  unfold dsRun dsGo
  rw [e2]
  have g := dsLoop_in ss [] [] h
  rw [List.append_nil] at g
  simpa using g
/-! ### the draws -/
theorem n_draw (l : List Int) (hl : l.length ≤ 1048576) (i x k : Int) (hi : 0 ≤ i) (hk : 2 ≤ k) (hk' : k ≤ 1000) : ∃ n i' x', spec_l1Src_N.f l i x k = some (n, i', x') ∧ 0 ≤ n ∧ n < k ∧ 0 ≤ i' := by
  have hu : IntKind.u64.wrap k = k := wu64 (by omega) (by omega)
  have key : ∀ z : Int, 0 ≤ wrap64 (Int.tmod (IntKind.u64.wrap z / 8589934592) k) ∧ wrap64 (Int.tmod (IntKind.u64.wrap z / 8589934592) k) < k := fun z => by
    have h0 := (wu64_range z).1
    have h1 : 0 ≤ IntKind.u64.wrap z / 8589934592 := by omega
    have h2 := Int.tmod_nonneg k h1
    have h3 := Int.tmod_lt_of_pos (IntKind.u64.wrap z / 8589934592) (show 0 < k by omega)
    rw [w64 (by omega) (by omega)]
    exact ⟨h2, h3⟩
  unfold spec_l1Src_N.f
  by_cases c : i < (l.length : Int)
  · rw [if_pos c, if_pos hi, if_neg (by omega), hu, if_neg (by omega), w64 (x := i + 1) (by omega) (by omega)]
    exact ⟨_, _, _, rfl, (key _).1, (key _).2, by omega⟩
  · rw [if_neg c, if_neg (by omega), hu, if_neg (by omega)]
    exact ⟨_, _, _, rfl, (key _).1, (key _).2, hi⟩
theorem bytes_l0 (l : List Int) (hl : l.length ≤ 1048576) (n : Int) (hn : n ≤ 1000) (d : Nat) : ∀ (acc : List Int) (j : Nat) (i x : Int), 0 ≤ i → (n - j).toNat = d → acc.length = j → j ≤ 1000 → Bytes acc →
    ∃ out i' x', Ev (fun k => spec_l1Src_Bytes.l0 k n acc (j : Int) l i x) (out, i', x') ∧ out.length = j + d ∧ Bytes out ∧ 0 ≤ i' := by
  induction d with
  | zero =>
    intro acc j i x hi hd ha hj hb
    exact ⟨acc, i, x, Ev.step (fun k => by rw [spec_l1Src_Bytes.l0, if_neg (by omega)]) (Ev.now _), by omega, hb, hi⟩
  | succ d ih =>
    intro acc j i x hi hd ha hj hb
    obtain ⟨v, i1, x1, hv, h0, h1, hi1⟩ := n_draw l hl i x 256 hi (by omega) (by omega)
    obtain ⟨out, i2, x2, he, hlen, hbo, hi2⟩ := ih (acc ++ [v % 256]) (j + 1) i1 x1 hi1 (by omega) (by simp [ha]) (by omega) (hb.append (fun b hb => by
      rw [List.mem_singleton] at hb; subst hb; omega))
    refine ⟨out, i2, x2, Ev.step (fun k => by rw [spec_l1Src_Bytes.l0, if_pos (by omega), hv, Option.bind_some, if_pos (by omega), w64n (by omega)]) he, by omega, hbo, hi2⟩
theorem bytes_draw (l : List Int) (hl : l.length ≤ 1048576) (n : Nat) (hn : n ≤ 1000) (i x : Int) (hi : 0 ≤ i) : ∃ out i' x', Ev (fun k => spec_l1Src_Bytes.f k l i x (n : Int)) (out, i', x') ∧ out.length = n ∧ Bytes out ∧ 0 ≤ i' := by
  obtain ⟨out, i', x', h, h1, h2, h3⟩ := bytes_l0 l hl n (by omega) n [] 0 i x hi (by omega) rfl (by omega) (fun b hb => by cases hb)
  exact ⟨out, i', x', h, by omega, h2, h3⟩
theorem item_draw (l : List Int) (hl : l.length ≤ 1048576) (i x : Int) (hi : 0 ≤ i) : ∃ (y : S24) (i' x' : Int), Ev (fun k => spec_L5DrawItem.f k l i x) (y.f0, y.f1, y.f2, i', x') ∧ DrawnOk y ∧ 0 ≤ i' := by
  unfold spec_L5DrawItem.f spec_l1Src_One.f
  obtain ⟨n1, i1, x1, e1, a1, b1, c1⟩ := n_draw l hl i x 3 hi (by omega) (by omega)
  obtain ⟨n2, i2, x2, e2, a2, b2, c2⟩ := n_draw l hl i1 x1 6 c1 (by omega) (by omega)
  obtain ⟨n3, i3, x3, e3, a3, b3, c3⟩ := n_draw l hl i2 x2 4 c2 (by omega) (by omega)
  obtain ⟨m3, rfl⟩ := Int.eq_ofNat_of_zero_le a3
  obtain ⟨d4, i4, x4, e4, l4, y4, c4⟩ := bytes_draw l hl m3 (by omega) i3 x3 c3
  obtain ⟨n5, i5, x5, e5, a5, b5, c5⟩ := n_draw l hl i4 x4 20 c4 (by omega) (by omega)
  simp only [e1, e2, e3, Option.bind_some]
  by_cases c : n5 = 0
  · obtain ⟨n6, i6, x6, e6, a6, b6, c6⟩ := n_draw l hl i5 x5 2 c5 (by omega) (by omega)
    obtain ⟨d7, i7, x7, e7, l7, y7, c7⟩ := bytes_draw l hl 64 (by omega) i6 x6 c6
    refine ⟨⟨50 - n6, 1000000000, d7⟩, i7, x7, Ev.bind e4 ?_, ⟨by show 1 ≤ 50 - n6; omega, by show 50 - n6 ≤ 50; omega, by show (1 : Int) ≤ 1000000000; omega, by show (1000000000 : Int) ≤ 1000000000; omega, by show d7.length ≤ 64; omega, y7⟩, c7⟩
    subst c
    simp only [e5, Option.bind_some, beq_self_eq_true, if_true, e6]
    rw [w64 (x := 50 - n6) (by omega) (by omega)]
    exact Ev.bind e7 (Ev.now _)
  · refine ⟨⟨1 + n1, 1 + n2, d4⟩, i5, x5, Ev.bind e4 ?_, ⟨by show 1 ≤ 1 + n1; omega, by show 1 + n1 ≤ 50; omega, by show 1 ≤ 1 + n2; omega, by show 1 + n2 ≤ 1000000000; omega, by show d4.length ≤ 64; omega, y4⟩, c5⟩
    have cb : (n5 == 0) = false := by simpa using c
    simp only [e5, Option.bind_some, cb, Bool.false_eq_true, if_false]
    rw [w64 (x := 1 + n1) (by omega) (by omega), w64 (x := 1 + n2) (by omega) (by omega)]
    exact Ev.now _
theorem start_draw (l : List Int) (hl : l.length ≤ 1048576) (x0 : Int) : ∃ z n i x, spec_L1Size.f l 47 = some z ∧ spec_l1Src_N.f l 0 x0 z = some (n, i, x) ∧ 0 ≤ n ∧ n ≤ 47 ∧ 0 ≤ i := by
  unfold spec_L1Size.f
  rw [w64 (x := (l.length : Int) / 2) (by omega) (by omega), w64 (x := 2 + (l.length : Int) / 2) (by omega) (by omega)]
  by_cases c : 2 + (l.length : Int) / 2 > 47
  · rw [if_pos c]
    obtain ⟨n, i, x, e, a, b, d⟩ := n_draw l hl 0 x0 47 (by omega) (by omega) (by omega)
    exact ⟨47, n, i, x, rfl, e, a, by omega, d⟩
  · rw [if_neg c]
    obtain ⟨n, i, x, e, a, b, d⟩ := n_draw l hl 0 x0 (2 + (l.length : Int) / 2) (by omega) (by omega) (by omega)
    exact ⟨_, n, i, x, rfl, e, a, by omega, d⟩
/-! ### an item's code -/
theorem encode_some (y : S24) (h : DrawnOk y) : impl_EncodeItem.f y.f0 y.f1 y.f2 = some (littleOf y.f0 4 ++ littleOf y.f1 4 ++ y.f2, 0) := by
  obtain ⟨h1, h2, h3, h4, h5, _⟩ := h
  unfold impl_EncodeItem.f
  obtain ⟨t, ht, hti⟩ := l5Item_iff y.f0 y.f1 y.f2
  obtain rfl : t = true := hti.2 ⟨h1, h2, h3, h4, h5⟩
  have f1 : impl_little.f y.f0 4 = some (littleOf y.f0 4) := little_some y.f0 (by omega) 4 (by omega) (by omega)
  have f2 : impl_little.f y.f1 4 = some (littleOf y.f1 4) := little_some y.f1 (by omega) 4 (by omega) (by omega)
  have e1 : (littleOf y.f0 4).length = 4 := littleOf_length _ _
  have e2 : (littleOf y.f1 4).length = 4 := littleOf_length _ _
  rw [ht, Option.bind_some, if_pos rfl, wu64 (x := y.f0) (by omega) (by omega), wu64 (x := y.f1) (by omega) (by omega), f1, Option.bind_some, f2, Option.bind_some]
  unfold slices_Concat_byte_byte.f
  have e3 : [littleOf y.f0 4, littleOf y.f1 4, y.f2].flatten = littleOf y.f0 4 ++ littleOf y.f1 4 ++ y.f2 := by simp
  rw [e3, if_pos (by simp only [List.length_append, e1, e2]; omega), Option.bind_some]
theorem littleOf_bytes (v : Int) (n : Nat) : Bytes (littleOf v n) := fun b hb => by
  unfold littleOf at hb
  obtain ⟨i, _, rfl⟩ := List.mem_map.1 hb
  omega
theorem decode_some (y : S24) (h : DrawnOk y) : Ev (fun k => impl_DecodeItem.f k (littleOf y.f0 4 ++ littleOf y.f1 4 ++ y.f2)) (y.f0, y.f1, y.f2, 0) := by
  obtain ⟨h1, h2, h3, h4, h5, _⟩ := h
  obtain ⟨t, ht, hti⟩ := l5Item_iff y.f0 y.f1 y.f2
  obtain rfl : t = true := hti.2 ⟨h1, h2, h3, h4, h5⟩
  have e1 : (littleOf y.f0 4).length = 4 := littleOf_length _ _
  have e2 : (littleOf y.f1 4).length = 4 := littleOf_length _ _
  have v1 : val (littleOf y.f0 4) = y.f0 := val_littleOf 4 _ (by omega) (by omega)
  have v2 : val (littleOf y.f1 4) = y.f1 := val_littleOf 4 _ (by omega) (by omega)
  generalize hA : littleOf y.f0 4 = A at *
  generalize hB : littleOf y.f1 4 = B at *
  have p1 : (A ++ B ++ y.f2).take 4 = A := by rw [List.append_assoc, List.take_append_of_le_length (by omega), List.take_of_length_le (by omega)]
  have p2 : ((A ++ B ++ y.f2).take 8).drop 4 = B := by
    rw [List.take_append_of_le_length (by rw [List.length_append]; omega), List.take_of_length_le (by rw [List.length_append]; omega), List.drop_append_of_le_length (by omega), List.drop_of_length_le (by omega), List.nil_append]
  have p3 : (A ++ B ++ y.f2).drop 8 = y.f2 := by rw [List.drop_append_of_le_length (by rw [List.length_append]; omega), List.drop_of_length_le (by rw [List.length_append]; omega), List.nil_append]
  have hlen : (A ++ B ++ y.f2).length = 8 + y.f2.length := by simp only [List.length_append]; omega
  have q1 := unlittle_ev A (hA ▸ littleOf_bytes _ _) (by omega)
  have q2 := unlittle_ev B (hB ▸ littleOf_bytes _ _) (by omega)
  rw [v1] at q1
  rw [v2] at q2
  unfold impl_DecodeItem.f slices_Clone_byte_byte.f
  have g0 : ¬ ((A ++ B ++ y.f2).length : Int) < 8 := by omega
  have g1 : 4 ≤ ((A ++ B ++ y.f2).length : Int) := by omega
  have g2 : 8 ≤ ((A ++ B ++ y.f2).length : Int) := by omega
  have g3 : y.f2.length < 140737488355328 := by omega
  simp only [if_neg g0, if_pos g1, if_pos g2, p1, p2, p3, if_pos g3, Option.bind_some]
  refine Ev.bind q1 ?_
  refine Ev.bind q2 ?_
  simp only [w64 (x := y.f0) (by omega) (by omega), w64 (x := y.f1) (by omega) (by omega), ht, Option.bind_some, if_true]
  exact Ev.now _
theorem cp_some (b : List Int) (h : b.length ≤ 1000) : laws_cp.f b = some b := by
  unfold laws_cp.f
  rw [Option.bind_some, if_pos (by simp; omega), List.nil_append]
/-! ### the sessions' place of a client -/
theorem cnt_split (k : Int) : ∀ ss : List S74, ss.Pairwise (fun a b => a.f0 < b.f0) → ∃ a b, ss = a ++ b ∧ cntS ss k = a.length ∧ (∀ y ∈ a, y.f0 < k) ∧ (∀ y ∈ b, k ≤ y.f0)
  | [], _ => ⟨[], [], rfl, rfl, fun _ h => (by cases h), fun _ h => (by cases h)⟩
  | x :: r, h => by
    obtain ⟨hx, hr⟩ := List.pairwise_cons.1 h
    by_cases c : x.f0 < k
    · obtain ⟨a, b, e, hc, ha, hb⟩ := cnt_split k r hr
      refine ⟨x :: a, b, by rw [e]; rfl, ?_, fun y hy => ?_, hb⟩
      · unfold cntS at hc ⊢
        rw [List.countP_cons_of_pos (by simpa using c), hc]
        rfl
      · rcases List.mem_cons.1 hy with rfl | hy
        · exact c
        · exact ha y hy
    · refine ⟨[], x :: r, rfl, ?_, fun _ h => (by cases h), fun y hy => ?_⟩
      · unfold cntS
        rw [List.length_nil, List.countP_eq_zero]
        intro y hy
        rcases List.mem_cons.1 hy with rfl | hy
        · simpa using c
        · have := hx y hy
          simp; omega
      · rcases List.mem_cons.1 hy with rfl | hy
        · omega
        · have := hx y hy
          omega
theorem rd_mid (a b : List S74) (y : S74) : rd_T74 (a ++ y :: b) ((a.length : Nat) : Int) = y := by
  rw [rd_mem74 _ _ (by simp)]
  simp
theorem there_cases (ss : List S74) (k : Int) (h : ss.Pairwise (fun a b => a.f0 < b.f0)) :
    (∃ a y b, ss = a ++ y :: b ∧ cntS ss k = a.length ∧ thereS ss k = true ∧ y.f0 = k ∧ (∀ z ∈ a, z.f0 < k) ∧ (∀ z ∈ b, k < z.f0)) ∨
    (∃ a b, ss = a ++ b ∧ cntS ss k = a.length ∧ thereS ss k = false ∧ (∀ z ∈ a, z.f0 < k) ∧ (∀ z ∈ b, k < z.f0)) := by
  obtain ⟨a, b, e, hc, ha, hb⟩ := cnt_split k ss h
  unfold thereS
  rw [hc]
  cases b with
  | nil =>
    refine .inr ⟨a, [], e, rfl, ?_, ha, fun _ h => (by cases h)⟩
    rw [e]; simp
  | cons y b =>
    have hp := (List.pairwise_append.1 (e ▸ h)).2.1
    have hy := List.pairwise_cons.1 hp
    have hr : rd_T74 ss ((a.length : Nat) : Int) = y := by rw [e]; exact rd_mid a b y
    have hl : a.length < ss.length := by rw [e]; simp
    rw [hr, decide_eq_true hl, Bool.true_and]
    by_cases c : y.f0 = k
    · exact .inl ⟨a, y, b, e, rfl, by simpa using c, c, ha, fun z hz => by have := hy.1 z hz; omega⟩
    · have h1 := hb y List.mem_cons_self
      refine .inr ⟨a, y :: b, e, rfl, by simpa using c, ha, fun z hz => ?_⟩
      rcases List.mem_cons.1 hz with rfl | hz
      · omega
      · have := hy.1 z hz
        omega
/-! ### what holds from round to round -/
structure SInv (ks : List S24) (ss : List S74) : Prop where
  items : ∀ x ∈ ks, ItemOk x.f0 x.f1 x.f2.length ∧ Bytes x.f2
  sess : ∀ y ∈ ss, ∃ p : Nat, y.f2 = p ∧ ks[p]? = some ⟨y.f0, y.f1, y.f3⟩
  asc : ss.Pairwise (fun a b => a.f0 < b.f0)
  most : ∀ y ∈ ss, ∀ (j : Nat) (x : S24), ks[j]? = some x → x.f0 = y.f0 → x.f1 ≤ y.f1 ∧ (x.f1 = y.f1 → y.f2 = j)
  has : ∀ x ∈ ks, ∃ y ∈ ss, y.f0 = x.f0
theorem SInv.init : SInv [] [] := ⟨fun _ h => (by cases h), fun _ h => (by cases h), .nil, fun _ h => (by cases h), fun _ h => (by cases h)⟩
theorem SInv.put {ks : List S24} {ss : List S74} (h : SInv ks ss) (x : S24) (hx : ItemOk x.f0 x.f1 x.f2.length ∧ Bytes x.f2) (hno : ∀ z ∈ ks, z.f0 = x.f0 → z.f1 < x.f1) (a b : List S74)
    (hin : ∀ z ∈ ss, z.f0 ≠ x.f0 → z ∈ a ∨ z ∈ b) (hsa : ∀ z ∈ a, z ∈ ss) (hsb : ∀ z ∈ b, z ∈ ss) (ha : ∀ z ∈ a, z.f0 < x.f0) (hb : ∀ z ∈ b, x.f0 < z.f0) (pa : a.Pairwise (fun a b => a.f0 < b.f0)) (pb : b.Pairwise (fun a b => a.f0 < b.f0)) :
    SInv (ks ++ [x]) (a ++ ⟨x.f0, x.f1, 0 + (ks.length : Int), x.f2⟩ :: b) := by
  have mem : ∀ z, z ∈ a ++ (⟨x.f0, x.f1, 0 + (ks.length : Int), x.f2⟩ : S74) :: b → z = ⟨x.f0, x.f1, 0 + (ks.length : Int), x.f2⟩ ∨ (z ∈ ss ∧ z.f0 ≠ x.f0) := fun z hz => by
    rcases List.mem_append.1 hz with hz | hz
    · exact .inr ⟨hsa z hz, by have := ha z hz; omega⟩
    · rcases List.mem_cons.1 hz with hz | hz
      · exact .inl hz
      · exact .inr ⟨hsb z hz, by have := hb z hz; omega⟩
  have at_ : ∀ (j : Nat) (i : S24), (ks ++ [x])[j]? = some i → ks[j]? = some i ∨ (j = ks.length ∧ i = x) := fun j i hj => by
    by_cases c : j < ks.length
    · rw [List.getElem?_append_left c] at hj
      exact .inl hj
    · rw [List.getElem?_append_right (by omega)] at hj
      by_cases c2 : j = ks.length
      · subst c2
        rw [Nat.sub_self] at hj
        exact .inr ⟨rfl, (Option.some.inj hj).symm⟩
      · rw [List.getElem?_eq_none (by simp; omega)] at hj
        cases hj
  refine ⟨fun z hz => ?_, fun z hz => ?_, ?_, fun z hz j i hj he => ?_, fun z hz => ?_⟩
  · rcases List.mem_append.1 hz with hz | hz
    · exact h.items z hz
    · rw [List.mem_singleton] at hz; subst hz; exact hx
  · rcases mem z hz with rfl | ⟨hz, _⟩
    · exact ⟨ks.length, by show 0 + (ks.length : Int) = _; omega, by rw [List.getElem?_append_right (Nat.le_refl _), Nat.sub_self]; rfl⟩
    · obtain ⟨p, e, hp⟩ := h.sess z hz
      refine ⟨p, e, ?_⟩
      have hlt : p < ks.length := by
        rcases Nat.lt_or_ge p ks.length with c | c
        · exact c
        · rw [List.getElem?_eq_none c] at hp; cases hp
      rw [List.getElem?_append_left hlt]
      exact hp
  · refine List.pairwise_append.2 ⟨pa, List.pairwise_cons.2 ⟨fun z hz => hb z hz, pb⟩, fun u hu v hv => ?_⟩
    have h1 := ha u hu
    rcases List.mem_cons.1 hv with rfl | hv
    · exact h1
    · have := hb v hv
      omega
  · rcases mem z hz with rfl | ⟨hz, hne⟩
    · rcases at_ j i hj with hj | ⟨rfl, rfl⟩
      · have := hno i (List.mem_of_getElem? hj) he
        exact ⟨by show i.f1 ≤ x.f1; omega, fun e => by have e : i.f1 = x.f1 := e; omega⟩
      · exact ⟨Int.le_refl _, fun _ => by show 0 + (ks.length : Int) = _; omega⟩
    · rcases at_ j i hj with hj | ⟨rfl, rfl⟩
      · exact h.most z hz j i hj he
      · exact absurd he.symm hne
  · by_cases c : z.f0 = x.f0
    · exact ⟨_, List.mem_append_right _ List.mem_cons_self, c.symm⟩
    · rcases List.mem_append.1 hz with hz | hz
      · obtain ⟨y, hy, e⟩ := h.has z hz
        rcases hin y hy (by rw [e]; exact c) with hy | hy
        · exact ⟨y, List.mem_append_left _ hy, e⟩
        · exact ⟨y, List.mem_append_right _ (List.mem_cons_of_mem _ hy), e⟩
      · rw [List.mem_singleton] at hz; subst hz; exact absurd rfl c
theorem sess_len (ss : List S74) : ∀ lo : Int, ss.Pairwise (fun a b => a.f0 < b.f0) → (∀ y ∈ ss, lo < y.f0 ∧ y.f0 ≤ 50) → lo ≤ 50 → lo + ss.length ≤ 50 := by
  induction ss with
  | nil => intro lo _ _ h; simpa using h
  | cons x r ih =>
    intro lo hp hb hl
    obtain ⟨h1, h2⟩ := List.pairwise_cons.1 hp
    have hx := hb x List.mem_cons_self
    have := ih x.f0 h2 (fun y hy => ⟨h1 y hy, (hb y (List.mem_cons_of_mem _ hy)).2⟩) hx.2
    rw [List.length_cons]
    omega
theorem SInv.fit {ks : List S24} {ss : List S74} (h : SInv ks ss) (y : S74) (hy : y ∈ ss) : ItemOk y.f0 y.f1 y.f3.length ∧ Bytes y.f3 ∧ 0 ≤ y.f2 ∧ y.f2 < ks.length := by
  obtain ⟨p, e, hp⟩ := h.sess y hy
  have hlt : p < ks.length := by
    rcases Nat.lt_or_ge p ks.length with c | c
    · exact c
    · rw [List.getElem?_eq_none c] at hp; cases hp
  have hi := h.items _ (List.mem_of_getElem? hp)
  exact ⟨hi.1, hi.2, by omega, by omega⟩
theorem SInv.few {ks : List S24} {ss : List S74} (h : SInv ks ss) : ss.length ≤ 50 := by
  have := sess_len ss 0 h.asc (fun y hy => by have := (h.fit y hy).1; exact ⟨by have := this.1; omega, this.2.1⟩) (by omega)
  omega
theorem SInv.rows {ks : List S24} {ss : List S74} (h : SInv ks ss) (cnt : Int) (hc : cnt = ks.length) : SesssOk cnt ss 0 := fun j _ hj => by
  subst hc
  have e := rd_mem74 ss j hj
  have hf := h.fit _ (List.getElem_mem hj)
  unfold SessOk
  rw [e]
  refine ⟨hf.1, hf.2.2.1, hf.2.2.2, fun h0 => ?_⟩
  rw [rd_mem74 ss (j - 1) (by omega)]
  exact List.pairwise_iff_getElem.1 h.asc (j - 1) j (by omega) hj (by omega)
theorem SInv.ok {ks : List S24} {ss : List S74} (h : SInv ks ss) (hk : ks.length ≤ 50) : SvcOk 0 ks ss :=
  ⟨⟨by omega, by omega, by omega⟩, fun j _ hj => by rw [rd_mem24 ks j hj]; exact (h.items _ (List.getElem_mem hj)).1, h.rows _ (by omega)⟩
theorem SInv.ok2 {ks : List S24} {ss : List S74} (h : SInv ks ss) (hk : ks.length ≤ 50) : SvcOk (ks.length : Int) [] ss :=
  ⟨⟨by omega, by omega, by simp⟩, fun j _ hj => (by simp at hj), h.rows _ (by simp)⟩
theorem valid_true {a : Int} {ks : List S24} {ss : List S74} (hs : ss.length ≤ 1048576) (h : SvcOk a ks ss) : Ev (fun k => impl_Service_valid.f k a ks ss) true := by
  obtain ⟨b, hb, hi⟩ := impl_valid a ks ss hs
  obtain rfl : b = true := hi.2 h
  exact hb
/-! ### what the law looks for among the items given -/
theorem staleF_yes (gv : List S24) (x : S24) : ∀ n (j : Nat), j < n → (rd_T24 gv (j : Int)).f0 = x.f0 → x.f1 ≤ (rd_T24 gv (j : Int)).f1 → staleF gv x n = true
  | 0, j, h, _, _ => by omega
  | n + 1, j, h, h1, h2 => by
    unfold staleF
    split
    · rfl
    · rename_i c
      by_cases e : j = n
      · subst e; exact absurd ⟨h1, h2⟩ c
      · exact staleF_yes gv x n j (by omega) h1 h2
theorem staleF_no (gv : List S24) (x : S24) : ∀ n, (∀ j : Nat, j < n → ¬ ((rd_T24 gv (j : Int)).f0 = x.f0 ∧ x.f1 ≤ (rd_T24 gv (j : Int)).f1)) → staleF gv x n = false
  | 0, _ => rfl
  | n + 1, h => by
    unfold staleF
    rw [if_neg (h n (by omega))]
    exact staleF_no gv x n (fun j hj => h j (by omega))
theorem placeF_no (gv : List S24) (x : S24) : ∀ n, (∀ j : Nat, j < n → ¬ smIB x (rd_T24 gv (j : Int)) = true) → placeF gv x n = gv.length
  | 0, _ => rfl
  | n + 1, h => by
    unfold placeF
    rw [if_neg (h n (by omega))]
    exact placeF_no gv x n (fun j hj => h j (by omega))
theorem placeF_at (gv : List S24) (x : S24) (p : Nat) (hp : smIB x (rd_T24 gv (p : Int)) = true) : ∀ n, p < n → (∀ j : Nat, j < n → smIB x (rd_T24 gv (j : Int)) = true → j = p) → placeF gv x n = p
  | 0, h, _ => by omega
  | n + 1, h, hu => by
    unfold placeF
    split
    · rename_i c
      rw [hu n (by omega) c]
    · rename_i c
      by_cases e : p = n
      · subst e; exact absurd hp c
      · exact placeF_at gv x p hp n (by omega) (fun j hj => hu j (by omega))
theorem laterF_no (gv : List S24) (x : S24) (p : Int) : ∀ n, (∀ j : Nat, j < n → ¬ ((rd_T24 gv (j : Int)).f0 = x.f0 ∧ x.f1 < (rd_T24 gv (j : Int)).f1)) → laterF gv x p n = p
  | 0, _ => rfl
  | n + 1, h => by
    unfold laterF
    rw [if_neg (h n (by omega))]
    exact laterF_no gv x p n (fun j hj => h j (by omega))
theorem laterF_yes (gv : List S24) (x : S24) (p : Int) : ∀ n (j : Nat), j < n → (rd_T24 gv (j : Int)).f0 = x.f0 → x.f1 < (rd_T24 gv (j : Int)).f1 → laterF gv x p n = gv.length
  | 0, j, h, _, _ => by omega
  | n + 1, j, h, h1, h2 => by
    unfold laterF
    split
    · rfl
    · rename_i c
      by_cases e : j = n
      · subst e; exact absurd ⟨h1, h2⟩ c
      · exact laterF_yes gv x p n j (by omega) h1 h2
theorem smIB_f {x y : S24} (h : smIB x y = true) : x.f0 = y.f0 ∧ x.f1 = y.f1 ∧ bytes_Equal.f x.f2 y.f2 = some true := by
  unfold smIB at h
  by_cases c1 : x.f0 = y.f0
  · by_cases c2 : x.f1 = y.f1
    · rw [if_pos c1, if_pos c2] at h
      exact ⟨c1, c2, by unfold bytes_Equal.f; rw [h]⟩
    · rw [if_pos c1, if_neg c2] at h; cases h
  · rw [if_neg c1] at h; cases h
theorem smIB_of {x y : S24} (h1 : x.f0 = y.f0) (h2 : x.f1 = y.f1) (h3 : bytes_Equal.f x.f2 y.f2 = some true) : smIB x y = true := by
  unfold smIB
  rw [if_pos h1, if_pos h2]
  unfold bytes_Equal.f at h3
  exact Option.some.inj h3
theorem smIB_self (x : S24) : smIB x x = true := smIB_of rfl rfl (by unfold bytes_Equal.f; simp)
/-- One round: what the law expects is what take tells. -/
theorem SInv.take {ks : List S24} {ss : List S74} (h : SInv ks ss) (hk : ks.length ≤ 50) (x : S24) (hx : ItemOk x.f0 x.f1 x.f2.length ∧ Bytes x.f2) :
    (staleF ks x ks.length = true ∧ takeOf 0 ks ss x = (ks, ss, if placeOf ks x = (ks.length : Int) then (0, 4) else (placeOf ks x, 0))) ∨
    (staleF ks x ks.length = false ∧ ∃ ss', takeOf 0 ks ss x = (ks ++ [x], ss', placeOf ks x, 0) ∧ SInv (ks ++ [x]) ss') := by
  have get : ∀ j : Nat, j < ks.length → ks[j]? = some (rd_T24 ks (j : Int)) := fun j hj => by rw [rd_mem24 ks j hj, List.getElem?_eq_getElem hj]
  have full : ¬ (1000000 : Int) ≤ 0 + (ks.length : Int) := by omega
  unfold placeOf
  rcases there_cases ss x.f0 h.asc with ⟨a, y, b, e, hc, ht, hy, ha, hb⟩ | ⟨a, b, e, hc, ht, ha, hb⟩
  · have hys : y ∈ ss := by rw [e]; simp
    have hrd : y = rd_T74 ss ((cntS ss x.f0 : Nat) : Int) := by rw [hc, e]; exact (rd_mid a b y).symm
    obtain ⟨p, ep, hp⟩ := h.sess y hys
    have hlt : p < ks.length := by
      rcases Nat.lt_or_ge p ks.length with c | c
      · exact c
      · rw [List.getElem?_eq_none c] at hp; cases hp
    have hkp : rd_T24 ks (p : Int) = ⟨y.f0, y.f1, y.f3⟩ := Option.some.inj ((get p hlt).symm.trans hp)
    have hm : ∀ j : Nat, j < ks.length → (rd_T24 ks (j : Int)).f0 = x.f0 → (rd_T24 ks (j : Int)).f1 ≤ y.f1 ∧ ((rd_T24 ks (j : Int)).f1 = y.f1 → y.f2 = j) := fun j hj he => h.most y hys j _ (get j hj) (he.trans hy.symm)
    by_cases c1 : x.f1 < y.f1
    · refine .inl ⟨staleF_yes ks x _ p hlt (by rw [hkp]; exact hy) (by rw [hkp]; show x.f1 ≤ y.f1; omega), ?_⟩
      rw [takeOf_exist rfl ht.symm hrd (.inl c1), laterF_yes ks x _ _ p hlt (by rw [hkp]; exact hy) (by rw [hkp]; exact c1), if_pos rfl]
    · have nolater : ∀ q : Int, laterF ks x q ks.length = q := fun q => laterF_no ks x q _ (fun j hj ⟨h1, h2⟩ => by have := (hm j hj h1).1; omega)
      rw [nolater]
      by_cases c2 : x.f1 = y.f1
      · have hst : staleF ks x ks.length = true := staleF_yes ks x _ p hlt (by rw [hkp]; exact hy) (by rw [hkp]; show x.f1 ≤ y.f1; omega)
        have huniq : ∀ j : Nat, j < ks.length → smIB x (rd_T24 ks (j : Int)) = true → j = p := fun j hj hs => by
          obtain ⟨s1, s2, _⟩ := smIB_f hs
          have := (hm j hj s1.symm).2 (by omega)
          omega
        by_cases c3 : bytes_Equal.f x.f2 y.f3 = some true
        · refine .inl ⟨hst, ?_⟩
          rw [takeOf_same rfl ht.symm hrd c2 c3, placeF_at ks x p (by rw [hkp]; exact smIB_of hy.symm c2 c3) _ hlt huniq, if_neg (by omega), ep]
        · refine .inl ⟨hst, ?_⟩
          rw [takeOf_exist rfl ht.symm hrd (.inr ⟨c2, c3⟩), placeF_no ks x _ (fun j hj hs => by
            have hj2 := huniq j hj hs
            subst hj2
            rw [hkp] at hs
            exact c3 (smIB_f hs).2.2), if_pos rfl]
      · refine .inr ⟨staleF_no ks x _ (fun j hj ⟨h1, h2⟩ => by have := (hm j hj h1).1; omega), a ++ ⟨x.f0, x.f1, 0 + (ks.length : Int), x.f2⟩ :: b, ?_, ?_⟩
        · rw [takeOf_later rfl ht.symm hrd c1 c2, if_neg full, placeF_no ks x _ (fun j hj hs => by
            obtain ⟨s1, s2, _⟩ := smIB_f hs
            have := (hm j hj s1.symm).1
            omega), hc, e, List.set_append_right _ _ (Nat.le_refl _), Nat.sub_self]
          simp
        · obtain ⟨pa, pb, _⟩ := List.pairwise_append.1 (e ▸ h.asc)
          refine h.put x hx (fun z hz he => ?_) a b (fun z hz hne => ?_) (fun z hz => by rw [e]; exact List.mem_append_left _ hz) (fun z hz => by rw [e]; exact List.mem_append_right _ (List.mem_cons_of_mem _ hz)) ha hb pa (List.pairwise_cons.1 pb).2
          · obtain ⟨j, hj, rfl⟩ := List.getElem_of_mem hz
            have := h.most y hys j _ (List.getElem?_eq_getElem hj) (he.trans hy.symm)
            omega
          · rw [e] at hz
            rcases List.mem_append.1 hz with hz | hz
            · exact .inl hz
            · rcases List.mem_cons.1 hz with rfl | hz
              · exact absurd hy hne
              · exact .inr hz
  · have none : ∀ z ∈ ks, z.f0 ≠ x.f0 := fun z hz he => by
      obtain ⟨y, hy, ey⟩ := h.has z hz
      rw [e] at hy
      rcases List.mem_append.1 hy with hy | hy
      · have := ha y hy; omega
      · have := hb y hy; omega
    have noj : ∀ j : Nat, j < ks.length → (rd_T24 ks (j : Int)).f0 ≠ x.f0 := fun j hj => none _ (List.mem_of_getElem? (get j hj))
    refine .inr ⟨staleF_no ks x _ (fun j hj hh => noj j hj hh.1), a ++ ⟨x.f0, x.f1, 0 + (ks.length : Int), x.f2⟩ :: b, ?_, ?_⟩
    · rw [takeOf_new rfl ht.symm, if_neg full, laterF_no ks x _ _ (fun j hj hh => noj j hj hh.1), placeF_no ks x _ (fun j hj hs => noj j hj (smIB_f hs).1.symm), hc, e]
      simp
    · obtain ⟨pa, pb, _⟩ := List.pairwise_append.1 (e ▸ h.asc)
      exact h.put x hx (fun z hz he => absurd he (none z hz)) a b (fun z hz _ => by rw [e] at hz; exact List.mem_append.1 hz) (fun z hz => by rw [e]; exact List.mem_append_left _ hz) (fun z hz => by rw [e]; exact List.mem_append_right _ hz) ha hb pa pb
/-! ### the same service, and the state -/
theorem sm_l1 (ks : List S24) (ss : List S74) (hs : ss.length ≤ 1048576) (d : Nat) : ∀ i : Nat, i ≤ ss.length → ss.length - i = d → Ev (fun k => laws_smService.l1 k (ss.length : Int) (i : Int) 0 ks ss 0 ks ss) true := by
  induction d with
  | zero => intro i hi hd; exact Ev.step (fun k => by rw [laws_smService.l1, if_neg (by omega)]) (Ev.now _)
  | succ d ih =>
    intro i hi hd
    refine Ev.step (fun k => by
      rw [laws_smService.l1, if_pos (by omega), if_pos (by omega), if_pos (by omega), if_pos (by omega), if_pos rfl, if_pos rfl, if_pos rfl]
      unfold laws_smBytes.f
      rw [beq_self_eq_true, Option.bind_some, if_pos rfl, w64n (by omega)]) (ih (i + 1) (by omega) (by omega))
theorem sm_l0 (ks : List S24) (ss : List S74) (hk : ks.length ≤ 1048576) (hs : ss.length ≤ 1048576) (d : Nat) : ∀ i : Nat, i ≤ ks.length → ks.length - i = d → Ev (fun k => laws_smService.l0 k (ks.length : Int) (i : Int) 0 ks ss 0 ks ss) true := by
  induction d with
  | zero => intro i hi hd; exact Ev.step (f := fun k => laws_smService.l1 k (ss.length : Int) 0 0 ks ss 0 ks ss) (fun k => by rw [laws_smService.l0, if_neg (by omega)]) (sm_l1 ks ss hs ss.length 0 (by omega) (by omega))
  | succ d ih =>
    intro i hi hd
    refine Ev.step (fun k => by
      rw [laws_smService.l0, if_pos (by omega), if_pos (by omega), if_pos (by omega), if_pos (by omega), smIB_told, smIB_self, Option.bind_some, if_pos rfl, w64n (by omega)]) (ih (i + 1) (by omega) (by omega))
theorem sm_ev (ks : List S24) (ss : List S74) (hk : ks.length ≤ 1048576) (hs : ss.length ≤ 1048576) : Ev (fun k => laws_smService.f k 0 ks ss 0 ks ss) true := by
  unfold laws_smService.f
  simp only [if_true, bne_self_eq_false]
  exact Ev.step (f := fun k => laws_smService.l0 k (ks.length : Int) 0 0 ks ss 0 ks ss) (fun k => by rw [laws_smService.j0, if_neg (by decide)]) (sm_l0 ks ss hk hs ks.length 0 (by omega) (by omega))
theorem enc_state {ks : List S24} {ss : List S74} (h : SInv ks ss) (hk : ks.length ≤ 50) : Ev (fun k => impl_EncodeState.f k 0 ks ss) (encoded ks.length ss, 0) := by
  have hs := h.few
  unfold impl_EncodeState.f
  refine Ev.bind (valid_true (by omega) (h.ok hk)) ?_
  simp only [if_true]
  refine Ev.bind (a := encoded ks.length ss) ?_ (Ev.now _)
  unfold impl_Service_state.f impl_Service_count.f encoded
  simp only [Option.bind_some]
  rw [w64 (x := 0 + (ks.length : Int)) (by omega) (by omega), Int.zero_add]
  refine Ev.bind (lay_ev _ (by simp) (fun v hv => by
    simp only [List.mem_cons, List.not_mem_nil, or_false] at hv
    rcases hv with rfl | rfl <;> omega)) ?_
  have hw : words [(ks.length : Int), (ss.length : Int)] 0 = word8 (ks.length : Int) ++ word8 (ss.length : Int) := by simp [words]
  rw [hw]
  exact state_l0 ks.length ss (by omega) (by omega) ss.length 0 _ (by omega) (by omega) (h.rows _ rfl) (by simp only [List.length_append, word8_len]; omega)
theorem fromBytes_bytes : ∀ ss : List S74, (∀ x ∈ ss, Bytes x.f3) → Bytes (fromBytes ss 0)
  | [], _ => fun b hb => (by cases hb)
  | x :: r, h => by
    rw [fromBytes_cons]
    refine Bytes.append ?_ (fromBytes_bytes r (fun y hy => h y (List.mem_cons_of_mem _ hy)))
    unfold sessBytes
    exact ((((littleOf_bytes _ 8).append (littleOf_bytes _ 8)).append (littleOf_bytes _ 8)).append (littleOf_bytes _ 8)).append (h x List.mem_cons_self)
theorem enc_good {ks : List S24} {ss : List S74} (h : SInv ks ss) : Good (encoded ks.length ss) := by
  have hs := h.few
  have hl := fromBytes_len ks.length ss ss.length 0 (by omega) (by omega) (h.rows _ rfl)
  unfold encoded
  exact ⟨((littleOf_bytes _ 8).append (littleOf_bytes _ 8)).append (fromBytes_bytes ss (fun y hy => (h.fit y hy).2.1)), by simp only [List.length_append, word8_len]; omega⟩
/-- All that the law asks of the plain side. -/
theorem pure_ok (l : List Int) (hl : l.length ≤ 1048576) : SesPure l SInv where
  small := hl
  init := SInv.init
  start := start_draw l hl _
  draw i x hi := by
    obtain ⟨y, i', x', ⟨K, hK⟩, h1, h2⟩ := item_draw l hl i x hi
    exact ⟨K, y, i', x', hK K (Nat.le_refl _), h1, h2⟩
  n8 i x hi := by
    obtain ⟨n, i', x', h, _, _, h3⟩ := n_draw l hl i x 8 hi (by omega) (by omega)
    exact ⟨n, i', x', h, h3⟩
  code y hy := by
    obtain ⟨K, hK⟩ := decode_some y hy
    exact ⟨K, _, encode_some y hy, by simp only [List.length_append, littleOf_length]; have := hy.2.2.2.2.1; omega, hK K (Nat.le_refl _), smIB_self y⟩
  cp := cp_some
  svc ks ss h hk := by
    have hs := h.few
    refine ⟨by omega, fun x hx => (h.items x hx).1.2.2.2.2, fun x hx => (h.fit x hx).1.2.2.2.2, fun x hx => by have := (h.fit x hx).1; exact ⟨by have := this.1; omega, by have := this.2.1; omega⟩, fun a b hab hb => ?_⟩
    rw [rd_mem74 ss a (by omega), rd_mem74 ss b hb]
    rcases Nat.lt_or_ge a b with c | c
    · have := List.pairwise_iff_getElem.1 h.asc a b (by omega) hb c
      omega
    · obtain rfl : a = b := by omega
      exact Int.le_refl _
  app ks ss y b h hk hy hb := by
    rw [encode_some y hy] at hb
    injection hb with hb
    injection hb with hb _
    have hs := h.few
    obtain ⟨K1, h1⟩ := valid_true (by omega) (h.ok hk)
    obtain ⟨K2, h2⟩ := decode_some y hy
    rw [hb] at h2
    have hne : b ≠ [] := fun e => by rw [e] at hb; have := congrArg List.length hb; simp only [List.length_append, littleOf_length, List.length_nil] at this; omega
    refine ⟨K1 + K2, h1 _ (by omega), h2 _ (by omega), ?_⟩
    have ht : takeF (K1 + K2) 0 ks ss b = some (takeOf 0 ks ss y) := by
      unfold takeF
      rw [if_neg hne, show impl_DecodeItem.f (K1 + K2) b = _ from h2 _ (by omega)]
      rfl
    rw [ht]
    rcases h.take hk y ⟨⟨hy.1, hy.2.1, hy.2.2.1, hy.2.2.2.1, hy.2.2.2.2.1⟩, hy.2.2.2.2.2⟩ with ⟨g1, g2⟩ | ⟨g1, ss', g2, g3⟩
    · exact .inl ⟨g1, congrArg some g2⟩
    · exact .inr ⟨g1, ss', congrArg some g2, g3⟩
  sms ks ss h hk := (sm_ev ks ss (by omega) (by have := h.few; omega)).rounds
  state ks ss h hk := by
    have hs := h.few
    obtain ⟨hb, hr⟩ := dsRun_in ks.length ss (by omega) (by omega) (by omega) (fun x hx => by
      obtain ⟨⟨q1, q2, q3, q4, q5⟩, _, q6, q7⟩ := h.fit x hx
      exact ⟨⟨by omega, q2⟩, ⟨by omega, q4⟩, ⟨q6, by omega⟩, q5⟩)
    obtain ⟨K1, h1⟩ := enc_state h hk
    obtain ⟨K2, h2⟩ := valid_true (by omega) (h.ok2 hk)
    refine ⟨K1 + K2, encoded ks.length ss, true, h1 _ (by omega), enc_good h, ?_, ?_⟩
    · rw [hb, hr]; exact h2 _ (by omega)
    · unfold dsTell
      rw [hb, hr]
      exact if_pos ⟨rfl, rfl, rfl⟩
end Plain

end Go.Proofs.Ytladodfapnigfaa.YSes
