/- SegmentNumber: what a name spells, as both sides read it: "wal" and eight decimal digits. Conditions: the name is no longer than 1048576 bytes. -/
import Derived.Test.YticehbfbhnheaaaDoorXSpecx1
import Derived.Lib.Atoi
import Derived.Lib.SlTrimSet
import Derived.Lib.Bytes
namespace Go.Proofs.YticehbfbhnheaaaDoor.PureNumber
open Go.RowKit Go.Proofs.YticehbfbhnheaaaDoor.XSpec Go.Proofs.YticehbfbhnheaaaDoorW.PrintWords Go.Proofs.YticehbfbhnheaaaDoorW.PrintLast
theorem w64 {x : Int} (h : -9223372036854775808 ≤ x) (h' : x ≤ 9223372036854775807) : wrap64 x = x := by
  unfold wrap64; omega
def walL : List UInt8 := [119, 97, 108]
/-- The ten digits. -/
def tenL : List UInt8 := [48, 49, 50, 51, 52, 53, 54, 55, 56, 57]
/-- The number behind the head, or -1. -/
def numOf (l : List UInt8) : Int := if l.length = 11 ∧ l.take 3 = walL then (match Lib.decFrom 0 (l.drop 3) with | some n => (n : Int) | none => -1) else -1
theorem digit_some {b : UInt8} (h : 48 ≤ b.toNat ∧ b.toNat ≤ 57) : Lib.digitVal b = some (b.toNat - 48) := by unfold Lib.digitVal; rw [if_pos h]
theorem digit_none {b : UInt8} (h : ¬ (48 ≤ b.toNat ∧ b.toNat ≤ 57)) : Lib.digitVal b = none := by unfold Lib.digitVal; rw [if_neg h]
theorem decFrom_bound : ∀ (l : List UInt8) (v n : Nat), Lib.decFrom v l = some n → n < (v + 1) * 10 ^ l.length
  | [], v, n, h => by
    rw [Lib.decFrom, Option.some.injEq] at h
    simp only [List.length_nil, Nat.pow_zero, Nat.mul_one]
    omega
  | b :: r, v, n, h => by
    rw [Lib.decFrom] at h
    by_cases c : 48 ≤ b.toNat ∧ b.toNat ≤ 57
    · rw [digit_some c] at h
      have := decFrom_bound r _ _ h
      have hv : v * 10 + (b.toNat - 48) + 1 ≤ (v + 1) * 10 := by omega
      have h3 := Nat.mul_le_mul_right (10 ^ r.length) hv
      rw [List.length_cons, Nat.pow_succ, Nat.mul_comm (10 ^ r.length) 10, ← Nat.mul_assoc]
      omega
    · rw [digit_none c] at h; cases h
theorem bt_list (s : ByteArray) (i : Nat) (h : i < s.data.toList.length) : bt s (i : Int) = ((s.data.toList[i]).toNat : Int) := by
  have hs : i < s.size := by rw [Lib.size_eq]; exact h
  have e := bt_at s (i : Int) (by simpa using hs)
  rw [← e]
  rfl
def lim : Nat → Nat
  | 0 => 100000000
  | d + 1 => lim d / 10
theorem lim_le : ∀ d, lim d ≤ 100000000
  | 0 => Nat.le_refl _
  | d + 1 => by rw [lim]; have := lim_le d; omega
theorem l3_l0 (s : ByteArray) (d : Nat) : ∀ (k v i : Nat), s.data.toList.length ≤ 11 → i + d = s.data.toList.length → d < k → v < lim d → spec_l3Number.l0 k s (v : Int) (i : Int) = some (match Lib.decFrom v (s.data.toList.drop i) with | some n => (n : Int) | none => -1) := by
  have hz := Lib.size_eq s
  induction d with
  | zero =>
    intro k v i h11 hi hk hv
    obtain ⟨k, rfl⟩ : ∃ q, k = q + 1 := ⟨k - 1, by omega⟩
    have hlt : ¬ (i : Int) < (s.size : Int) := by omega
    rw [spec_l3Number.l0, if_neg hlt, List.drop_of_length_le (by omega)]
    rfl
  | succ d ih =>
    intro k v i h11 hi hk hv
    obtain ⟨k, rfl⟩ : ∃ q, k = q + 1 := ⟨k - 1, by omega⟩
    have hlt : (i : Int) < (s.size : Int) := by omega
    have hlt2 : (0 : Int) ≤ (i : Int) := by omega
    have hil : i < s.data.toList.length := by omega
    have hi2 : i + 1 + d = s.data.toList.length := by omega
    have hk2 : d < k := by omega
    rw [spec_l3Number.l0, if_pos hlt, if_pos hlt2, bt_list s i hil, List.drop_eq_getElem_cons hil, Lib.decFrom]
    obtain ⟨b, hb⟩ : ∃ b, b = (s.data.toList[i]).toNat := ⟨_, rfl⟩
    have hl := lim_le d
    rw [lim] at hv
    have hvv : v < 100000000 := by omega
    by_cases c : 48 ≤ (s.data.toList[i]).toNat ∧ (s.data.toList[i]).toNat ≤ 57
    · rw [digit_some c, ← hb]
      rw [← hb] at c
      have e1 : wrap64 (wrap64 (wrap64 ((v : Int) * 10) + wrap64 (b : Int)) - 48) = ((v * 10 + (b - 48) : Nat) : Int) := by
        rw [w64 (x := (v : Int) * 10) (by omega) (by omega), w64 (x := (b : Int)) (by omega) (by omega), w64 (x := (v : Int) * 10 + (b : Int)) (by omega) (by omega), w64 (by omega) (by omega)]
        omega
      have e2 : wrap64 ((i : Int) + 1) = ((i + 1 : Nat) : Int) := by rw [w64 (by omega) (by omega)]; omega
      have hv2 : v * 10 + (b - 48) < lim d := by omega
      rw [if_neg (by omega), if_neg (by omega), e1, e2]
      exact ih k _ (i + 1) h11 hi2 hk2 hv2
    · rw [digit_none c]
      rw [← hb] at c ⊢
      by_cases c2 : (b : Int) < 48
      · rw [if_pos c2]
      · rw [if_neg c2, if_pos (by omega)]
theorem head_eq (s : ByteArray) : (s.extract 0 3).toList = s.data.toList.take 3 := by
  rw [Lib.extract_toList]; rfl
theorem wal_list : (⟨#[119, 97, 108]⟩ : ByteArray).toList = walL := by rw [Lib.toList_data]; rfl
theorem l3_head (s : ByteArray) (k : Nat) : spec_l3Number.f k s ⟨#[119, 97, 108]⟩ = (if (s.size : Int) = wrap64 (3 + 8) then (if (0 : Int) ≤ 3 then (if (3 : Int) ≤ (s.size : Int) then spec_l3Number.j0 k s ⟨#[119, 97, 108]⟩ ((s.extract 0 3).toList != (⟨#[119, 97, 108]⟩ : ByteArray).toList) else none) else none) else spec_l3Number.j0 k s ⟨#[119, 97, 108]⟩ true) := rfl
theorem j0_no (s p : ByteArray) (k : Nat) : spec_l3Number.j0 (k + 1) s p true = some (-1) := by rw [spec_l3Number.j0, if_pos rfl]
theorem j0_yes (s : ByteArray) (k : Nat) : spec_l3Number.j0 (k + 1) s ⟨#[119, 97, 108]⟩ false = spec_l3Number.l0 k s 0 3 := by rw [spec_l3Number.j0, if_neg (by decide)]; rfl
theorem l3_digits (s : ByteArray) (k : Nat) (hk : 9 ≤ k) (c1 : s.data.toList.length = 11) (c2 : s.data.toList.take 3 = walL) : spec_l3Number.l0 k s 0 3 = some (numOf s.data.toList) := by
  have g := l3_l0 s 8 k 0 3 (by omega) (by omega) (by omega) (by decide)
  unfold numOf
  rw [if_pos ⟨c1, c2⟩]
  exact g
theorem l3_some (s : ByteArray) (k : Nat) (hk : 9 ≤ k) : spec_l3Number.f (k + 1) s ⟨#[119, 97, 108]⟩ = some (numOf s.data.toList) := by
  have hz := Lib.size_eq s
  rw [l3_head, show wrap64 ((3 : Int) + 8) = 11 from w64 (by omega) (by omega), head_eq, wal_list]
  by_cases c1 : s.data.toList.length = 11
  · rw [if_pos (show (s.size : Int) = 11 by omega), if_pos (show (0 : Int) ≤ 3 by omega), if_pos (show (3 : Int) ≤ (s.size : Int) by omega)]
    by_cases c2 : s.data.toList.take 3 = walL
    · rw [c2, show (walL != walL) = false by simp, j0_yes]
      exact l3_digits s k hk c1 c2
    · rw [show (s.data.toList.take 3 != walL) = true by simp [c2], j0_no]
      unfold numOf
      rw [if_neg (fun h => c2 h.2)]
  · rw [if_neg (show ¬ (s.size : Int) = 11 by omega), j0_no]
    unfold numOf
    rw [if_neg (fun h => c1 h.1)]
theorem spec_number (s : ByteArray) (k : Nat) (hk : 9 ≤ k) : spec_SegmentNumber.f (k + 1) s = some (if numOf s.data.toList < 0 then 0 else numOf s.data.toList) := by
  unfold spec_SegmentNumber.f
  rw [l3_some s k hk, Option.bind_some]
  split <;> rfl
theorem numOf_range (l : List UInt8) : -1 ≤ numOf l ∧ numOf l < 1000000000000 := by
  unfold numOf
  by_cases c : l.length = 11 ∧ l.take 3 = walL
  · rw [if_pos c]
    cases h : Lib.decFrom 0 (l.drop 3) with
    | none => simp
    | some n =>
      have := decFrom_bound _ _ _ h
      rw [List.length_drop, c.1] at this
      simp at this ⊢
      omega
  · rw [if_neg c]; omega
/-! ### the program's words -/
theorem prefix_take (l : List UInt8) : Lib.hasPrefix l walL = decide (l.take 3 = walL) := by
  unfold Lib.hasPrefix
  rw [Bool.eq_iff_iff, List.isPrefixOf_iff_prefix, List.prefix_iff_eq_take, decide_eq_true_iff]
  exact ⟨fun h => h.symm, fun h => h.symm⟩
theorem ten_digit (b : UInt8) : tenL.contains b = decide (48 ≤ b.toNat ∧ b.toNat ≤ 57) := by
  have h : ∀ n : Fin 256, tenL.contains (UInt8.ofNat n.val) = decide (48 ≤ (UInt8.ofNat n.val).toNat ∧ (UInt8.ofNat n.val).toNat ≤ 57) := by decide +kernel
  have := h ⟨b.toNat, b.toNat_lt⟩
  simpa using this
theorem dropWhile_nil {α : Type} {p : α → Bool} : ∀ {l : List α}, l.dropWhile p = [] ↔ ∀ x ∈ l, p x = true
  | [] => by simp
  | a :: l => by
    rw [List.dropWhile_cons]
    by_cases c : p a = true
    · rw [if_pos c, dropWhile_nil]; simp [c]
    · rw [if_neg c]; simp [c]
theorem trim_nil (l cs : List UInt8) : Lib.trimS l cs = [] ↔ ∀ x ∈ l, cs.contains x = true := by
  unfold Lib.trimS Lib.trimLeftS Lib.trimRightS
  rw [dropWhile_nil]
  constructor
  · intro h
    by_cases c : ∀ x ∈ l, cs.contains x = true
    · exact c
    · have h1 : ¬ (l.reverse.dropWhile (cs.contains ·)) = [] := by
        rw [dropWhile_nil]; simpa using c
      obtain ⟨a, r, har⟩ := List.exists_cons_of_ne_nil h1
      have h2 : cs.contains a = false := by
        have := List.head?_dropWhile_not (cs.contains ·) l.reverse
        rw [har] at this
        simpa using this
      have h3 := h a (by rw [har]; simp)
      rw [h2] at h3; cases h3
  · intro h x hx
    exact h x (by
      have := (List.dropWhile_sublist (cs.contains ·) (l := l.reverse)).mem (List.mem_reverse.1 hx)
      exact List.mem_reverse.1 this)
theorem decFrom_all : ∀ (l : List UInt8) (v : Nat), (∀ x ∈ l, 48 ≤ x.toNat ∧ x.toNat ≤ 57) → ∃ n, Lib.decFrom v l = some n
  | [], v, _ => ⟨v, rfl⟩
  | b :: r, v, h => by
    rw [Lib.decFrom, digit_some (h b List.mem_cons_self)]
    exact decFrom_all r _ (fun x hx => h x (List.mem_cons_of_mem _ hx))
theorem decFrom_none (l : List UInt8) (v : Nat) (h : ¬ ∀ x ∈ l, 48 ≤ x.toNat ∧ x.toNat ≤ 57) : Lib.decFrom v l = none := by
  cases e : Lib.decFrom v l with
  | none => rfl
  | some n =>
    refine absurd (fun x hx => ?_) h
    obtain ⟨k, hk, rfl⟩ := List.getElem_of_mem hx
    obtain ⟨d, hd⟩ := Lib.digit_of_decFrom l v n e k l[k] (List.getElem?_eq_getElem hk)
    by_cases c : 48 ≤ (l[k]).toNat ∧ (l[k]).toNat ≤ 57
    · exact c
    · rw [digit_none c] at hd; cases hd
theorem atoi_digits (l : List UInt8) (h0 : l ≠ []) (h : ∀ x ∈ l, 48 ≤ x.toNat ∧ x.toNat ≤ 57) : ∃ n : Nat, Lib.decFrom 0 l = some n ∧ Lib.atoi l = some (n : Int) := by
  obtain ⟨n, hn⟩ := decFrom_all l 0 h
  refine ⟨n, hn, ?_⟩
  cases l with
  | nil => exact absurd rfl h0
  | cons b r =>
    have hb := h b List.mem_cons_self
    have n45 : (b == 45) = false := by
      rw [beq_eq_false_iff_ne]; rintro rfl; exact absurd hb.1 (by decide)
    have n43 : (b == 43) = false := by
      rw [beq_eq_false_iff_ne]; rintro rfl; exact absurd hb.1 (by decide)
    rw [Lib.atoi, if_neg (by rw [n45]; decide), if_neg (by rw [n43]; decide), Lib.decNat, if_neg (by simp), hn]
    rfl
end Go.Proofs.YticehbfbhnheaaaDoor.PureNumber
