/- SegmentName: eight decimal digits, laid by division, are the decimal numeral behind as many zeros as are wanting. Conditions: the number is from 1 to 99999999. -/
import Derived.Test.YticehbfbhnheaaaDoorXSpecx1
import Derived.Lib.ItoaNum
import Derived.Lib.Repeat
import Derived.Lib.Bytes
namespace Go.Proofs.YticehbfbhnheaaaDoor.PureName
open Go.RowKit Go.Proofs.YticehbfbhnheaaaDoor.XSpec Go.Proofs.YticehbfbhnheaaaDoorW.PrintWords Go.Proofs.YticehbfbhnheaaaDoorW.PrintLast
theorem w64 {x : Int} (h : -9223372036854775808 ≤ x) (h' : x ≤ 9223372036854775807) : wrap64 x = x := by
  unfold wrap64; omega
/-- The last m decimal digits of n. -/
def digs : Nat → Nat → List Int
  | 0, _ => []
  | m + 1, n => digs m (n / 10) ++ [((48 + n % 10 : Nat) : Int)]
theorem digs_length : ∀ m n, (digs m n).length = m
  | 0, _ => rfl
  | m + 1, n => by rw [digs, List.length_append, digs_length m]; rfl
theorem dec8_l0 (m : Nat) : ∀ (k n i : Nat) (acc : List Int), n ≤ 99999999 → i + m = 8 → m < k → acc.length + m ≤ 100 → spec_l4Dec8.l0 k (n : Int) acc (i : Int) = some (digs m n ++ acc) := by
  induction m with
  | zero =>
    intro k n i acc hn hi hk ha
    obtain ⟨k, rfl⟩ : ∃ q, k = q + 1 := ⟨k - 1, by omega⟩
    rw [spec_l4Dec8.l0, if_neg (by omega)]
    rfl
  | succ m ih =>
    intro k n i acc hn hi hk ha
    obtain ⟨k, rfl⟩ : ∃ q, k = q + 1 := ⟨k - 1, by omega⟩
    have hlt : (i : Int) < 8 := by omega
    have hn2 : n / 10 ≤ 99999999 := by omega
    have hi2 : i + 1 + m = 8 := by omega
    have hk2 : m < k := by omega
    have hl : ∀ v : Int, [v].length + acc.length < 140737488355328 := fun v => by simp only [List.length_cons, List.length_nil]; omega
    have hl2 : ∀ v : Int, ([v] ++ acc).length + m ≤ 100 := fun v => by simp only [List.length_append, List.length_cons, List.length_nil]; omega
    have e1 : Int.tmod (n : Int) 10 = ((n % 10 : Nat) : Int) := by rw [Int.tmod_eq_emod_of_nonneg (by omega)]; omega
    have e2 : Int.tdiv (n : Int) 10 = ((n / 10 : Nat) : Int) := by rw [Int.tdiv_eq_ediv_of_nonneg (by omega)]; omega
    have e3 : (wrap64 (48 + ((n % 10 : Nat) : Int))) % 256 = ((48 + n % 10 : Nat) : Int) := by rw [w64 (by omega) (by omega)]; omega
    have e4 : wrap64 ((n / 10 : Nat) : Int) = ((n / 10 : Nat) : Int) := w64 (by omega) (by omega)
    have e5 : wrap64 ((i : Int) + 1) = ((i + 1 : Nat) : Int) := by rw [w64 (by omega) (by omega)]; omega
    rw [spec_l4Dec8.l0, if_pos hlt, Option.bind_some, e1, e2, e3, e4, e5, if_pos (hl _), ih k (n / 10) (i + 1) _ hn2 hi2 hk2 (hl2 _), digs, List.append_assoc]
theorem dec8_some (n : Nat) (hn : n ≤ 99999999) : spec_l4Dec8.f 9 (n : Int) = some (digs 8 n) := by
  unfold spec_l4Dec8.f
  have h := dec8_l0 8 9 n 0 [] hn (by omega) (by omega) (by simp)
  rw [List.append_nil] at h
  exact h
theorem digs_zero : ∀ m, digs m 0 = List.replicate m 48
  | 0 => rfl
  | m + 1 => by rw [digs, Nat.zero_div, digs_zero m, List.replicate_succ']; rfl
theorem dg_cast (n : Nat) : UInt8.ofNat ((((48 + n : Nat)) : Int)).toNat = UInt8.ofNat (48 + n) := by rw [Int.toNat_natCast]
theorem bytes_append (x y : List Int) : Lib.bytesOf (x ++ y) = Lib.bytesOf x ++ Lib.bytesOf y := by simp [Lib.bytesOf]
theorem digs_dec (m : Nat) : ∀ n : Nat, n < 10 ^ (m + 1) → Lib.bytesOf (digs (m + 1) n) = List.replicate (m + 1 - (Lib.decDigits n).length) 48 ++ Lib.decDigits n := by
  induction m with
  | zero =>
    intro n hn
    rw [Lib.decDigits_one (by simpa using hn), digs, digs, Nat.mod_eq_of_lt (show n < 10 by simpa using hn)]
    show [UInt8.ofNat ((((48 + n : Nat)) : Int)).toNat] = _
    rw [dg_cast]
    rfl
  | succ m ih =>
    intro n hn
    by_cases c : n < 10
    · rw [Lib.decDigits_one c, digs, Nat.div_eq_of_lt c, digs_zero, Nat.mod_eq_of_lt c, bytes_append]
      have e : Lib.bytesOf (List.replicate (m + 1) 48) = List.replicate (m + 1) 48 := by simp [Lib.bytesOf]
      rw [e]
      show _ ++ [UInt8.ofNat ((((48 + n : Nat)) : Int)).toNat] = _
      rw [dg_cast]
      rfl
    · have h := ih (n / 10) (by rw [Nat.pow_succ] at hn; omega)
      rw [digs, bytes_append, h]
      conv => rhs; rw [Lib.decDigits, dif_neg c]
      rw [List.length_append, List.length_singleton, show m + 1 + 1 - ((Lib.decDigits (n / 10)).length + 1) = m + 1 - (Lib.decDigits (n / 10)).length by omega, List.append_assoc]
      congr 2
theorem repeat_rep (c : Nat) : Lib.repeatL [48] c = List.replicate c 48 := by
  induction c with
  | zero => rfl
  | succ c ih => rw [Lib.repeatL, ih]; rfl
theorem dec_len (n : Nat) (h : n ≤ 99999999) : 1 ≤ (Lib.decDigits n).length ∧ (Lib.decDigits n).length ≤ 8 := by
  have h1 := congrArg List.length (digs_dec 7 n (by omega))
  simp only [Lib.bytesOf_length, digs_length, List.length_append, List.length_replicate] at h1
  refine ⟨?_, by omega⟩
  by_cases c : n < 10
  · rw [Lib.decDigits_one c]; simp
  · rw [Lib.decDigits, dif_neg c, List.length_append]; simp
/-- "wal" -/
def wal : ByteArray := ⟨#[119, 97, 108]⟩
/-- The name, as the program joins it. -/
def nameOf (n : Nat) : ByteArray := wal ++ ⟨(Lib.repeatL [48] (8 - (Lib.decDigits n).length)).toArray⟩ ++ ⟨(Lib.decDigits n).toArray⟩
theorem name_eq (n : Nat) (h : n ≤ 99999999) : wal ++ strOfNums (digs 8 n) = nameOf n := by
  have h1 := digs_dec 7 n (by omega)
  unfold nameOf
  rw [repeat_rep]
  have e : strOfNums (digs 8 n) = ⟨(List.replicate (8 - (Lib.decDigits n).length) 48).toArray⟩ ++ ⟨(Lib.decDigits n).toArray⟩ := by
    apply ByteArray.ext
    apply Array.toList_inj.1
    rw [ByteArray.data_append, Array.toList_append]
    exact h1
  rw [e, ByteArray.append_assoc]
/-- What the given side tells. -/
theorem spec_name (n : Nat) (h1 : 1 ≤ n) (h : n ≤ 99999999) : spec_SegmentName.f 9 (n : Int) = some (nameOf n, 0) := by
  unfold spec_SegmentName.f
  rw [if_neg (by omega), if_neg (by omega), dec8_some n h, Option.bind_some, if_pos (by
    have : (strOfNums (digs 8 n)).size = 8 := by rw [show (strOfNums (digs 8 n)).size = (digs 8 n).length by simp [strOfNums, ByteArray.size], digs_length]
    omega)]
  rw [← name_eq n h]
  rfl
theorem spec_low (n : Int) (h : n < 1 ∨ 99999999 < n) : spec_SegmentName.f 9 n = some (⟨#[]⟩, 5) := by
  unfold spec_SegmentName.f
  rcases h with h | h
  · rw [if_pos h]
  · rw [if_neg (by omega), if_pos h]
end Go.Proofs.YticehbfbhnheaaaDoor.PureName
