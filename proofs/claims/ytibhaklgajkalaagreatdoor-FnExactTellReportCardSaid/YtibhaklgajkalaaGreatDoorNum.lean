/- Small lemmas on whole numbers, bytes and lists, and on functions with rounds. Conditions: none beyond each lemma's own hypotheses. -/
import Derived.Test.YtibhaklgajkalaaGreatDoorWMore
import Derived.Test.YtibhaklgajkalaaGreatDoorWSized
import Derived.OpenShut
import Derived.Laws.BitsAllLaws
namespace Go.Proofs.YtibhaklgajkalaaGreatDoor.Num
open Go.RowKit Go.Proofs.YtibhaklgajkalaaGreatDoorW.PrintWords Go.Proofs.YtibhaklgajkalaaGreatDoorW.PrintLast Go.Proofs.YtibhaklgajkalaaGreatDoorW.PrintMore

theorem w64 {x : Int} (h : -9223372036854775808 ≤ x) (h' : x ≤ 9223372036854775807) : wrap64 x = x := by
  unfold wrap64; omega
theorem w64n {n : Nat} (h : n < 9223372036854775807) : wrap64 ((n : Int) + 1) = ((n + 1 : Nat) : Int) := by
  unfold wrap64; omega
theorem wu64 {x : Int} (h : 0 ≤ x) (h' : x < 18446744073709551616) : IntKind.u64.wrap x = x := by
  simp only [IntKind.wrap, IntKind.bits, IntKind.signed]
  simp
  omega
theorem wu64_range (x : Int) : 0 ≤ IntKind.u64.wrap x ∧ IntKind.u64.wrap x < 18446744073709551616 := by
  simp only [IntKind.wrap, IntKind.bits, IntKind.signed]
  simp
  omega

theorem rd_nat (x : List Int) (i : Nat) : rd x (i : Int) = x.getD i 0 := rfl
theorem rd_get (x : List Int) (i : Nat) (h : i < x.length) : rd x (i : Int) = x[i] := by
  simp [rd, List.getD, h]

theorem set_take {α : Type} (x y : List α) (d : α) (i : Nat) (hi : i < x.length) (hl : y.length = x.length) (h : y.take i = x.take i) :
    (y.set i (x.getD i d)).take (i + 1) = x.take (i + 1) := by
  rw [List.take_succ_eq_append_getElem (by simpa [hl] using hi), List.take_succ_eq_append_getElem hi]
  have e : x.getD i d = x[i] := by simp [List.getD, hi]
  rw [List.take_set_of_le (Nat.le_refl i), h, List.getElem_set_self, e]

/-- From a bound on the rounds on. -/
theorem ev_of {α : Type} {g : Nat → Option α} {r : α} (d : Nat) (h : ∀ k, d < k → g k = some r) : Ev g r := ⟨d + 1, fun k hk => h k hk⟩

/-- The number that bytes are, the lowest first. -/
def val : List Int → Int
  | [] => 0
  | b :: l => b + 256 * val l
def Bytes (l : List Int) : Prop := ∀ b ∈ l, 0 ≤ b ∧ b < 256
theorem bytes_of {l : List Int} (h : ∀ x ∈ l, (Lit.int .u8 x).wf = true) : Bytes l := fun b hb => by
  have := bounds_u8 (h b hb)
  omega
theorem Bytes.take {l : List Int} (h : Bytes l) (n : Nat) : Bytes (l.take n) := fun b hb => h b (List.mem_of_mem_take hb)
theorem Bytes.drop {l : List Int} (h : Bytes l) (n : Nat) : Bytes (l.drop n) := fun b hb => h b (List.mem_of_mem_drop hb)
theorem Bytes.append {l m : List Int} (h : Bytes l) (h' : Bytes m) : Bytes (l ++ m) := fun b hb => (List.mem_append.1 hb).elim (h b) (h' b)
theorem Bytes.get {l : List Int} (h : Bytes l) (i : Nat) (hi : i < l.length) : 0 ≤ l[i] ∧ l[i] < 256 := h _ (List.getElem_mem hi)
theorem val_range {l : List Int} (h : Bytes l) : 0 ≤ val l ∧ val l < 256 ^ l.length := by
  induction l with
  | nil => simp [val]
  | cons b l ih =>
    have hb := h b List.mem_cons_self
    obtain ⟨h0, h1⟩ := ih (fun x hx => h x (List.mem_cons_of_mem _ hx))
    simp only [val, List.length_cons, Int.pow_succ]
    omega
theorem val_drop (l : List Int) (j : Nat) (h : j < l.length) : val (l.drop j) = l[j] + 256 * val (l.drop (j + 1)) := by
  rw [List.drop_eq_getElem_cons h]
  rfl
theorem val_le {l : List Int} (h : Bytes l) {n : Nat} (hn : l.length ≤ n) : 0 ≤ val l ∧ val l < 256 ^ n := by
  obtain ⟨h0, h1⟩ := val_range h
  have e : (256 : Int) ^ l.length ≤ 256 ^ n := by
    have h : 256 ^ l.length ≤ 256 ^ n := Nat.pow_le_pow_right (by omega) hn
    have h2 : ((256 ^ l.length : Nat) : Int) ≤ ((256 ^ n : Nat) : Int) := Int.ofNat_le.2 h
    rwa [Int.natCast_pow, Int.natCast_pow] at h2
  omega
theorem or_byte (a b : Int) (ha : 0 ≤ a) (ha' : a < 72057594037927936) (hb : 0 ≤ b) (hb' : b < 256) : Go.bits .or .u64 (IntKind.u64.wrap (a * 256)) (IntKind.u64.wrap b) = b + 256 * a := by
  rw [wu64 (by omega) (by omega), wu64 (by omega) (by omega), u64_or _ _ (by omega) (by omega) (by omega) (by omega)]
  obtain ⟨n, rfl⟩ := Int.eq_ofNat_of_zero_le ha
  obtain ⟨m, rfl⟩ := Int.eq_ofNat_of_zero_le hb
  have e := Nat.two_pow_add_eq_or_of_lt (i := 8) (b := m) (by omega) n
  rw [show ((n : Int) * 256).toNat = 2 ^ 8 * n by omega, Int.toNat_natCast, ← e]
  omega

/-- What a mark leaves: the numbers from a on, a byte each. -/
def Marked (a : Int) (l : List Int) : Prop := ∀ j : Nat, j < l.length → rd l (j : Int) = (a + j) % 256

end Go.Proofs.YtibhaklgajkalaaGreatDoor.Num
