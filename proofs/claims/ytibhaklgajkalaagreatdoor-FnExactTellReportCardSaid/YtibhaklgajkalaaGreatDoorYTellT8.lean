/- T8 -/
import Derived.Test.YtibhaklgajkalaaGreatDoorYTellx0
import Derived.Test.YtibhaklgajkalaaGreatDoorYTellT2
import Derived.Test.YtibhaklgajkalaaGreatDoorNum
import Derived.Lib.ItoaLen
import Derived.Lib.Join
import Derived.Lib.SplitLaws
import Derived.Lib.IndexBytes
namespace Go.Proofs.YtibhaklgajkalaaGreatDoor.YTell
open Go.RowKit Go.Proofs.YtibhaklgajkalaaGreatDoorW.PrintWords Go.Proofs.YtibhaklgajkalaaGreatDoorW.PrintLast Go.Proofs.YtibhaklgajkalaaGreatDoorW.PrintMore
attribute [local go_sem] max2_int min2_int max_two min_two max_three min_three max_four min_four
set_option linter.unusedVariables false
set_option linter.unusedSimpArgs false
open Go.Proofs.YtibhaklgajkalaaGreatDoor.Num
/-- Bytes as whole numbers. -/
def toI (l : List UInt8) : List Int := l.map fun b => (b.toNat : Int)
theorem toI_length (l : List UInt8) : (toI l).length = l.length := by simp [toI]
theorem toI_append (a b : List UInt8) : toI (a ++ b) = toI a ++ toI b := by simp [toI]
theorem toI_cons (a : UInt8) (b : List UInt8) : toI (a :: b) = (a.toNat : Int) :: toI b := rfl
theorem toI_nil : toI [] = [] := rfl
theorem wrap_u64 (x : Int) : IntKind.u64.wrap x = x % 18446744073709551616 := by simp [IntKind.wrap, IntKind.bits, IntKind.signed]
def IntOk (n : Int) : Prop := -9223372036854775808 ≤ n ∧ n ≤ 9223372036854775807
/-! l7Dec -/
def preD (u : Nat) : List Int := if u < 10 then [] else toI (Lib.decDigits (u / 10))
theorem preD_step (u : Nat) (h : ¬ u < 10) : preD u = preD (u / 10) ++ [(48 + (u / 10 % 10 : Nat) : Int)] := by
  unfold preD
  rw [if_neg h, Lib.decDigits]
  by_cases c : u / 10 < 10
  · rw [dif_pos c, if_pos c]
    simp [toI]
    omega
  · rw [dif_neg c, if_neg c, toI_append]
    simp [toI]
    omega
theorem digits_preD (u : Nat) : toI (Lib.decDigits u) = preD u ++ [(48 + (u % 10 : Nat) : Int)] := by
  unfold preD
  rw [Lib.decDigits]
  by_cases c : u < 10
  · rw [dif_pos c, if_pos c]
    simp [toI]
    omega
  · rw [dif_neg c, if_neg c, toI_append]
    simp [toI]
    omega
theorem wrapd (u : Nat) (h : u < 10) : (IntKind.u64.wrap (48 + (u : Int))) % 256 = 48 + (u : Int) := by rw [wu64 (by omega) (by omega)]; omega
theorem l7Dec_loop (x0 : Int) (d : Nat) : ∀ (k u : Nat) (x4 : List Int), u < 10 ^ d → d < k → x4.length + d ≤ 1000 → u < 18446744073709551616 →
    spec_l7Dec.l0 k x0 (u : Int) x4 = some ((if x0 < 0 then [45] else []) ++ preD u ++ x4) := by
  induction d with
  | zero =>
    intro k u x4 hu hk hl hb
    obtain ⟨k, rfl⟩ : ∃ m, k = m + 1 := ⟨k - 1, by omega⟩
    have h0 : u = 0 := by simpa using hu
    subst h0
    rw [spec_l7Dec.l0, if_neg (by omega)]
    by_cases c : x0 < 0
    · rw [if_pos c, if_pos c]
      show (if ([45] : List Int).length + x4.length < 140737488355328 then some ([45] ++ x4) else none) = _
      rw [if_pos (by simp <;> omega)]
      rfl
    · rw [if_neg c, if_neg c]
      rfl
  | succ d ih =>
    intro k u x4 hu hk hl hb
    obtain ⟨k, rfl⟩ : ∃ m, k = m + 1 := ⟨k - 1, by omega⟩
    rw [spec_l7Dec.l0]
    by_cases c : u < 10
    · rw [if_neg (by omega)]
      have hp : preD u = [] := if_pos c
      rw [hp]
      by_cases c : x0 < 0
      · rw [if_pos c, if_pos c]
        show (if ([45] : List Int).length + x4.length < 140737488355328 then some ([45] ++ x4) else none) = _
        rw [if_pos (by simp <;> omega)]
        rfl
      · rw [if_neg c, if_neg c]
        rfl
    · rw [if_pos (by omega)]
      have e1 : Int.tdiv (u : Int) 10 = ((u / 10 : Nat) : Int) := rfl
      have e2 : IntKind.u64.wrap (Int.tdiv (u : Int) 10) = ((u / 10 : Nat) : Int) := by rw [e1]; exact wu64 (by omega) (by omega)
      have e3 : Int.tmod ((u / 10 : Nat) : Int) 10 = ((u / 10 % 10 : Nat) : Int) := rfl
      rw [e2, e3, wrapd _ (Nat.mod_lt _ (by omega))]
      show (if ([48 + ((u / 10 % 10 : Nat) : Int)] : List Int).length + x4.length < 140737488355328 then spec_l7Dec.l0 k x0 ((u / 10 : Nat) : Int) ([48 + ((u / 10 % 10 : Nat) : Int)] ++ x4) else none) = _
      rw [if_pos (by simp <;> omega), ih k (u / 10) _ (by rw [Nat.pow_succ] at hu; omega) (by omega) (by simp <;> omega) (by omega), preD_step u c]
      simp [List.append_assoc]
theorem l7Dec_told (v : Int) (hv : IntOk v) (k : Nat) (hk : 30 ≤ k) : spec_l7Dec.f k v = some (toI (Lib.itoa v)) := by
  obtain ⟨h0, h1⟩ := hv
  obtain ⟨k, rfl⟩ : ∃ m, k = m + 1 := ⟨k - 1, by omega⟩
  have key : ∀ u : Nat, u < 18446744073709551616 → spec_l7Dec.j0 (k + 1) v (u : Int) = some ((if v < 0 then [45] else []) ++ toI (Lib.decDigits u)) := by
    intro u hu
    rw [spec_l7Dec.j0]
    have e3 : Int.tmod (u : Int) 10 = ((u % 10 : Nat) : Int) := rfl
    rw [e3, wrapd _ (Nat.mod_lt _ (by omega)), l7Dec_loop v 20 k u _ (by omega) (by omega) (by simp) hu, digits_preD]
    simp [List.append_assoc]
  unfold spec_l7Dec.f Lib.itoa
  by_cases c : v < 0
  · rw [if_pos c, if_pos c]
    have e : IntKind.u64.wrap (-(IntKind.u64.wrap v)) = ((v.natAbs : Nat) : Int) := by
      rw [wrap_u64, wrap_u64]
      omega
    rw [e, key _ (by omega), if_pos c]
    rfl
  · rw [if_neg c, if_neg c]
    have e : IntKind.u64.wrap v = ((v.toNat : Nat) : Int) := by rw [wu64 (by omega) (by omega)]; omega
    rw [e, key _ (by omega), if_neg c]
    rfl
/-! l7Join -/
theorem joinTail_cons (sep x : List UInt8) (r : List (List UInt8)) : Lib.joinTail sep (x :: r) = sep ++ x ++ Lib.joinTail sep r := by simp [Lib.joinTail]
theorem l7Join_loop (c : UInt8) (ns : List Int) (hns : ∀ n ∈ ns, IntOk n) (hl : ns.length ≤ 1000) (d : Nat) : ∀ (k i : Nat) (out : List Int), i ≤ ns.length → ns.length - i = d → d + 40 ≤ k → 1 ≤ i → out.length + 30 * d ≤ 1099511627776 →
    spec_l7Join.l0 k out (c.toNat : Int) ns (ns.length : Int) (i : Int) = some (out ++ toI (Lib.joinTail [c] ((ns.drop i).map Lib.itoa))) := by
  induction d with
  | zero =>
    intro k i out hi hd hk h1 hb
    obtain ⟨k, rfl⟩ : ∃ m, k = m + 1 := ⟨k - 1, by omega⟩
    rw [spec_l7Join.l0, if_neg (by omega), List.drop_of_length_le (by omega)]
    simp [Lib.joinTail, toI]
  | succ d ih =>
    intro k i out hi hd hk h1 hb
    obtain ⟨k, rfl⟩ : ∃ m, k = m + 1 := ⟨k - 1, by omega⟩
    have hlt : i < ns.length := by omega
    have hok := hns ns[i] (List.getElem_mem hlt)
    have hlen := Lib.itoa_length_le ns[i] hok.1 hok.2
    rw [spec_l7Join.l0, if_pos (by omega), if_pos (by omega), if_pos (by omega), if_pos (by omega), if_pos (by omega), rd_get _ _ hlt, l7Dec_told _ hok k (by omega)]
    show (if (out ++ [(c.toNat : Int)]).length + (toI (Lib.itoa ns[i])).length < 140737488355328 then spec_l7Join.l0 k (out ++ [(c.toNat : Int)] ++ toI (Lib.itoa ns[i])) (c.toNat : Int) ns (ns.length : Int) (wrap64 ((i : Int) + 1)) else none) = _
    rw [if_pos (by rw [toI_length]; simp; omega), w64n (by omega), ih k (i + 1) _ (by omega) (by omega) (by omega) (by omega) (by simp [toI_length]; omega), List.drop_eq_getElem_cons hlt, List.map_cons, joinTail_cons, toI_append, toI_append]
    simp [toI]
theorem l7Join_told (c : UInt8) (n0 : Int) (ns : List Int) (hns : ∀ n ∈ n0 :: ns, IntOk n) (hl : ns.length ≤ 999) (out : List Int) (hb : out.length ≤ 1099511000000) (k : Nat) (hk : 1100 ≤ k) :
    spec_l7Join.f k out (c.toNat : Int) (n0 :: ns) = some (out ++ toI (Lib.join ((n0 :: ns).map Lib.itoa) [c])) := by
  obtain ⟨k, rfl⟩ : ∃ m, k = m + 1 := ⟨k - 1, by omega⟩
  have hok := hns n0 List.mem_cons_self
  have hlen := Lib.itoa_length_le n0 hok.1 hok.2
  unfold spec_l7Join.f
  rw [spec_l7Join.l0, if_pos (by simp <;> omega), if_pos (by omega), if_pos (by simp <;> omega), if_neg (by omega)]
  rw [show rd (n0 :: ns) 0 = n0 from rfl, l7Dec_told _ hok k (by omega)]
  show (if out.length + (toI (Lib.itoa n0)).length < 140737488355328 then spec_l7Join.l0 k (out ++ toI (Lib.itoa n0)) (c.toNat : Int) (n0 :: ns) ((n0 :: ns).length : Int) (wrap64 (((0 : Nat) : Int) + 1)) else none) = _
  rw [if_pos (by rw [toI_length]; omega), w64n (by omega), l7Join_loop c (n0 :: ns) hns (by simp <;> omega) ns.length k 1 _ (by simp) (by simp) (by omega) (by omega) (by simp [toI_length]; omega), List.map_cons, Lib.join_cons, toI_append]
  simp [List.append_assoc]
/-! strings.Split of a join -/
theorem no58 (n : Int) : ∀ b ∈ Lib.itoa n, b ≠ 58 := by
  have hd : ∀ (m u : Nat), u ≤ m → ∀ b ∈ Lib.decDigits u, b ≠ 58 := by
    intro m
    induction m with
    | zero =>
      intro u hu b hb
      have : u = 0 := by omega
      subst this
      rw [Lib.decDigits, dif_pos (by omega)] at hb
      simp at hb
      subst hb
      decide
    | succ m ih =>
      intro u hu b hb
      rw [Lib.decDigits] at hb
      have hdig : ∀ x : Nat, x < 10 → UInt8.ofNat (48 + x) ≠ 58 := by
        intro x hx h
        have := congrArg UInt8.toNat h
        simp at this
        omega
      by_cases c : u < 10
      · rw [dif_pos c] at hb
        simp only [List.mem_singleton] at hb
        subst hb
        exact hdig u c
      · rw [dif_neg c] at hb
        rcases List.mem_append.1 hb with hb | hb
        · exact ih (u / 10) (by omega) b hb
        · simp only [List.mem_singleton] at hb
          subst hb
          exact hdig _ (Nat.mod_lt _ (by omega))
  intro b hb
  unfold Lib.itoa at hb
  by_cases c : n < 0
  · rw [if_pos c] at hb
    rcases List.mem_cons.1 hb with hb | hb
    · subst hb; decide
    · exact hd _ _ (Nat.le_refl _) b hb
  · rw [if_neg c] at hb
    exact hd _ _ (Nat.le_refl _) b hb
theorem indexByte_miss (c : UInt8) : ∀ (x : List UInt8), (∀ b ∈ x, b ≠ c) → Lib.indexByte x c = -1
  | [], _ => rfl
  | b :: l, h => by
    unfold Lib.indexByte
    have h1 : (b == c) = false := by simpa using h b List.mem_cons_self
    rw [indexByte_miss c l (fun y hy => h y (List.mem_cons_of_mem _ hy))]
    simp [h1]
theorem indexByte_hit (c : UInt8) : ∀ (x y : List UInt8), (∀ b ∈ x, b ≠ c) → Lib.indexByte (x ++ c :: y) c = (x.length : Int)
  | [], y, _ => by
    unfold Lib.indexByte
    simp
  | b :: l, y, h => by
    rw [List.cons_append]
    unfold Lib.indexByte
    have h1 : (b == c) = false := by simpa using h b List.mem_cons_self
    rw [indexByte_hit c l y (fun y hy => h y (List.mem_cons_of_mem _ hy))]
    simp [h1]
theorem split_join (c : UInt8) : ∀ (xs : List (List UInt8)), xs ≠ [] → (∀ x ∈ xs, ∀ b ∈ x, b ≠ c) → Lib.count (Lib.join xs [c]) [c] + 1 = xs.length ∧ Lib.splitK [c] 0 (xs.length - 1) (Lib.join xs [c]) = xs
  | [], h, _ => absurd rfl h
  | [x], _, h => by
    have hm : Lib.index x [c] = -1 := by rw [Lib.index_one]; exact indexByte_miss c x (h x (by simp))
    rw [Lib.join_one]
    exact ⟨by rw [Lib.count_miss hm]; rfl, rfl⟩
  | x :: y :: r, _, h => by
    obtain ⟨h1, h2⟩ := split_join c (y :: r) (by simp) (fun z hz => h z (List.mem_cons_of_mem _ hz))
    have e : Lib.join (x :: y :: r) [c] = x ++ c :: Lib.join (y :: r) [c] := by
      rw [Lib.join_cons, joinTail_cons, Lib.join_cons]
      simp
    have hi : Lib.index (x ++ c :: Lib.join (y :: r) [c]) [c] = ((x.length : Nat) : Int) := by
      rw [Lib.index_one]
      exact indexByte_hit c x _ (h x (by simp))
    have hdrop : (x ++ c :: Lib.join (y :: r) [c]).drop (x.length + [c].length) = Lib.join (y :: r) [c] := by
      rw [List.drop_append]
      simp
    rw [e]
    refine ⟨?_, ?_⟩
    · rw [Lib.count_hit (by simp) hi, hdrop]
      simp only [List.length_cons] at h1 ⊢
      omega
    · simp only [List.length_cons, Nat.add_sub_cancel] at h2 ⊢
      rw [Lib.splitK, if_neg (by rw [hi]; simp <;> omega), hi]
      rw [show ((x.length : Nat) : Int).toNat = x.length from by simp, hdrop, h2]
      simp

end Go.Proofs.YtibhaklgajkalaaGreatDoor.YTell
