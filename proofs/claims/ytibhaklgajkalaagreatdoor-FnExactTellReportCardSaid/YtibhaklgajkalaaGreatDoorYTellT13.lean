/- T13 -/
import Derived.Test.YtibhaklgajkalaaGreatDoorYTellx0
import Derived.Test.YtibhaklgajkalaaGreatDoorYTellT1
import Derived.Test.YtibhaklgajkalaaGreatDoorYTellT2
import Derived.Test.YtibhaklgajkalaaGreatDoorYTellT11
namespace Go.Proofs.YtibhaklgajkalaaGreatDoor.YTell
open Go.RowKit Go.Proofs.YtibhaklgajkalaaGreatDoorW.PrintWords Go.Proofs.YtibhaklgajkalaaGreatDoorW.PrintLast Go.Proofs.YtibhaklgajkalaaGreatDoorW.PrintMore
attribute [local go_sem] max2_int min2_int max_two min_two max_three min_three max_four min_four
set_option linter.unusedVariables false
set_option linter.unusedSimpArgs false
open Go.Proofs.YtibhaklgajkalaaGreatDoor.Num
/-- The blocks of bytes. -/
def T5 (w : World) (k : Nat) : Prop := ∃ cells, w.heap[k]? = some (.cells cells 5 (0, 0))
theorem T5.not {w : World} {g t : Nat} {cells : Array Value} (h : w.heap[g]? = some (.cells cells t (0, 0))) (ht : t ≠ 5) : ¬ T5 w g := by
  rintro ⟨c, hc⟩
  rw [hc] at h
  injection h with h
  injection h with _ h
  exact ht h.symm
theorem R_T5 {w : World} {base : Nat} {ok : Nat → Prop} {v : Value} {xs : List Int} (h : Kd.R (Kd.int .u8) 5 w base ok v xs) : Kd.R (Kd.int .u8) 5 w base (T5 w) v xs :=
  Kd.R_mono (Kd.R_bound h) (fun k hk => by
    obtain ⟨_, _, _, q, hq, c, hc⟩ := hk
    simp only [Kd.int, Kd.scalar, List.mem_cons, List.mem_nil_iff, or_false] at hq
    subst hq
    exact ⟨c, hc⟩)
theorem join_own (w0 w : World) (u : Value) (out : List UInt8) (c : UInt8) (n0 : Int) (ns : List Int) (A2 : Option Addr) (c2 : Nat) {base2 : Nat} {ok2 : Nat → Prop} (hB : Below w0.heap.size w0 w) (ho : Kd.R (Kd.int .u8) 5 w w0.heap.size (fun _ => True) u (toI out))
    (hi : Kd.R (Kd.int .i64) 3 w base2 ok2 (.slice A2 (n0 :: ns).length c2) (n0 :: ns)) (hok : ∀ n ∈ n0 :: ns, IntOk n) (hl : ns.length ≤ 999) (hb : out.length ≤ 1099511000000) :
    Calls Tryz.prog 15 #[u, .int .u8 (c.toNat : Int), .slice A2 (n0 :: ns).length c2] w fun e w' => ∃ v, e = .returned v ∧ Kd.R (Kd.int .u8) 5 w' w0.heap.size (fun _ => True) v (toI (out ++ Lib.join ((n0 :: ns).map Lib.itoa) [c])) ∧ Below w0.heap.size w0 w' ∧ Kept w w' (T5 w) := by
  have h := l7Join_told c n0 ns hok hl (toI out) (by rw [toI_length]; exact hb) 1100 (Nat.le_refl _)
  refine (spec_l7Join.calls 1100 (T5 w) u (toI out) (c.toNat : Int) A2 c2 (n0 :: ns) _ w0 w hB (R_T5 ho) (fun W_ hk => ?_) ?_ h).mono ?_
  · obtain ⟨_, _, hC⟩ := Kd.R_reads' (Kd.R_kept (Kd.R_bound hi) hk (fun k hk => by
      obtain ⟨_, _, _, q, hq, c, hc⟩ := hk
      simp only [Kd.int, Kd.scalar, List.mem_cons, List.mem_nil_iff, or_false] at hq
      subst hq
      exact T5.not hc (by decide)))
    exact hC
  · exact (Kd.R_reads' hi).2.1
  · rintro e w' ⟨v, rfl, hr, hb', hk⟩
    exact ⟨v, rfl, by rw [toI_append]; exact Kd.R_mono hr (fun _ _ => trivial), hb', hk⟩
/-! The text of a line, as the reference lays it down. -/
def s1 (o : S50) : List UInt8 := Lib.join ((ints11 o).map Lib.itoa) [32]
def s2 (o : S50) (j : Nat) : List UInt8 := s1 o ++ Lib.joinTail [32] ((o.f4.take j).map ackD)
def s3 (o : S50) : List UInt8 := s2 o o.f4.length ++ (if itemOn o then [32] ++ tellD [105] o.f2 else [])
def s4 (o : S50) (j : Nat) : List UInt8 := s3 o ++ ([32] ++ ([115, 58] ++ Lib.itoa o.f3.f0)) ++ Lib.joinTail [32] ((o.f3.f1.take j).map (tellD [107]))
theorem joinTail_app (sep : List UInt8) (a b : List (List UInt8)) : Lib.joinTail sep (a ++ b) = Lib.joinTail sep a ++ Lib.joinTail sep b := by simp [Lib.joinTail]
theorem join_app (sep : List UInt8) (a b : List (List UInt8)) (h : a ≠ []) : Lib.join (a ++ b) sep = Lib.join a sep ++ Lib.joinTail sep b := by
  cases a with
  | nil => exact absurd rfl h
  | cons x r => rw [List.cons_append, Lib.join_cons, Lib.join_cons, joinTail_app, List.append_assoc]
theorem s2_zero (o : S50) : s2 o 0 = s1 o := by simp [s2, Lib.joinTail]
theorem s2_step (o : S50) (j : Nat) (hj : j < o.f4.length) (a : S53) (ha : a = o.f4[j]) : s2 o (j + 1) = s2 o j ++ ([32, 97, 58] ++ joinD (ackInts a)) := by
  unfold s2
  rw [List.take_succ_eq_append_getElem hj, List.map_append, joinTail_app, ← ha]
  simp [Lib.joinTail, ackD]
theorem s4_zero (o : S50) : s4 o 0 = s3 o ++ ([32, 115, 58] ++ joinD [o.f3.f0]) := by simp [s4, Lib.joinTail, joinD, Lib.join_one]
theorem s4_step (o : S50) (j : Nat) (hj : j < o.f3.f1.length) (x : S40) (hx : x = o.f3.f1[j]) : s4 o (j + 1) = s4 o j ++ ([32, 107, 58] ++ joinD [x.f0, x.f1]) ++ [58] ++ hexD x.f2 := by
  unfold s4
  rw [List.take_succ_eq_append_getElem hj, List.map_append, joinTail_app, ← hx]
  simp [Lib.joinTail, tellD]
theorem s3_some (o : S50) (h : itemOn o) : s3 o = s2 o o.f4.length ++ ([32, 105, 58] ++ joinD [o.f2.f0, o.f2.f1]) ++ [58] ++ hexD o.f2.f2 := by
  unfold s3
  rw [if_pos h]
  simp [tellD]
theorem s3_none (o : S50) (h : ¬ itemOn o) : s3 o = s2 o o.f4.length := by
  unfold s3
  rw [if_neg h, List.append_nil]
theorem line_some (o : S50) (h : svcOn o) : lineD o = s4 o o.f3.f1.length ++ [10] := by
  unfold lineD obsParts partsB partsA s4 s3 s2 s1
  rw [if_pos h, List.append_assoc, List.append_assoc, join_app _ _ _ (by simp [ints11]), joinTail_app, joinTail_app, joinTail_cons, List.take_length, List.take_length]
  by_cases c : itemOn o
  · rw [if_pos c, if_pos c]; simp [Lib.joinTail]
  · rw [if_neg c, if_neg c]; simp [Lib.joinTail]
theorem line_none (o : S50) (h : ¬ svcOn o) : lineD o = s3 o ++ [10] := by
  unfold lineD obsParts partsB partsA s3 s2 s1
  rw [if_neg h, List.append_nil, List.append_assoc, join_app _ _ _ (by simp [ints11]), joinTail_app, List.take_length]
  by_cases c : itemOn o
  · rw [if_pos c, if_pos c]; simp [Lib.joinTail]
  · rw [if_neg c, if_neg c]; simp [Lib.joinTail]
theorem joinTail_take {α : Type} (sep : List UInt8) (f : α → List UInt8) (l : List α) (j : Nat) : (Lib.joinTail sep ((l.take j).map f)).length ≤ (Lib.joinTail sep (l.map f)).length := by
  have h : Lib.joinTail sep (l.map f) = Lib.joinTail sep ((l.take j).map f) ++ Lib.joinTail sep ((l.drop j).map f) := by rw [← joinTail_app, ← List.map_append, List.take_append_drop]
  rw [h, List.length_append]
  omega
theorem s3_len (o : S50) : (s3 o).length + 1 ≤ (lineD o).length := by
  by_cases c : svcOn o
  · rw [line_some o c]; unfold s4; simp only [List.length_append, List.length_cons, List.length_nil]; omega
  · rw [line_none o c]; simp
theorem s2_len (o : S50) (j : Nat) : (s2 o j).length + 1 ≤ (lineD o).length := by
  have h1 := s3_len o
  have h2 : (s2 o j).length ≤ (s3 o).length := by
    unfold s3 s2
    rw [List.take_length]
    have := joinTail_take [32] ackD o.f4 j
    simp only [List.length_append]
    omega
  omega
theorem s4_len (o : S50) (j : Nat) (h : svcOn o) : (s4 o j).length + 1 ≤ (lineD o).length := by
  rw [line_some o h]
  unfold s4
  rw [List.take_length]
  have := joinTail_take [32] (tellD [107]) o.f3.f1 j
  simp only [List.length_append, List.length_cons, List.length_nil]
  omega

end Go.Proofs.YtibhaklgajkalaaGreatDoor.YTell
