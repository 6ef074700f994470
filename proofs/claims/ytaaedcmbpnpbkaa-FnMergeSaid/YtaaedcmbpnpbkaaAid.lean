/- Small lemmas on whole numbers and lists that the pure statements use. Conditions: none beyond each lemma's own hypotheses. -/
import Derived.Test.YtaaedcmbpnpbkaaWMore
namespace Go.Proofs.Ytaaedcmbpnpbkaa.Aid
open Go.RowKit Go.Proofs.YtaaedcmbpnpbkaaW.PrintWords Go.Proofs.YtaaedcmbpnpbkaaW.PrintLast

theorem w64 {x : Int} (h : -9223372036854775808 ≤ x) (h' : x ≤ 9223372036854775807) : wrap64 x = x := by
  unfold wrap64; omega

theorem w64n {n : Nat} (h : n < 9223372036854775807) : wrap64 ((n : Int) + 1) = ((n + 1 : Nat) : Int) := by
  unfold wrap64; omega

theorem rd_nat (x : List Int) (i : Nat) : rd x (i : Int) = x.getD i 0 := rfl

theorem set_take {α : Type} (x y : List α) (d : α) (i : Nat) (hi : i < x.length) (hl : y.length = x.length) (h : y.take i = x.take i) :
    (y.set i (x.getD i d)).take (i + 1) = x.take (i + 1) := by
  rw [List.take_succ_eq_append_getElem (by simpa [hl] using hi), List.take_succ_eq_append_getElem hi]
  have e : x.getD i d = x[i] := by simp [List.getD, hi]
  rw [List.take_set_of_le (Nat.le_refl i), h, List.getElem_set_self, e]

end Go.Proofs.Ytaaedcmbpnpbkaa.Aid
