/- The walks of SegmentName's law: the program's function joins the prefix, the zeros and the numeral; the law answers true. Conditions: the library's table of the powers of ten reads as its initialiser lays it. -/
import Derived.Test.YticehbfbhnheaaaDoorPureName
import Derived.Test.YticehbfbhnheaaaDoorShelfSegmentName
import Derived.Lib.SmallJoins
namespace Go.Proofs.YticehbfbhnheaaaDoor.WalkName
open Go.RowKit Go.Proofs.YticehbfbhnheaaaDoor.XSpec Go.Proofs.YticehbfbhnheaaaDoor.PureName Go.Proofs.YticehbfbhnheaaaDoorW.PrintWords Go.Proofs.YticehbfbhnheaaaDoorW.PrintLast Go.Proofs.YticehbfbhnheaaaDoorW.PrintMore
attribute [local go_sem] max2_int min2_int max_two min_two
def Tab (w : World) : Prop := Lib.TabIs Tryd.prog w "internal/strconv.uint64pow10" .u64 Lib.pow10Tab
theorem grow_below (w : World) (k : Nat) (os : Array Obj) : Below w.heap.size w (Sort.grow (w.drewN k) os) :=
  ⟨rfl, rfl, rfl, by rw [Sort.size_grow]; exact Nat.le_add_right _ _, fun k hk => Sort.heap_grow_old _ _ hk⟩
theorem Tab.below {w w' : World} (h : Tab w) (hb : Below w.heap.size w w') : Tab w'   := Joins.tab_stays (g := 2) (by kernel_rfl) h hb (Nat.le_refl _)
theorem rep.calls (c : Nat) (x : Int) (hx : x = (c : Int)) (hc : c ≤ 8) (w : World) : Calls Tryd.prog 14 #[.string ⟨#[48]⟩, .int .i64 x] w fun e w' => e = .returned (.string ⟨(Lib.repeatL [48] c).toArray⟩) ∧ Below w.heap.size w w' := by
  subst hx
  exact Tryd.strings_Repeat ⟨#[48]⟩ c w (by omega) (by show 1 * c ≤ _; omega)
set_option maxRecDepth 100000 in
set_option maxHeartbeats 2000000 in
theorem numbered.calls (n : Nat) (h1 : 1 ≤ n) (hn : n ≤ 99999999) (w : World) (htab : Tab w) :
    Calls Tryd.prog 10 #[.string wal, .int .i64 (n : Int)] w fun e w' => e = .returned (.string (nameOf n)) ∧ Below w.heap.size w w' := by
  have hd := dec_len n hn
  have hi : Lib.itoa (n : Int) = Lib.decDigits n := by unfold Lib.itoa; rw [if_neg (by omega), Int.toNat_natCast]
  have hw3 : wal.size = 3 := rfl
  have hrl : (Lib.repeatL [48] (8 - (Lib.decDigits n).length)).length = 8 - (Lib.decDigits n).length := by rw [repeat_rep, List.length_replicate]
  have t1 : ¬ 9223372036854775807 < wal.size + (Lib.repeatL [48] (8 - (Lib.decDigits n).length)).length := by rw [hw3, hrl]; omega
  have t2 : ¬ 9223372036854775807 < wal.size + (Lib.repeatL [48] (8 - (Lib.decDigits n).length)).length + (Lib.decDigits n).length := by rw [hw3, hrl]; omega
  clear hw3 hrl
  have HT := Aside0.mk htab
  clear htab
  go_enter Tryd.func10, Tryd.ntmps10
  go_wp2_with (first | (go_at_call 13; refine (Tryd.strconv_Itoa (n : Int) (by omega) (by omega) w HT.out).mono ?_; rintro e w1 ⟨rfl, k, os, hw⟩; rw [hi]; have HB := Aside0.mk (show Below w.heap.size w w1 from by rw [hw]; exact grow_below w k os); clear hw) | (go_at_call 14; refine (rep.calls (8 - (Lib.decDigits n).length) _ (by omega) (by omega) _).mono ?_; rintro e w2 ⟨rfl, hb⟩; have HB2 := Aside0.mk (below_step HB.out hb); clear hb))
  all_goals (go_ret; exact ⟨rfl, HB2.out⟩)
set_option maxRecDepth 100000 in
set_option maxHeartbeats 2000000 in
theorem segmentName.calls (n : Int) (r1 : ByteArray) (r2 : Int) (hs : spec_SegmentName.f 9 n = some (r1, r2)) (w : World) (htab : Tab w) :
    Calls Tryd.prog 6 #[.int .i64 n] w fun e w' => e = .returned (.tuple #[.string r1, .int .i64 r2]) ∧ Below w.heap.size w w' := by
  have HT := Aside0.mk htab
  have HS := Aside0.mk hs
  clear htab hs
  by_cases c1 : n < 1
  · have e := (spec_low n (Or.inl c1)).symm.trans HS.out
    obtain ⟨rfl, rfl⟩ := Prod.mk.inj (Option.some.inj e)
    go_enter Tryd.func6, Tryd.ntmps6
    go_wp2
    go_ret2
    exact ⟨rfl, Below.refl _ _⟩
  · by_cases c2 : 99999999 < n
    · have e := (spec_low n (Or.inr c2)).symm.trans HS.out
      obtain ⟨rfl, rfl⟩ := Prod.mk.inj (Option.some.inj e)
      go_enter Tryd.func6, Tryd.ntmps6
      go_wp2
      go_ret2
      exact ⟨rfl, Below.refl _ _⟩
    · obtain ⟨m, rfl⟩ := Int.eq_ofNat_of_zero_le (show 0 ≤ n by omega)
      have e := (spec_name m (by omega) (by omega)).symm.trans HS.out
      obtain ⟨rfl, rfl⟩ := Prod.mk.inj (Option.some.inj e)
      go_enter Tryd.func6, Tryd.ntmps6
      go_wp2_with (go_at_call 10; refine (numbered.calls m (by omega) (by omega) w HT.out).mono ?_; rintro e w1 ⟨rfl, hb⟩; have HB := Aside0.mk hb; clear hb)
      go_ret2
      exact ⟨rfl, HB.out⟩
set_option maxRecDepth 100000 in
set_option maxHeartbeats 2000000 in
theorem law.calls (n : Int) (w : World) (htab : Tab w) : Calls Tryd.prog 3 #[.int .i64 n] w fun e w' => e = .returned (.bool true) ∧ Below w.heap.size w w' := by
  obtain ⟨r1, r2, hs⟩ : ∃ r1 r2, spec_SegmentName.f 9 n = some (r1, r2) := by
    by_cases c : n < 1 ∨ 99999999 < n
    · exact ⟨_, _, spec_low n c⟩
    · obtain ⟨m, rfl⟩ := Int.eq_ofNat_of_zero_le (show 0 ≤ n by omega)
      exact ⟨_, _, spec_name m (by omega) (by omega)⟩
  have HT := Aside0.mk htab
  have HS := Aside0.mk hs
  clear htab hs
  go_enter Tryd.func3, Tryd.ntmps3
  go_wp2_with (first | (go_at_call 5; refine (spec_SegmentName.calls 9 n r1 r2 w HS.out).mono ?_; rintro e w1 ⟨rfl, hb⟩; have HB := Aside0.mk hb; clear hb) | (go_at_call 6; refine (segmentName.calls n r1 r2 HS.out _ (Tab.below HT.out HB.out)).mono ?_; rintro e w2 ⟨rfl, hb⟩; have HB2 := Aside0.mk (below_step HB.out hb); clear hb))
  go_ret
  exact ⟨rfl, HB2.out⟩
end Go.Proofs.YticehbfbhnheaaaDoor.WalkName
