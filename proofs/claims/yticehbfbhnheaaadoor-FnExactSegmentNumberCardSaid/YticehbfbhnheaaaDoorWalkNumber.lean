/- The walks of SegmentNumber's law. Conditions: none beyond each theorem's own hypotheses. -/
import Derived.Test.YticehbfbhnheaaaDoorPureNumber
import Derived.Test.YticehbfbhnheaaaDoorShelfSegmentNumber
import Derived.Lib.ConvBytes
import Derived.Lib.AtoiErrMem
namespace Go.Proofs.YticehbfbhnheaaaDoor.WalkNumber
open Go.RowKit Go.Proofs.YticehbfbhnheaaaDoor.XSpec Go.Proofs.YticehbfbhnheaaaDoor.PureNumber Go.Proofs.YticehbfbhnheaaaDoorW.PrintWords Go.Proofs.YticehbfbhnheaaaDoorW.PrintLast Go.Proofs.YticehbfbhnheaaaDoorW.PrintMore
attribute [local go_sem] max2_int min2_int max_two min_two
def wal : ByteArray := ⟨#[119, 97, 108]⟩
def ten : ByteArray := ⟨#[48, 49, 50, 51, 52, 53, 54, 55, 56, 57]⟩
theorem wal_l : wal.data.toList = walL := rfl
theorem cut.calls (s : ByteArray) (w : World) : Calls Tryd.prog 15 #[.string s, .string wal] w fun e w' => e = .returned (.tuple #[.string ⟨(if s.data.toList.take 3 = walL then s.data.toList.drop 3 else s.data.toList).toArray⟩, .bool (decide (s.data.toList.take 3 = walL))]) ∧ w' = w := by
  refine (Tryd.strings_CutPrefix s wal w).mono ?_
  rintro e w' ⟨rfl, rfl⟩
  rw [wal_l, Lib.trimPrefix, prefix_take]
  refine ⟨?_, rfl⟩
  by_cases c : s.data.toList.take 3 = walL
  · rw [if_pos c, if_pos (by rw [decide_eq_true c])]
    rfl
  · rw [if_neg c, if_neg (by rw [decide_eq_false c]; decide)]
theorem trim.calls (l : List UInt8) (hl : l.length = 8) (w : World) : Calls Tryd.prog 16 #[.string ⟨l.toArray⟩, .string ten] w fun e w' => e = .returned (.string ⟨(Lib.trimS l tenL).toArray⟩) ∧ Below w.heap.size w w' := by
  have h := Tryd.strings_Trim ⟨l.toArray⟩ ten w (by rw [Lib.size_eq]; simp; omega) (by decide) (ascii_of_all (by decide))
  exact h
set_option maxRecDepth 100000 in
set_option maxHeartbeats 2000000 in
theorem numberOf.calls (s : ByteArray) (hs : s.size ≤ 1048576) (w : World) :
    Calls Tryd.prog 12 #[.string wal, .string s] w fun e w' => e = .returned (.int .i64 (numOf s.data.toList)) ∧ Below w.heap.size w w' := by
  have hz := Lib.size_eq s
  by_cases c1 : s.data.toList.take 3 = walL
  · by_cases c2 : s.data.toList.length = 11
    · obtain ⟨l, hl⟩ : ∃ l, l = s.data.toList.drop 3 := ⟨_, rfl⟩
      have hl8 : l.length = 8 := by rw [hl, List.length_drop, c2]
      by_cases c3 : ∀ x ∈ l, 48 ≤ x.toNat ∧ x.toNat ≤ 57
      · obtain ⟨n, hn, ha⟩ := atoi_digits l (by intro h; rw [h] at hl8; cases hl8) c3
        have ht : Lib.trimS l tenL = [] := (trim_nil l tenL).2 (fun x hx => by rw [ten_digit]; exact decide_eq_true (c3 x hx))
        have hnum : numOf s.data.toList = (n : Int) := by unfold numOf; rw [if_pos ⟨c2, c1⟩, ← hl, hn]
        rw [hnum]
        have C1 := Aside0.mk c1
        have HL := Aside0.mk hl
        have HA := Aside0.mk ha
        have HT := Aside0.mk ht
        have HL8 := Aside0.mk hl8
        clear c1 hl ha ht hn c3 hnum hz hs c2
        have h8 : (⟨l.toArray⟩ : ByteArray).size = 8 := by rw [Lib.size_eq]; exact hl8
        clear hl8
        go_enter Tryd.func12, Tryd.ntmps12
        go_wp2_with (first | (go_at_call 15; refine (cut.calls s w).mono ?_; rintro e w1 ⟨rfl, rfl⟩; rw [if_pos C1.out, ← HL.out, decide_eq_true C1.out]) | (go_at_call 16; refine (trim.calls l HL8.out _).mono ?_; rintro e w2 ⟨rfl, hb⟩; rw [HT.out]; have HB := Aside0.mk hb; clear hb) | (go_at_call 17; refine (Tryd.strconv_Atoi ⟨l.toArray⟩ n (by rw [Lib.size_eq]; have := HL8.out; simp; omega) HA.out _).mono ?_; rintro e w3 ⟨rfl, t, hw⟩))
        go_ret
        exact ⟨rfl, below_step HB.out (Lib.bytesWorld_below _ _ _)⟩
      · have hnum : numOf s.data.toList = -1 := by unfold numOf; rw [if_pos ⟨c2, c1⟩, ← hl, decFrom_none l 0 c3]
        have ht : ¬ Lib.trimS l tenL = [] := fun h => c3 (fun x hx => by have := (trim_nil l tenL).1 h x hx; rw [ten_digit] at this; exact of_decide_eq_true this)
        rw [hnum]
        obtain ⟨t, htt⟩ : ∃ t, t = Lib.trimS l tenL := ⟨_, rfl⟩
        rw [← htt] at ht
        obtain ⟨b, r, hbr⟩ := List.exists_cons_of_ne_nil ht
        have C1 := Aside0.mk c1
        have HL := Aside0.mk hl
        have HT := Aside0.mk (htt.symm.trans hbr)
        have HL8 := Aside0.mk hl8
        clear c1 hl ht c3 hnum hz hs c2 htt hbr t
        have h8 : (⟨l.toArray⟩ : ByteArray).size = 8 := by rw [Lib.size_eq]; exact hl8
        clear hl8
        have hne : ¬ ((⟨(b :: r).toArray⟩ : ByteArray).toList = (⟨#[]⟩ : ByteArray).toList) := by rw [Lib.toList_data, Lib.toList_data]; simp
        go_enter Tryd.func12, Tryd.ntmps12
        go_wp2_with (first | (go_at_call 15; refine (cut.calls s w).mono ?_; rintro e w1 ⟨rfl, rfl⟩; rw [if_pos C1.out, ← HL.out, decide_eq_true C1.out]) | (go_at_call 16; refine (trim.calls l HL8.out _).mono ?_; rintro e w2 ⟨rfl, hb⟩; rw [HT.out]; have HB := Aside0.mk hb; clear hb))
        go_ret
        exact ⟨rfl, HB.out⟩
    · have hnum : numOf s.data.toList = -1 := by unfold numOf; rw [if_neg (fun h => c2 h.1)]
      rw [hnum]
      obtain ⟨l, hl⟩ : ∃ l, l = s.data.toList.drop 3 := ⟨_, rfl⟩
      have h3 : 3 ≤ s.data.toList.length := by
        have := congrArg List.length c1
        rw [List.length_take] at this
        have e : walL.length = 3 := rfl
        omega
      have h8 : ¬ (((⟨l.toArray⟩ : ByteArray).size : Nat) : Int) = 8 := by rw [Lib.size_eq]; show ¬ ((l.length : Nat) : Int) = 8; rw [hl, List.length_drop]; omega
      have h8' : ¬ l.length = 8 := by rw [hl, List.length_drop]; omega
      have C1 := Aside0.mk c1
      have HL := Aside0.mk hl
      clear c1 hl hnum hz hs c2 h3
      go_enter Tryd.func12, Tryd.ntmps12
      go_wp2_with (first | (go_at_call 15; refine (cut.calls s w).mono ?_; rintro e w1 ⟨rfl, rfl⟩; rw [if_pos C1.out, ← HL.out, decide_eq_true C1.out]))
      go_ret
      exact ⟨rfl, Below.refl _ _⟩
  · have hnum : numOf s.data.toList = -1 := by unfold numOf; rw [if_neg (fun h => c1 h.2)]
    rw [hnum]
    have C1 := Aside0.mk c1
    clear c1 hnum hz hs
    go_enter Tryd.func12, Tryd.ntmps12
    go_wp2_with (first | (go_at_call 15; refine (cut.calls s w).mono ?_; rintro e w1 ⟨rfl, rfl⟩; rw [if_neg C1.out, decide_eq_false C1.out]))
    go_ret
    exact ⟨rfl, Below.refl _ _⟩
def segNum (s : ByteArray) : Int := if numOf s.data.toList < 0 then 0 else numOf s.data.toList
theorem spec_seg (s : ByteArray) (k : Nat) (hk : 9 ≤ k) : spec_SegmentNumber.f (k + 1) s = some (segNum s) := spec_number s k hk
set_option maxRecDepth 100000 in
set_option maxHeartbeats 2000000 in
theorem segmentNumber.calls (s : ByteArray) (hs : s.size ≤ 1048576) (w : World) :
    Calls Tryd.prog 8 #[.string s] w fun e w' => e = .returned (.int .i64 (segNum s)) ∧ Below w.heap.size w w' := by
  have HS := Aside0.mk hs
  clear hs
  obtain ⟨x, hx⟩ : ∃ x, x = numOf s.data.toList := ⟨_, rfl⟩
  have HX := Aside0.mk hx
  unfold segNum
  rw [← hx]
  clear hx
  by_cases c : x < 0
  · rw [if_pos c]
    go_enter Tryd.func8, Tryd.ntmps8
    go_wp2_with (go_at_call 12; refine (numberOf.calls s HS.out w).mono ?_; rintro e w1 ⟨rfl, hb⟩; rw [← HX.out]; have HB := Aside0.mk hb; clear hb)
    all_goals (go_ret; exact ⟨rfl, HB.out⟩)
  · rw [if_neg c]
    go_enter Tryd.func8, Tryd.ntmps8
    go_wp2_with (go_at_call 12; refine (numberOf.calls s HS.out w).mono ?_; rintro e w1 ⟨rfl, hb⟩; rw [← HX.out]; have HB := Aside0.mk hb; clear hb)
    all_goals (go_ret; first | exact ⟨rfl, HB.out⟩ | (have e0 : x = 0 := (by omega); subst e0; exact ⟨rfl, HB.out⟩))
set_option maxRecDepth 100000 in
set_option maxHeartbeats 2000000 in
theorem law.calls (s : ByteArray) (w : World) : Calls Tryd.prog 4 #[.string s] w fun e w' => e = .returned (.bool true) ∧ Below w.heap.size w w' := by
  by_cases c : s.size ≤ 1048576
  · have HC := Aside0.mk c
    obtain ⟨kf, hsp⟩ : ∃ k, spec_SegmentNumber.f k s = some (segNum s) := ⟨_, spec_seg s 9 (Nat.le_refl _)⟩
    have HK := Aside0.mk hsp
    clear hsp
    have hc : ¬ (1048576 : Int) < (s.size : Int) := by omega
    have hc2 : ¬ 1048576 < s.size := by omega
    clear c
    go_enter Tryd.func4, Tryd.ntmps4
    go_wp2_with (first | (go_at_call 7; refine (spec_SegmentNumber.calls _ s (segNum s) w HK.out).mono ?_; rintro e w1 ⟨rfl, hb⟩; have HB := Aside0.mk hb.below; clear hb) | (go_at_call 8; refine (segmentNumber.calls s HC.out _).mono ?_; rintro e w2 ⟨rfl, hb⟩; have HB2 := Aside0.mk (below_step HB.out hb); clear hb))
    go_ret
    exact ⟨rfl, HB2.out⟩
  · have hc : (1048576 : Int) < (s.size : Int) := by omega
    have hc2 : 1048576 < s.size := by omega
    clear c
    go_enter Tryd.func4, Tryd.ntmps4
    go_wp2
    go_ret
    exact ⟨rfl, Below.refl _ _⟩
end Go.Proofs.YticehbfbhnheaaaDoor.WalkNumber
