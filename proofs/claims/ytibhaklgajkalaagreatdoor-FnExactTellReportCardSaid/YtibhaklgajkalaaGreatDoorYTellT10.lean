/- T10 -/
import Derived.Test.YtibhaklgajkalaaGreatDoorYTellx0
import Derived.Deep.RegionHeld3
import Derived.Test.YtibhaklgajkalaaGreatDoorYTellT9
namespace Go.Proofs.YtibhaklgajkalaaGreatDoor.YTell
open Go.RowKit Go.Proofs.YtibhaklgajkalaaGreatDoorW.PrintWords Go.Proofs.YtibhaklgajkalaaGreatDoorW.PrintLast Go.Proofs.YtibhaklgajkalaaGreatDoorW.PrintMore
attribute [local go_sem] max2_int min2_int max_two min_two max_three min_three max_four min_four
set_option linter.unusedVariables false
set_option linter.unusedSimpArgs false
open Go.Proofs.YtibhaklgajkalaaGreatDoor.Num
def ItemOk (x : S40) : Prop := IntOk x.f0 ∧ IntOk x.f1 ∧ Bytes x.f2 ∧ x.f2.length ≤ 1048576
def tellD (mark : List UInt8) (x : S40) : List UInt8 := mark ++ [58] ++ joinD [x.f0, x.f1] ++ [58] ++ hexD x.f2
theorem ba_eq {a b : ByteArray} (h : a.data.toList = b.data.toList) : a = b := by
 cases a; cases b
 simp only [ByteArray.mk.injEq]
 exact Array.toList_inj.1 h
theorem hexD_length (l : List Int) (h : l.length ≤ 1048576) : (hexD l).length ≤ 2097154 := by
 unfold hexD
 split
 ·simp
 ·rw [hexL]; omega
theorem ba_app (a b : ByteArray) : (a ++ b).data.toList = a.data.toList ++ b.data.toList := by simp
def tell.T1 : Bool × List (List Nat × List Nat) := (true, [([], []), ([0], [0]), ([], []), ([2], [2]), ([], []), ([4], [4]), ([3, 5], [3, 5]), ([6], [6]), ([1, 7], [1, 7]), ([8], [8]), ([], []), ([10], [10]), ([11, 7], [11]), ([9, 12], [9, 12]), ([13, 12, 0, 1, 2, 3, 4, 5, 6, 7, 8, 9, 10, 11, 12, 13], [13])])
def tell.B1 : List Nat := [0, 1, 0, 4, 0, 16, 60, 124, 255, 511, 0, 1024, 3324, 8191, 16383]
theorem tell.tab1 : rtab .any (opsOf Tryz.f22 1) = tell.T1 := by kernel_rfl
theorem tell.bits1 : waitsOk tell.T1.2 tell.B1 = true := by kernel_rfl
set_option maxHeartbeats 8000000 in
set_option maxRecDepth 100000 in
theorem tell_calls (x : S40) (A2 : Option Addr) (c2 : Nat) (mark : ByteArray) (w : World) (hr : Kd.C (Kd.int .u8) w A2 x.f2.length x.f2) (hc : x.f2.length ≤ c2) (hok : ItemOk x) (he : Env w) (hm : mark.data.toList.length ≤ 16) :
 Calls Tryz.prog 22 #[.agg #[.int .i64 x.f0, .int .i64 x.f1, .slice A2 x.f2.length c2], .string mark] w fun e w' => e = .returned (.string (strB (tellD mark.data.toList x))) ∧ Below w.heap.size w w' := by
 have hu := Tryz.underlying40
 have HR := Aside0.mk hr
 have HC := Aside0.mk hc
 have HOK := Aside0.mk hok
 have HE := Aside0.mk he
 have HMK := Aside0.mk hm
 have HJ := Aside0.mk (show (joinD [x.f0, x.f1]).length ≤ 44 from joinD_length _ (by intro n hn; simp only [List.mem_cons, List.mem_nil_iff, or_false] at hn; rcases hn with rfl | rfl; exact hok.1; exact hok.2.1))
 have HX := Aside0.mk (show (hexD x.f2).length ≤ 2097154 from hexD_length _ hok.2.2.2)
 clear hr hc hok he hm
 go_enter Tryz.func22, Tryz.ntmps22
 go_upto_region 1 with ((with_reducible refine gate_dst (N := 2) rfl ?_); refine box_event ?hg (N := 2) ?hd (cs := #[.int .i64 x.f0, .int .i64 x.f1, .slice A2 x.f2.length c2]) (t := 40) ?hr ?_; (case hd => rfl); (case hg => rfl); (case hr => first | (go_simp; done) | (go_simp; rfl)); intro g1 hg1 w1 bk1 hb1; have BK := Aside0.mk bk1; have HB1 := Aside0.mk hb1; clear hg1 bk1 hb1)
 have HS := Aside0.mk (show w1.drew.heap[g1]? = some (.cells #[.int .i64 x.f0, .int .i64 x.f1, .slice A2 x.f2.length c2] 40 (0, 0)) ∧ Below w.heap.size w w1.drew ∧ Env w1.drew from ⟨BK.out, below_drew1 HB1.out, HE.out.below (below_drew1 HB1.out)⟩)
 refine start_ (n := 15) (S := fun w' => w'.heap[g1]? = some (.cells #[.int .i64 x.f0, .int .i64 x.f1, .slice A2 x.f2.length c2] 40 (0, 0)) ∧ Below w.heap.size w w' ∧ Env w') (ds := []) #[false, false, false, false, false, false, false, false, false, false, false, false, false, false, false] (by kernel_rfl) rfl rfl HS.out (fun hHeld => ?_); refine with_tabW tell.tab1 tell.bits1 (fun HT_ HW_ => ?_)
 generalize hw9 : w1.drew = w9 at hHeld ⊢
 clear hw9 HS HB1 BK
 refine pure_ (i := 0) (N := some 5) (v := ?_) (a' := ?_) #[true, false, false, false, false, false, false, false, false, false, false, false, false, false, false] rfl rfl (any_of HT_.out (by kernel_rfl)) (fun _ _ _ h => h) (Or.inl ⟨by rfl, ?_⟩) ?_ ?_
 rotate_left
 ·intro w'
  go_simp
  with_reducible rfl
 rotate_left
 ·simp only [Act.put, List.setIfInBounds_toArray, List.set_cons_zero, List.set_cons_succ, i64_w, i32_w]
  rfl
 refine pure_ (i := 1) (N := some 6) (v := ?_) (a' := ?_) #[true, true, false, false, false, false, false, false, false, false, false, false, false, false, false] rfl rfl (any_of HT_.out (by kernel_rfl)) (fun _ _ _ h => h) (Or.inl ⟨by rfl, ?_⟩) ?_ ?_
 rotate_left
 ·intro w'
  go_simp
  rw [if_neg (by simp only [Lib.size_eq, ba_app, List.length_append, List.toList_toArray, List.length_cons, List.length_nil]; have := HJ.out; have := HX.out; have := HMK.out; omega)]
 rotate_left
 ·simp only [Act.put, List.setIfInBounds_toArray, List.set_cons_zero, List.set_cons_succ, i64_w, i32_w]
  rfl
 refine pure_ (i := 2) (N := some 7) (v := ?_) (a' := ?_) #[true, true, true, false, false, false, false, false, false, false, false, false, false, false, false] rfl rfl (any_of HT_.out (by kernel_rfl)) (fun _ _ _ h => h) (Or.inl ⟨by rfl, ?_⟩) ?_ ?_
 rotate_left
 ·intro w'
  go_simp
  with_reducible rfl
 rotate_left
 ·simp only [Act.put, List.setIfInBounds_toArray, List.set_cons_zero, List.set_cons_succ, i64_w, i32_w]
  rfl
 refine pure_ (i := 4) (N := some 9) (v := ?_) (a' := ?_) #[true, true, true, false, true, false, false, false, false, false, false, false, false, false, false] rfl rfl (any_of HT_.out (by kernel_rfl)) (fun _ _ _ h => h) (Or.inl ⟨by rfl, ?_⟩) ?_ ?_
 rotate_left
 ·intro w'
  go_simp
  with_reducible rfl
 rotate_left
 ·simp only [Act.put, List.setIfInBounds_toArray, List.set_cons_zero, List.set_cons_succ, i64_w, i32_w]
  rfl
 refine pure_ (i := 10) (N := some 15) (v := ?_) (a' := ?_) #[true, true, true, false, true, false, false, false, false, false, true, false, false, false, false] rfl rfl (any_of HT_.out (by kernel_rfl)) (fun _ _ _ h => h) (Or.inl ⟨by rfl, ?_⟩) ?_ ?_
 rotate_left
 ·intro w'
  go_simp
  with_reducible rfl
 rotate_left
 ·simp only [Act.put, List.setIfInBounds_toArray, List.set_cons_zero, List.set_cons_succ, i64_w, i32_w]
  rfl
 refine take_ (i := 3) (N := some 8) (v := ?_) (a' := ?_) #[true, true, true, true, true, false, false, false, false, false, true, false, false, false, false] rfl rfl (take_ofW HT_.out HW_.out (by kernel_rfl)) (fun _ _ _ h => h) (Or.inl ⟨by rfl, ?_⟩) hHeld ?_ ?_
 rotate_left
 ·rintro w' ⟨hblk, _, _⟩
  have s0 : w'.cell? ⟨g1, 0, none⟩ = some (.int .i64 x.f0) := blk_cell hblk 0
  clear hblk
  go_simp
  with_reducible rfl
 rotate_left
 ·simp only [Act.put, List.setIfInBounds_toArray, List.set_cons_zero, List.set_cons_succ, i64_w, i32_w]
  rfl
 refine take_ (i := 5) (N := some 10) (v := ?_) (a' := ?_) #[true, true, true, true, true, true, false, false, false, false, true, false, false, false, false] rfl rfl (take_ofW HT_.out HW_.out (by kernel_rfl)) (fun _ _ _ h => h) (Or.inl ⟨by rfl, ?_⟩) hHeld ?_ ?_
 rotate_left
 ·rintro w' ⟨hblk, _, _⟩
  have s0 : w'.cell? ⟨g1, 1, none⟩ = some (.int .i64 x.f1) := blk_cell hblk 1
  clear hblk
  go_simp
  with_reducible rfl
 rotate_left
 ·simp only [Act.put, List.setIfInBounds_toArray, List.set_cons_zero, List.set_cons_succ, i64_w, i32_w]
  rfl
 refine take_ (i := 11) (N := some 16) (v := ?_) (a' := ?_) #[true, true, true, true, true, true, false, false, false, false, true, true, false, false, false] rfl rfl (take_ofW HT_.out HW_.out (by kernel_rfl)) (fun _ _ _ h => h) (Or.inl ⟨by rfl, ?_⟩) hHeld ?_ ?_
 rotate_left
 ·rintro w' ⟨hblk, _, _⟩
  have s0 : w'.cell? ⟨g1, 2, none⟩ = some (.slice A2 x.f2.length c2) := blk_cell hblk 2
  clear hblk
  go_simp
  with_reducible rfl
 rotate_left
 ·simp only [Act.put, List.setIfInBounds_toArray, List.set_cons_zero, List.set_cons_succ, i64_w, i32_w]
  rfl
 refine one_ (i := 6) (N := some 11) #[true, true, true, true, true, true, true, false, false, false, true, true, false, false, false] rfl rfl (one_of HT_.out (by kernel_rfl)) (by decide) (fun K hK => ?_)
 refine Kd.R_lit_step (Kd.int .i64) (w0 := w) w.heap.size 3 ?hg (N := 11) ?hd (xs := [x.f0, x.f1]) (inner := [.int .i64 x.f0, .int .i64 x.f1]) (ok := fun _ => True) (okp := fun _ => True) ?hr ?hp (fun _ hk => hk) trivial hHeld.2.1 hHeld.2.1.size (by simp) ?_; (case hd => rfl); (case hg => rfl); (case hr => first | (go_simp; done) | (go_simp; rfl)); (case hp => exact Reps.one (show Kd.M (Kd.int .i64) _ _ _ x.f0 [.int .i64 x.f0] from rfl) (Reps.one (show Kd.M (Kd.int .i64) _ _ _ x.f1 [.int .i64 x.f1] from rfl) (Reps.none _ _)))
 intro v1 w10 ho hb hg_ hnew_
 obtain ⟨A1, c1, he1, hc1, hC1⟩ := Kd.R_reads ho
 have hbw : Below w9.heap.size w9 w10 := ⟨hg_.os, hg_.tape, hg_.output, hg_.size, fun k hk => hg_.block k hk (by simp)⟩
 have HL1 := Aside0.mk (show Kd.C (Kd.int .i64) w10 A1 [x.f0, x.f1].length [x.f0, x.f1] ∧ [x.f0, x.f1].length ≤ c1 from ⟨hC1, hc1⟩)
 subst he1
 refine hK.out _ _ ⟨blk_below hHeld.1 hbw, hb, hHeld.2.2.below hbw⟩ (fun hHeld => ?_)
 clear hK K ho hb hg_ hnew_ hbw hC1 hc1
 refine norm_ (a' := ?_) ?_ ?_
 rotate_left
 ·show Act.put _ (some 11) _ = _
  simp only [Act.put, List.setIfInBounds_toArray, List.set_cons_zero, List.set_cons_succ, i64_w, i32_w]
  rfl
 refine one_ (i := 7) (N := some 12) #[true, true, true, true, true, true, true, true, false, false, true, true, false, false, false] rfl rfl (one_of HT_.out (by kernel_rfl)) (by decide) (fun K hK => ?_)
 refine goes_ Tryz.func21 (by kernel_rfl) rfl #[.slice A1 [x.f0, x.f1].length c1] (by rfl) rfl rfl (by (try simp only [List.map_toArray, List.map_cons, List.map_nil]); first | done | rfl) ?_
 refine (joined_calls A1 c1 [x.f0, x.f1] w10 HL1.out.1 HL1.out.2 (by intro n hn; simp only [List.mem_cons, List.mem_nil_iff, or_false] at hn; rcases hn with rfl | rfl; exact HOK.out.1; exact HOK.out.2.1) (by simp) (by simp) hHeld.2.2).mono ?_
 rintro e w11 ⟨rfl, hb⟩
 refine ⟨_, rfl, ?_⟩
 refine hK.out _ _ ⟨blk_below hHeld.1 hb, below_step hHeld.2.1 hb, hHeld.2.2.below hb⟩ (fun hHeld => ?_)
 clear hK K hb HL1
 refine norm_ (a' := ?_) ?_ ?_
 rotate_left
 ·show Act.put _ (some 12) _ = _
  simp only [Act.put, List.setIfInBounds_toArray, List.set_cons_zero, List.set_cons_succ, i64_w, i32_w]
  rfl
 refine pure_ (i := 8) (N := some 13) (v := ?_) (a' := ?_) #[true, true, true, true, true, true, true, true, true, false, true, true, false, false, false] rfl rfl (any_of HT_.out (by kernel_rfl)) (fun _ _ _ h => h) (Or.inl ⟨by rfl, ?_⟩) ?_ ?_
 rotate_left
 ·intro w'
  go_simp
  rw [if_neg (by simp only [Lib.size_eq, ba_app, List.length_append, List.toList_toArray, List.length_cons, List.length_nil]; have := HJ.out; have := HX.out; have := HMK.out; omega)]
 rotate_left
 ·simp only [Act.put, List.setIfInBounds_toArray, List.set_cons_zero, List.set_cons_succ, i64_w, i32_w]
  rfl
 refine pure_ (i := 9) (N := some 14) (v := ?_) (a' := ?_) #[true, true, true, true, true, true, true, true, true, true, true, true, false, false, false] rfl rfl (any_of HT_.out (by kernel_rfl)) (fun _ _ _ h => h) (Or.inl ⟨by rfl, ?_⟩) ?_ ?_
 rotate_left
 ·intro w'
  go_simp
  rw [if_neg (by simp only [Lib.size_eq, ba_app, List.length_append, List.toList_toArray, List.length_cons, List.length_nil]; have := HJ.out; have := HX.out; have := HMK.out; omega)]
 rotate_left
 ·simp only [Act.put, List.setIfInBounds_toArray, List.set_cons_zero, List.set_cons_succ, i64_w, i32_w]
  rfl
 refine one_ (i := 12) (N := some 17) #[true, true, true, true, true, true, true, true, true, true, true, true, true, false, false] rfl rfl (one_of HT_.out (by kernel_rfl)) (by decide) (fun K hK => ?_)
 refine goes_ Tryz.func33 (by kernel_rfl) rfl #[.slice A2 x.f2.length c2] (by rfl) rfl rfl (by (try simp only [List.map_toArray, List.map_cons, List.map_nil]); first | done | rfl) ?_
 refine (hexOf_calls A2 c2 x.f2 w11 (Kd.C_below HR.out hHeld.2.1) HC.out HOK.out.2.2.1 HOK.out.2.2.2).mono ?_
 rintro e w12 ⟨rfl, hb⟩
 refine ⟨_, rfl, ?_⟩
 refine hK.out _ _ ⟨blk_below hHeld.1 hb, below_step hHeld.2.1 hb, hHeld.2.2.below hb⟩ (fun hHeld => ?_)
 clear hK K hb
 refine norm_ (a' := ?_) ?_ ?_
 rotate_left
 ·show Act.put _ (some 17) _ = _
  simp only [Act.put, List.setIfInBounds_toArray, List.set_cons_zero, List.set_cons_succ, i64_w, i32_w]
  rfl
 refine pure_ (i := 13) (N := some 18) (v := ?_) (a' := ?_) #[true, true, true, true, true, true, true, true, true, true, true, true, true, true, false] rfl rfl (any_of HT_.out (by kernel_rfl)) (fun _ _ _ h => h) (Or.inl ⟨by rfl, ?_⟩) ?_ ?_
 rotate_left
 ·intro w'
  go_simp
  rw [if_neg (by simp only [Lib.size_eq, ba_app, List.length_append, List.toList_toArray, List.length_cons, List.length_nil]; have := HJ.out; have := HX.out; have := HMK.out; omega)]
 rotate_left
 ·simp only [Act.put, List.setIfInBounds_toArray, List.set_cons_zero, List.set_cons_succ, i64_w, i32_w]
  rfl
 refine pure_ (i := 14) (N := some 4) (v := ?_) (a' := ?_) #[true, true, true, true, true, true, true, true, true, true, true, true, true, true, true] rfl rfl (any_of HT_.out (by kernel_rfl)) (fun _ _ _ h => h) (Or.inl ⟨by rfl, ?_⟩) ?_ ?_
 rotate_left
 ·intro w'
  go_simp
  with_reducible rfl
 rotate_left
 ·simp only [Act.put, List.setIfInBounds_toArray, List.set_cons_zero, List.set_cons_succ, i64_w, i32_w]
  rfl
 refine done_ (done_of HT_.out (by kernel_rfl)) ?_
 have HF := Aside0.mk hHeld.2.1
 clear hHeld
 try go_wp2
 go_ret
 refine ⟨?_, HF.out⟩
 first | rfl | (congr 2; apply ba_eq; simp [ba_app, strB, tellD])

end Go.Proofs.YtibhaklgajkalaaGreatDoor.YTell
