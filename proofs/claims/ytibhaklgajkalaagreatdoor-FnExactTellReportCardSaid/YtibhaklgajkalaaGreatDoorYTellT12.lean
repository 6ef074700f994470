/- T12 -/
import Derived.Test.YtibhaklgajkalaaGreatDoorYTellx0
import Derived.Deep.RegionHeld3
import Derived.Test.YtibhaklgajkalaaGreatDoorYTellT10
import Derived.Lib.SlBytesConst
namespace Go.Proofs.YtibhaklgajkalaaGreatDoor.YTell
open Go.RowKit Go.Proofs.YtibhaklgajkalaaGreatDoorW.PrintWords Go.Proofs.YtibhaklgajkalaaGreatDoorW.PrintLast Go.Proofs.YtibhaklgajkalaaGreatDoorW.PrintMore
attribute [local go_sem] max2_int min2_int max_two min_two max_three min_three max_four min_four
set_option linter.unusedVariables false
set_option linter.unusedSimpArgs false
open Go.Proofs.YtibhaklgajkalaaGreatDoor.Num
def hexP (l : List Int) : List UInt8 := l.flatMap fun b => [hexDig (b.toNat / 16), hexDig (b.toNat % 16)]
theorem wrap_u8 (x : Int) : IntKind.u8.wrap x = x % 256 := by simp [IntKind.wrap, IntKind.bits, IntKind.signed]
theorem quo16 (x : Nat) (h : x < 256) : IntKind.u8.wrap (Int.tdiv (x : Int) 16) = ((x / 16 : Nat) : Int) := by
 rw [show Int.tdiv (x : Int) 16 = ((x / 16 : Nat) : Int) from rfl, wrap_u8]
 omega
theorem quo16' (x : Nat) (h : x < 256) : (Int.tdiv (x : Int) 16) % 256 = ((x / 16 : Nat) : Int) := by
 rw [show Int.tdiv (x : Int) 16 = ((x / 16 : Nat) : Int) from rfl]
 omega
theorem quo16b (x : Nat) (h : x < 256) : IntKind.u8.wrap ((x : Int) / 16) = ((x / 16 : Nat) : Int) := by
 rw [wrap_u8]
 omega
theorem rem_nat (x : Nat) : ((x : Int) % 16).toNat = x % 16 := by omega
theorem nat16 (x : Nat) : ((x : Int) / 16).toNat = x / 16 := by omega
theorem rem16 (x : Nat) : Int.tmod (x : Int) 16 = ((x % 16 : Nat) : Int) := rfl
theorem hexI_step (l : List Int) (i x : Nat) (hi : i < l.length) (hx : l[i] = (x : Int)) : toI (hexP (l.take (i + 1))) = toI (hexP (l.take i)) ++ [((hexDig (x / 16)).toNat : Int), ((hexDig (x % 16)).toNat : Int)] := by
 unfold hexP
 rw [hex_step l i x hi hx, toI_append, toI_append, List.append_assoc]
 rfl
def hex.T8 : Bool × List (List Nat × List Nat) := (true, [([], []), ([], []), ([], []), ([2], [2]), ([1, 3], [1, 3]), ([], []), ([], []), ([6], [6]), ([5, 7], [5, 7]), ([4, 8], [4, 8]), ([0, 9], [0, 9]), ([10, 10, 0, 1, 2, 3, 4, 5, 6, 7, 8, 9, 10], [0, 10])])
def hex.B8 : List Nat := [0, 0, 0, 4, 14, 0, 0, 64, 224, 510, 1023, 2047]
theorem hex.tab8 : rtab .any (opsOf Tryz.f16 8) = hex.T8 := by kernel_rfl
theorem hex.bits8 : waitsOk hex.T8.2 hex.B8 = true := by kernel_rfl
set_option maxHeartbeats 8000000 in
set_option maxRecDepth 100000 in
theorem l7Hex_calls (A : Option Addr) (c : Nat) (l : List Int) (w : World) (hr : Kd.C (Kd.int .u8) w A l.length l) (hc : l.length ≤ c) (hok : Bytes l) (hl : l.length ≤ 1048576) :
 Calls Tryz.prog 16 #[.slice A l.length c] w fun e w' => ∃ A' c', e = .returned (.slice A' (toI (hexD l)).length c') ∧ (toI (hexD l)).length ≤ c' ∧ Kd.C (Kd.int .u8) w' A' (toI (hexD l)).length (toI (hexD l)) ∧ Below w.heap.size w w' := by
 have HR := Aside0.mk hr
 have HOK := Aside0.mk hok
 have HL := Aside0.mk hl
 clear hr hc hok hl
 by_cases h0 : l.length = 0
 ·have hh : toI (hexD l) = [45] := by simp [hexD, h0, toI]
  have t1 : ((l.length : Int) == (0 : Int)) = true := by rw [beq_iff_eq]; omega
  rw [hh]
  go_enter Tryz.func16, Tryz.ntmps16
  go_wp2_with fail
  rw [Lib.run_convert_bytes_const (P := Tryz.prog) w 26 5 #[.int .u8 45] 1 1 Tryz.underlying26 Tryz.underlying5]
  simp only [Result.andThen]
  rw [Oper.upon_value]
  go_wp2
  go_ret
  refine ⟨_, _, rfl, by simp, ⟨rfl, by simp, fun _ => ⟨_, rfl, fun j p hj => ?_⟩⟩, below_alloc (Below.refl _ _) _⟩
  have hj0 : j = 0 := by
   have := (List.getElem?_eq_some_iff.1 hj).1
   simpa using this
  subst hj0
  simp only [List.getElem?_cons_zero, Option.some.injEq] at hj
  subst hj
  refine ⟨[.int .u8 45], rfl, rfl, fun m u hu => ?_⟩
  have hm0 : m = 0 := by
   have := (List.getElem?_eq_some_iff.1 hu).1
   simpa using this
  subst hm0
  simp only [List.getElem?_cons_zero, Option.some.injEq] at hu
  subst hu
  rw [Addr.add_mid]
  have hnew := blk_new w (.cells #[.int .u8 45] 5 (1, 2))
  unfold World.cell?
  simp only [hnew]
  rfl
 ·have t1 : ((l.length : Int) == (0 : Int)) = false := by rw [beq_eq_false_iff_ne]; omega
  have hh : toI (hexD l) = toI (hexP l) := by unfold hexD hexP; rw [if_neg h0]
  rw [hh]
  clear h0 hh
  go_enter Tryz.func16, Tryz.ntmps16
  go_wp2_with ((with_reducible refine gate_dst (N := 12) rfl ?_); refine Kd.R_lit (Kd.int .u8) (w0 := w) w.heap.size 5 ?hg (N := 12) ?hd (xs := ([] : List Int)) (inner := []) (ok := fun _ => True) (okp := fun _ => True) ?hr ?hp (fun _ hk => hk) trivial (Below.refl _ _) (Nat.le_refl _) (by simp) ?_; (case hd => rfl); (case hg => rfl); (case hr => first | (go_simp; done) | (go_simp; rfl)); (case hp => exact Reps.none _ _); intro v12 w1 ho hb hg_ hnew_; have HO := Aside0.mk ho; have HB := Aside0.mk hb; clear ho hb hg_ hnew_)
  obtain ⟨A4, n4, c4, e4⟩ : ∃ A n c, v12 = .slice A n c := by obtain ⟨A, c, h⟩ := Kd.R_slice HO.out; exact ⟨A, _, c, h⟩
  subst e4
  go_loopg [4, 15] l.length (fun gk v4 v15 w' => ∃ (i : Nat) (Av : Option Addr) (nv cv : Nat), v4 = .slice Av nv cv ∧ v15 = .int .i64 (i : Nat) ∧ Aside0 (gk + i = l.length) ∧ Aside0 (Kd.R (Kd.int .u8) 5 w' w.heap.size (fun _ => True) (.slice Av nv cv) (toI (hexP (l.take i)))) ∧ Aside0 (Below w.heap.size w w'))
  case atStart => exact ⟨0, _, _, _, rfl, rfl, ⟨by omega⟩, HO, HB⟩
  case round =>
   clear HO HB
   obtain ⟨i, Av, nv, cv, rfl, rfl, HG, HO, HB⟩ := hrel
   by_cases hlt : i < l.length
   ·obtain ⟨k1, hk1⟩ : ∃ m, gk = m + 1 := ⟨gk - 1, by have := HG.out; omega⟩
    subst hk1
    have HLT := Aside0.mk hlt
    obtain ⟨ad, ha, hx0⟩ := Kd.at_int HR.out (i : Int) (by omega) (by omega)
    subst ha
    rw [Int.toNat_natCast, rd_get _ _ hlt] at hx0
    obtain ⟨x, hx⟩ : ∃ x, x = l[i].toNat := ⟨_, rfl⟩
    have hok := HOK.out.get i hlt
    have hxe : l[i] = (x : Int) := by rw [hx]; omega
    have hx256 : x < 256 := by omega
    rw [hxe] at hx0
    have hcell : wr.cell? (ad.add i) = some (.int .u8 (x : Int)) := (HB.out.cell (World.block_lt_of_cell? w _ hx0)).trans hx0
    have HX := Aside0.mk hxe
    clear hx0 hx hok hxe
    go_upto_region 8 with fail
    refine start_ (n := 12) (S := fun w' => True) (ds := []) #[false, false, false, false, false, false, false, false, false, false, false, false] (by kernel_rfl) rfl rfl trivial (fun hHeld => ?_); refine with_tabW hex.tab8 hex.bits8 (fun HT_ HW_ => ?_)
    have HOD := Aside0.mk (show Kd.R (Kd.int .u8) 5 wr.drew w.heap.size (fun _ => True) (.slice Av nv cv) (toI (hexP (l.take i))) from HO.out)
    have HBD := Aside0.mk (show Below w.heap.size w wr.drew from below_drew1 HB.out)
    generalize hw9 : wr.drew = w9 at HOD HBD ⊢
    clear hw9 HO HB hcell
    refine pure_ (i := 0) (N := some 19) (v := ?_) (a' := ?_) #[true, false, false, false, false, false, false, false, false, false, false, false] rfl rfl (any_of HT_.out (by kernel_rfl)) (fun _ _ _ h => h) (Or.inl ⟨by rfl, ?_⟩) ?_ ?_
    rotate_left
    ·intro w'
     go_simp
     with_reducible rfl
    rotate_left
    ·simp only [Act.put, List.setIfInBounds_toArray, List.set_cons_zero, List.set_cons_succ, i64_w, i32_w]
     rfl
    refine pure_ (i := 1) (N := some 20) (v := ?_) (a' := ?_) #[true, true, false, false, false, false, false, false, false, false, false, false] rfl rfl (any_of HT_.out (by kernel_rfl)) (fun _ _ _ h => h) (Or.inl ⟨by rfl, ?_⟩) ?_ ?_
    rotate_left
    ·intro w'
     go_simp
     with_reducible rfl
    rotate_left
    ·simp only [Act.put, List.setIfInBounds_toArray, List.set_cons_zero, List.set_cons_succ, i64_w, i32_w]
     rfl
    refine pure_ (i := 2) (N := some 21) (v := ?_) (a' := ?_) #[true, true, true, false, false, false, false, false, false, false, false, false] rfl rfl (any_of HT_.out (by kernel_rfl)) (fun _ _ _ h => h) (Or.inl ⟨by rfl, ?_⟩) ?_ ?_
    rotate_left
    ·intro w'
     go_simp
     with_reducible rfl
    rotate_left
    ·simp only [Act.put, List.setIfInBounds_toArray, List.set_cons_zero, List.set_cons_succ, i64_w, i32_w]
     rfl
    refine pure_ (i := 5) (N := some 24) (v := ?_) (a' := ?_) #[true, true, true, false, false, true, false, false, false, false, false, false] rfl rfl (any_of HT_.out (by kernel_rfl)) (fun _ _ _ h => h) (Or.inl ⟨by rfl, ?_⟩) ?_ ?_
    rotate_left
    ·intro w'
     go_simp
     with_reducible rfl
    rotate_left
    ·simp only [Act.put, List.setIfInBounds_toArray, List.set_cons_zero, List.set_cons_succ, i64_w, i32_w]
     rfl
    refine pure_ (i := 6) (N := some 25) (v := ?_) (a' := ?_) #[true, true, true, false, false, true, true, false, false, false, false, false] rfl rfl (any_of HT_.out (by kernel_rfl)) (fun _ _ _ h => h) (Or.inl ⟨by rfl, ?_⟩) ?_ ?_
    rotate_left
    ·intro w'
     go_simp
     with_reducible rfl
    rotate_left
    ·simp only [Act.put, List.setIfInBounds_toArray, List.set_cons_zero, List.set_cons_succ, i64_w, i32_w]
     rfl
    refine pure_ (i := 3) (N := some 22) (v := ?_) (a' := ?_) #[true, true, true, true, false, true, true, false, false, false, false, false] rfl rfl (any_of HT_.out (by kernel_rfl)) (fun _ _ _ h => h) (Or.inl ⟨by rfl, ?_⟩) ?_ ?_
    rotate_left
    ·intro w'
     go_simp
     (first | rw [quo16b x hx256] | rw [quo16 x hx256] | rw [quo16' x hx256] | with_reducible rfl)
    rotate_left
    ·simp only [Act.put, List.setIfInBounds_toArray, List.set_cons_zero, List.set_cons_succ, i64_w, i32_w]
     rfl
    refine pure_ (i := 7) (N := some 26) (v := ?_) (a' := ?_) #[true, true, true, true, false, true, true, true, false, false, false, false] rfl rfl (any_of HT_.out (by kernel_rfl)) (fun _ _ _ h => h) (Or.inl ⟨by rfl, ?_⟩) ?_ ?_
    rotate_left
    ·intro w'
     go_simp
     (first | rw [rem16] | with_reducible rfl)
    rotate_left
    ·simp only [Act.put, List.setIfInBounds_toArray, List.set_cons_zero, List.set_cons_succ, i64_w, i32_w]
     rfl
    refine pure_ (i := 4) (N := some 23) (v := ?_) (a' := ?_) #[true, true, true, true, true, true, true, true, false, false, false, false] rfl rfl (any_of HT_.out (by kernel_rfl)) (fun _ _ _ h => h) (Or.inl ⟨by rfl, ?_⟩) ?_ ?_
    rotate_left
    ·intro w'
     go_simp
     (first | rw [hex_get] | (rw [dif_pos (by omega)]; rw [hex_get]) | skip); (try simp only [nat16, rem_nat, Result.andThen]); with_reducible rfl
    rotate_left
    ·simp only [Act.put, List.setIfInBounds_toArray, List.set_cons_zero, List.set_cons_succ, i64_w, i32_w]
     rfl
    refine pure_ (i := 8) (N := some 27) (v := ?_) (a' := ?_) #[true, true, true, true, true, true, true, true, true, false, false, false] rfl rfl (any_of HT_.out (by kernel_rfl)) (fun _ _ _ h => h) (Or.inl ⟨by rfl, ?_⟩) ?_ ?_
    rotate_left
    ·intro w'
     go_simp
     (first | rw [hex_get] | (rw [dif_pos (by omega)]; rw [hex_get]) | skip); (try simp only [nat16, rem_nat, Result.andThen]); with_reducible rfl
    rotate_left
    ·simp only [Act.put, List.setIfInBounds_toArray, List.set_cons_zero, List.set_cons_succ, i64_w, i32_w]
     rfl
    refine one_ (i := 9) (N := some 28) #[true, true, true, true, true, true, true, true, true, true, false, false] rfl rfl (one_of HT_.out (by kernel_rfl)) (by decide) (fun K hK => ?_)
    refine Kd.R_lit_step (Kd.int .u8) (w0 := w9) w9.heap.size 5 ?hg (N := 28) ?hd (xs := [((hexDig (x / 16)).toNat : Int), ((hexDig (x % 16)).toNat : Int)]) (inner := [.int .u8 ((hexDig (x / 16)).toNat : Int), .int .u8 ((hexDig (x % 16)).toNat : Int)]) (ok := fun _ => True) (okp := fun _ => True) ?hr ?hp (fun _ hk => hk) trivial (Below.refl _ _) (Nat.le_refl _) (by simp) ?_; (case hd => rfl); (case hg => rfl); (case hr => first | (go_simp; done) | (go_simp; rfl)); (case hp => exact Reps.one (show Kd.M (Kd.int .u8) _ _ _ ((hexDig (x / 16)).toNat : Int) [.int .u8 ((hexDig (x / 16)).toNat : Int)] from rfl) (Reps.one (show Kd.M (Kd.int .u8) _ _ _ ((hexDig (x % 16)).toNat : Int) [.int .u8 ((hexDig (x % 16)).toNat : Int)] from rfl) (Reps.none _ _)))
    intro v28 w10 ho hb hg_ hnew_
    obtain ⟨A8, c8, e8, hc8, hC8⟩ := Kd.R_reads ho
    have HC8 := Aside0.mk hC8
    have HOE := Aside0.mk (Kd.R_below HOD.out hb)
    have HBE := Aside0.mk (below_step HBD.out hb)
    subst e8
    refine hK.out _ _ trivial (fun hHeld => ?_)
    clear hK K ho hb hg_ hnew_ hc8 hC8 HOD HBD
    refine norm_ (a' := ?_) ?_ ?_
    rotate_left
    ·show Act.put _ (some 28) _ = _
     simp only [Act.put, List.setIfInBounds_toArray, List.set_cons_zero, List.set_cons_succ, i64_w, i32_w]
     rfl
    refine one_ (i := 10) (N := some 29) #[true, true, true, true, true, true, true, true, true, true, true, false] rfl rfl (one_of HT_.out (by kernel_rfl)) (by decide) (fun K hK => ?_)
    refine Kd.R_append_rows_step (Kd.int .u8) (w0 := w) w.heap.size (by rfl) (.tmp 19) (.tmp 28) 26 5 (.int .u8 0) 1 rfl Tryz.underlying26 info5 rfl (by decide) (by omega) (.slice Av nv cv) (toI (hexP (l.take i))) [((hexDig (x / 16)).toNat : Int), ((hexDig (x % 16)).toNat : Int)] _ _ _ (fun _ => True) (fun _ => False) rfl rfl HOE.out HC8.out (fun _ _ h => h) (fun _ h => h.elim) (fun _ _ => trivial) HBE.out HBE.out.size (by rw [toI_length]; unfold hexP; rw [hexL, List.length_take]; have := HL.out; simp only [List.length_cons, List.length_nil]; omega) ?_
    intro v29 w11 ho hb hg_ hat
    have HO := Aside0.mk (show Kd.R (Kd.int .u8) 5 w11 w.heap.size (fun _ => True) v29 (toI (hexP (l.take (i + 1)))) by rw [hexI_step l i x HLT.out HX.out]; exact ho)
    have HB := Aside0.mk hb
    refine hK.out _ _ trivial (fun hHeld => ?_)
    clear hK K ho hb hg_ hat HOE HBE HC8
    refine norm_ (a' := ?_) ?_ ?_
    rotate_left
    ·show Act.put _ (some 29) _ = _
     simp only [Act.put, List.setIfInBounds_toArray, List.set_cons_zero, List.set_cons_succ, i64_w, i32_w]
     rfl
    refine pure_ (i := 11) (N := some 4) (v := ?_) (a' := ?_) #[true, true, true, true, true, true, true, true, true, true, true, true] rfl rfl (any_of HT_.out (by kernel_rfl)) (fun _ _ _ h => h) (Or.inl ⟨by rfl, ?_⟩) ?_ ?_
    rotate_left
    ·intro w'
     go_simp
     with_reducible rfl
    rotate_left
    ·simp only [Act.put, List.setIfInBounds_toArray, List.set_cons_zero, List.set_cons_succ, i64_w, i32_w]
     rfl
    refine done_ (done_of HT_.out (by kernel_rfl)) ?_
    obtain ⟨An, nn, cn, en⟩ : ∃ A n c, v29 = .slice A n c := by obtain ⟨A, c, h⟩ := Kd.R_slice HO.out; exact ⟨A, _, c, h⟩
    subst en
    try go_wp2
    go_roundg k1
    case measure => omega
    case rel => exact ⟨i + 1, _, _, _, rfl, by rw [w64n (by have := HL.out; have := HLT.out; omega)], ⟨by have := HG.out; omega⟩, HO, HB⟩
   ·have hi : i = l.length := by have := HG.out; omega
    have tlt : decide (i < l.length) = false := decide_eq_false hlt
    replace HO := Aside0.mk (show Kd.R (Kd.int .u8) 5 wr w.heap.size (fun _ => True) (.slice Av nv cv) (toI (hexP l)) by have := HO.out; rwa [hi, List.take_length] at this)
    clear hlt hi
    go_wp2_with fail
    go_ret
    obtain ⟨A, c, he, hc, hC⟩ := Kd.R_reads HO.out
    injection he with h1 h2 h3
    subst h1 h2 h3
    exact ⟨_, _, rfl, hc, hC, HB.out⟩

end Go.Proofs.YtibhaklgajkalaaGreatDoor.YTell
