/- T15 -/
import Derived.Test.YtibhaklgajkalaaGreatDoorYTellx0
import Derived.Deep.RegionHeld3
import Derived.Test.YtibhaklgajkalaaGreatDoorYTellT14
namespace Go.Proofs.YtibhaklgajkalaaGreatDoor.YTell
open Go.RowKit Go.Proofs.YtibhaklgajkalaaGreatDoorW.PrintWords Go.Proofs.YtibhaklgajkalaaGreatDoorW.PrintLast Go.Proofs.YtibhaklgajkalaaGreatDoorW.PrintMore
attribute [local go_sem] max2_int min2_int max_two min_two max_three min_three max_four min_four
set_option linter.unusedVariables false
set_option linter.unusedSimpArgs false
open Go.Proofs.YtibhaklgajkalaaGreatDoor.Num
theorem itoa_pos (n : Int) : 0 < (Lib.itoa n).length := by
 unfold Lib.itoa
 split
 ·simp
 ·rw [Lib.decDigits_length]
  exact Lib.nDigits_pos _
theorem HO0 {w w' : World} {v : Value} {code : Int} {l : List S50} (h : Kd.R (Kd.int .u8) 5 w' w.heap.size (fun _ => True) v (toI ([99, 111, 100, 101, 32] ++ Lib.itoa code ++ [10]))) : Kd.R (Kd.int .u8) 5 w' w.heap.size (fun _ => True) v (toI (textD code (l.take 0))) := by
 unfold textD
 rw [List.take_zero, List.flatMap_nil, List.append_nil]
 exact h
theorem R_cast {w : World} {base : Nat} {ok : Nat → Prop} {v : Value} {xs ys : List UInt8} (h : xs = ys) (hr : Kd.R (Kd.int .u8) 5 w base ok v (toI xs)) : Kd.R (Kd.int .u8) 5 w base ok v (toI ys) := by rw [← h]; exact hr
theorem mid_eq (P s t : List UInt8) (ns : List Int) (M : List UInt8) (h : M = P ++ s ++ (t ++ joinD ns)) : P ++ s ++ t ++ Lib.join (ns.map Lib.itoa) [58] = M := by
 rw [h, List.append_assoc, List.append_assoc, List.append_assoc]
 rfl
theorem svc_mid (P : List UInt8) (x : S50) : P ++ s3 x ++ [32, 115, 58] ++ Lib.join ([x.f3.f0].map Lib.itoa) [58] = P ++ s4 x 0 := by
 rw [s4_zero, List.append_assoc, List.append_assoc]
 rfl
theorem item_room (P : List UInt8) (x : S50) (h : itemOn x) (M : List UInt8) (hM : M = P ++ s2 x x.f4.length ++ ([32, 105, 58] ++ joinD [x.f2.f0, x.f2.f1])) (hl : P.length + (lineD x).length ≤ 1099510000000) : M.length + 1 + (hexD x.f2.f2).length ≤ 1099510000000 := by
 have h1 := s3_len x
 have h2 := congrArg List.length (s3_some x h)
 have h3 := congrArg List.length hM
 simp only [List.length_append] at h2 h3
 have h4 : ([58] : List UInt8).length = 1 := rfl
 omega
theorem item_fin (P : List UInt8) (x : S50) (h : itemOn x) (M : List UInt8) (hM : M = P ++ s2 x x.f4.length ++ ([32, 105, 58] ++ joinD [x.f2.f0, x.f2.f1])) : M ++ [58] ++ hexD x.f2.f2 = P ++ s3 x := by
 rw [s3_some x h, hM]
 simp only [List.append_assoc]
theorem item_off (P : List UInt8) (x : S50) (h : ¬ itemOn x) : P ++ s2 x x.f4.length = P ++ s3 x := by rw [s3_none x h]
theorem kept_room (P : List UInt8) (x : S50) (h : svcOn x) (j : Nat) (hj : j < x.f3.f1.length) (y : S40) (hy : y = x.f3.f1[j]) (M : List UInt8) (hM : M = P ++ s4 x j ++ ([32, 107, 58] ++ joinD [y.f0, y.f1])) (hl : P.length + (lineD x).length ≤ 1099510000000) : M.length + 1 + (hexD y.f2).length ≤ 1099510000000 := by
 have h1 := s4_len x (j + 1) h
 have h2 := congrArg List.length (s4_step x j hj y hy)
 have h3 := congrArg List.length hM
 simp only [List.length_append] at h2 h3
 have h4 : ([58] : List UInt8).length = 1 := rfl
 omega
theorem kept_fin (P : List UInt8) (x : S50) (j : Nat) (hj : j < x.f3.f1.length) (y : S40) (hy : y = x.f3.f1[j]) (M : List UInt8) (hM : M = P ++ s4 x j ++ ([32, 107, 58] ++ joinD [y.f0, y.f1])) : M ++ [58] ++ hexD y.f2 = P ++ s4 x (j + 1) := by
 rw [s4_step x j hj y hy, hM]
 simp only [List.append_assoc]
theorem svc_end (P : List UInt8) (x : S50) (h : svcOn x) (j : Nat) (hj : j = x.f3.f1.length) : P ++ s4 x j = P ++ Lib.join (obsParts x) [32] := by
 rw [(List.append_cancel_right (line_some x h) : Lib.join (obsParts x) [32] = s4 x x.f3.f1.length), hj]
theorem svc_off (P : List UInt8) (x : S50) (h : ¬ svcOn x) : P ++ s3 x = P ++ Lib.join (obsParts x) [32] := by
 rw [(List.append_cancel_right (line_none x h) : Lib.join (obsParts x) [32] = s3 x)]
theorem line_fin (code : Int) (l : List S50) (i : Nat) (hi : i < l.length) (x : S50) (hx : x = l[i]) : textD code (l.take i) ++ Lib.join (obsParts x) [32] ++ [10] = textD code (l.take (i + 1)) := by
 rw [textD_step code l i hi, ← hx, List.append_assoc]
 rfl
theorem wpList_marked {ops : Array Oper} {rest : List Oper} {o : Oper} {a : Act} {Q : Exit → Act → World → Prop} {w W : World} (hgd : o.guard = none) (s x : Operand) (ho : o.op = .call { callee := .builtin .append, args := #[s, x], argTypes := #[26, 26] })
 (g : Nat) (fr : Nat × Nat) (out y : List UInt8) (hout : W.heap[g]? = some (.cells (Lib.byteCells out).toArray 5 fr)) (A : Option Addr) (c : Nat) (hy : 0 < y.length) (hC : Kd.C (Kd.int .u8) W A y.length (toI y)) (hl : out.length + y.length ≤ 1099511627776)
 (hs : a.eval s = .slice (some ⟨g, 0, none⟩) out.length out.length) (hx : a.eval x = .slice A y.length c) (HB : Below w.heap.size w W)
 (h : ∀ v1 w1, Kd.R (Kd.int .u8) 5 w1 w.heap.size (fun _ => True) v1 (toI (out ++ y)) → Below w.heap.size w w1 → Below W.heap.size W w1 → wpList Tryz.prog ops Q rest (a.put o.dst v1) w1) : wpList Tryz.prog ops Q (o :: rest) a W := by
 refine wpList_plain hgd fun K hK => ?_
 obtain ⟨v', w', hr, h2, h3⟩ := append_marked W o.type g fr out y hout A c hy hC hl
 unfold Oper.wp execOp
 simp only [ho, resolve, invoke, builtin, Sem.run_bind, Sem.run_pure, Result.andThen_ok, List.map_toArray, List.map_cons, List.map_nil, hs, hx, hr]
 exact hK _ _ (h v' w' (Kd.R_lower h2 HB.size) (below_step HB h3) h3)
def sp11.T : Bool × List (List Nat × List Nat) := (true, [([], []), ([0], [0]), ([], []), ([2], [2]), ([], []), ([4], [4]), ([], []), ([6], [6]), ([], []), ([8], [8]), ([], []), ([10], [10]), ([3, 5, 7, 9, 11], [3, 5, 7, 9, 11]), ([1, 12, 1], [1, 12]), ([13, 13, 0, 1, 2, 3, 4, 5, 6, 7, 8, 9, 10, 11, 12, 13], [0, 13])])
def sp11.B : List Nat := [0, 1, 0, 4, 0, 16, 0, 64, 0, 256, 0, 1024, 4092, 8191, 16383]
theorem sp11.tab : rtab .any (opsOf Tryz.f5 11) = sp11.T := by kernel_rfl
theorem sp11.bits : waitsOk sp11.T.2 sp11.B = true := by kernel_rfl
def sp14.T : Bool × List (List Nat × List Nat) := (true, [([], []), ([0], [0]), ([], []), ([2], [2]), ([3], [3]), ([], []), ([5], [5]), ([6], [6]), ([4, 7], [4, 7]), ([1, 8, 1], [1, 8]), ([9, 9, 0, 1, 2, 3, 4, 5, 6, 7, 8, 9], [0, 9])])
def sp14.B : List Nat := [0, 1, 0, 4, 12, 0, 32, 96, 252, 511, 1023]
theorem sp14.tab : rtab .any (opsOf Tryz.f5 14) = sp14.T := by kernel_rfl
theorem sp14.bits : waitsOk sp14.T.2 sp14.B = true := by kernel_rfl
def sp15.T : Bool × List (List Nat × List Nat) := (true, [([], []), ([], []), ([0, 1], [0, 1]), ([], []), ([3], [3]), ([4], [4]), ([5, 2], [5]), ([2, 6, 6], [2, 6]), ([7, 7, 0, 1, 2, 3, 4, 5, 6, 7], [0, 7])])
def sp15.B : List Nat := [0, 0, 3, 0, 8, 24, 63, 127, 255]
theorem sp15.tab : rtab .any (opsOf Tryz.f5 15) = sp15.T := by kernel_rfl
theorem sp15.bits : waitsOk sp15.T.2 sp15.B = true := by kernel_rfl
def sp17.T : Bool × List (List Nat × List Nat) := (true, [([], []), ([0], [0]), ([], []), ([2], [2]), ([3], [3]), ([4], [4]), ([1, 5, 1], [1, 5]), ([6, 6, 0, 1, 2, 3, 4, 5, 6], [0, 6])])
def sp17.B : List Nat := [0, 1, 0, 4, 12, 28, 63, 127]
theorem sp17.tab : rtab .any (opsOf Tryz.f5 17) = sp17.T := by kernel_rfl
theorem sp17.bits : waitsOk sp17.T.2 sp17.B = true := by kernel_rfl
def sp21.T : Bool × List (List Nat × List Nat) := (true, [([], []), ([0], [0]), ([], []), ([2], [2]), ([], []), ([4], [4]), ([3, 5], [3, 5]), ([1, 6, 1], [1, 6]), ([7, 7, 0, 1, 2, 3, 4, 5, 6, 7], [0, 7])])
def sp21.B : List Nat := [0, 1, 0, 4, 0, 16, 60, 127, 255]
theorem sp21.tab : rtab .any (opsOf Tryz.f5 21) = sp21.T := by kernel_rfl
theorem sp21.bits : waitsOk sp21.T.2 sp21.B = true := by kernel_rfl
def sp22.T : Bool × List (List Nat × List Nat) := (true, [([], []), ([], []), ([0, 1], [0, 1]), ([], []), ([3], [3]), ([4, 2], [4]), ([2, 5, 5], [2, 5]), ([6, 6, 0, 1, 2, 3, 4, 5, 6], [0, 6])])
def sp22.B : List Nat := [0, 0, 3, 0, 8, 31, 63, 127]
theorem sp22.tab : rtab .any (opsOf Tryz.f5 22) = sp22.T := by kernel_rfl
theorem sp22.bits : waitsOk sp22.T.2 sp22.B = true := by kernel_rfl
set_option maxHeartbeats 8000000 in
set_option maxRecDepth 100000 in
theorem specTell_calls (code : Int) (A1 : Option Addr) (c1 : Nat) (l : List S50) (w : World) (hr : Kd.C k50 w A1 l.length l) (hc : l.length ≤ c1) (hcode : IntOk code) (hok : ∀ o ∈ l, ObsOk o) (hl : l.length ≤ 1048576) (ht : (textD code l).length ≤ 1099510000000) :
 Calls Tryz.prog 5 #[.agg #[.int .i64 code, .slice A1 l.length c1]] w fun e w' => ∃ v, e = .returned v ∧ Kd.R (Kd.int .u8) 5 w' w.heap.size (fun _ => True) v (toI (textD code l)) ∧ Below w.heap.size w w' := by
 have HR := Aside0.mk hr
 have HOK := Aside0.mk hok
 have HL := Aside0.mk hl
 have HT := Aside0.mk ht
 have HCO := Aside0.mk hcode
 clear hr hc hok hl ht hcode
 go_enter Tryz.func5, Tryz.ntmps5
 go_upto_region 1 with ((with_reducible refine gate_dst (N := 1) rfl ?_); refine box_event ?hg (N := 1) ?hd (cs := #[.int .i64 code, .slice A1 l.length c1]) (t := 30) ?hr ?_; (case hd => rfl); (case hg => rfl); (case hr => first | (go_simp; done) | (go_simp; rfl)); intro g1 hgg w1 bk hbb; have BK := Aside0.mk bk; have HB1 := Aside0.mk hbb; clear hgg bk hbb)
 go_wp2_with fail
 rw [Lib.run_convert_bytes_const (P := Tryz.prog) w1 26 5 #[.int .u8 99, .int .u8 111, .int .u8 100, .int .u8 101, .int .u8 32] 5 5 Tryz.underlying26 Tryz.underlying5]
 simp only [Result.andThen]
 rw [Oper.upon_value]
 have BM := Aside0.mk (blk_new w1 (.cells #[.int .u8 99, .int .u8 111, .int .u8 100, .int .u8 101, .int .u8 32] 5 (5, 6)))
 have BA := Aside0.mk (below_alloc (Below.refl _ w1) (.cells #[.int .u8 99, .int .u8 111, .int .u8 100, .int .u8 101, .int .u8 32] 5 (5, 6)))
 generalize hwa : w1.alloc (.cells #[.int .u8 99, .int .u8 111, .int .u8 100, .int .u8 101, .int .u8 32] 5 (5, 6)) = wa at BM BA ⊢
 clear hwa
 have k0 : wa.cell? ⟨g1, 0, none⟩ = some (.int .i64 code) := blk_cell (blk_below BK.out BA.out) 0
 go_wp2_with fail
 refine Calls.mono (spec_l7Dec.calls 30 code _ wa (l7Dec_told code HCO.out 30 (Nat.le_refl _))) ?_
 rintro e w2 ⟨v15, rfl, ho, hb⟩
 obtain ⟨A15, c15, e15, hc15, hC15⟩ := Kd.R_reads ho
 have HC15 := Aside0.mk hC15
 have BM2 := Aside0.mk (blk_below BM.out hb)
 have BB := Aside0.mk (below_step (below_step HB1.out BA.out) hb)
 have BK2 := Aside0.mk (blk_below (blk_below BK.out BA.out) hb)
 have HLC := Aside0.mk (Lib.itoa_length_le code HCO.out.1 HCO.out.2)
 have HLP := Aside0.mk (itoa_pos code)
 rw [toI_length] at e15
 subst e15
 clear ho hb hc15 hC15 k0 BM BA
 go_wp2_with (first | ((with_reducible refine gate_builtin (b := .append) (xs := #[.tmp 12, .tmp 15]) rfl ?_); at_builtin; refine wpList_marked (w := w) rfl (.tmp 12) (.tmp 15) rfl w1.heap.size (5, 6) [99, 111, 100, 101, 32] (Lib.itoa code) BM2.out A15 c15 HLP.out (by have := HC15.out; rwa [toI_length] at this) (by have := HLC.out; simp only [List.length_cons, List.length_nil]; omega) rfl rfl BB.out ?_; intro v16 w3 hr hb hb2; have HO := Aside0.mk hr; have HB := Aside0.mk hb; replace BK2 := Aside0.mk (blk_below BK2.out hb2); clear hr hb hb2) | ((with_reducible refine gate_builtin (b := .append) (xs := #[.tmp 17, .tmp 18]) rfl ?_); at_builtin; refine app_byte (w := w) rfl (.tmp 17) (.tmp 18) rfl _ _ 10 10 rfl rfl rfl HO.out HB.out (by have := HLC.out; simp only [List.length_append, List.length_cons, List.length_nil]; omega) ?_; intro v19 w4 hr hb hk; replace BK2 := Aside0.mk (blk_kept BK2.out hk (T5.not BK2.out (by decide))); have k1 : w4.cell? ⟨g1, 1, none⟩ = some (.slice A1 l.length c1) := blk_cell BK2.out 1; replace HO := Aside0.mk hr; replace HB := Aside0.mk hb; clear hr hb hk))
 clear k1

 obtain ⟨A3s, n3s, c3s, e3s⟩ := R_any HO.out
 subst e3s
 replace HO := Aside0.mk (show Kd.R (Kd.int .u8) 5 w4 w.heap.size (fun _ => True) _ (toI (textD code (l.take 0))) from HO0 HO.out)
 go_loopg [3, 23] l.length (fun gk v3 v23 w' => ∃ (i : Nat) (Av : Option Addr) (nv cv : Nat), v3 = .slice Av nv cv ∧ v23 = .int .i64 (i : Nat) ∧ Aside0 (gk + i = l.length) ∧ Aside0 (Kd.R (Kd.int .u8) 5 w' w.heap.size (fun _ => True) (.slice Av nv cv) (toI (textD code (l.take i)))) ∧ Aside0 (Below w.heap.size w w'))
 case atStart => exact ⟨0, _, _, _, rfl, rfl, ⟨by omega⟩, HO, HB⟩
 case round =>
  clear HO HB BM2 BB BK2 BK HB1 HC15
  obtain ⟨i, Av, nv, cv, rfl, rfl, HG, HO, HB⟩ := hrel
  by_cases hlt : i < l.length
  ·obtain ⟨k1, hk1⟩ : ∃ m, gk = m + 1 := ⟨gk - 1, by have := HG.out; omega⟩
   subst hk1
   have HLT := Aside0.mk hlt
   obtain ⟨ad, cs, ha, _, hK, hcl0⟩ := Kd.C_get HR.out z50 (i : Int) (by omega) (by omega)
   have hcl : ∀ j u, cs[j]? = some u → w.cell? (ad.add (i * 18 + j)) = some u := hcl0
   cases ha
   obtain ⟨x, hx⟩ : ∃ x, x = l.getD (i : Int).toNat z50 := ⟨_, rfl⟩
   rw [← hx] at hK
   have HXL := Aside0.mk (show x = l[i] by rw [hx, Int.toNat_natCast]; simp [List.getD, hlt])
   have HOX := Aside0.mk (show ObsOk x from HOK.out x (by rw [HXL.out]; exact List.getElem_mem hlt))
   have HLN := Aside0.mk (show (textD code (l.take i)).length + (lineD x).length ≤ 1099510000000 by have h1 := textD_take code l (i + 1); have h2 := textD_step code l i HLT.out; rw [h2, List.length_append, ← HXL.out] at h1; have := HT.out; omega)
   obtain ⟨A4, c4, A6, c6, A7, c7, A8, c8, A9, c9, hcs, hl4, hC4, hl6, hC6, hl7, hC7, hl8, hC8, hl9, hC9⟩ := k50_open hK
   have HCS := Aside0.mk hcs
   have HC4 := Aside0.mk hC4
   have HC6 := Aside0.mk hC6
   have HC8 := Aside0.mk hC8
   have HL4 := Aside0.mk hl4
   have HL6 := Aside0.mk hl6
   have HL8 := Aside0.mk hl8
   have HCL := Aside0.mk (show ∀ j u, cs[j]? = some u → wr.cell? ((ad.add (i * 18)).add j) = some u from fun j u h => by rw [add_add]; exact (HB.out.cell (World.block_lt_of_cell? w _ (hcl j u h))).trans (hcl j u h))
   have HSZ := Aside0.mk (show (Tryz.prog.info? 50).map (·.size) = some cs.length by rw [hcs]; exact isz_50')
   have HSA := Aside0.mk (show (Tryz.prog.info? 50).map (·.size) = some cs.toArray.size by rw [hcs]; exact isz_50')
   have HOL := Aside0.mk (show (#[.int .i64 0, .int .i64 0, .int .i64 0, .int .i64 0, .slice none 0 0, .int .i64 0, .slice none 0 0, .slice none 0 0, .slice none 0 0, .slice none 0 0, .int .i64 0, .int .i64 0, .int .i64 0, .int .i64 0, .int .i64 0, .int .i64 0, .int .i64 0, .int .i64 0] : Array Value).size = cs.toArray.size by rw [hcs]; rfl)
   have HON := Aside0.mk (all_oneCell_toArray (k50.K_one hK))
   have HX0 := Aside0.mk (show w.heap.size ≤ wr.heap.size from HB.out.size)
   obtain ⟨vs, hvs⟩ : ∃ vs : List Value, vs = [.int .i64 x.f6.f0, .int .i64 x.f6.f1, .int .i64 x.f6.f2, .int .i64 x.f6.f3, .int .i64 x.f6.f4, .int .i64 x.f6.f5, .int .i64 x.f6.f6, .int .i64 x.f6.f7] := ⟨_, rfl⟩
   have HVS := Aside0.mk hvs
   have HVZ := Aside0.mk (show (Tryz.prog.info? 48).map (·.size) = some vs.length by rw [hvs]; exact isz_48')
   have HVA := Aside0.mk (show (Tryz.prog.info? 48).map (·.size) = some vs.toArray.size by rw [hvs]; exact isz_48')
   have HVO := Aside0.mk (show (#[.int .i64 0, .int .i64 0, .int .i64 0, .int .i64 0, .int .i64 0, .int .i64 0, .int .i64 0, .int .i64 0] : Array Value).size = vs.toArray.size by rw [hvs]; rfl)
   have HVN := Aside0.mk (all_oneCell_toArray (cs := vs) (by rw [hvs]; intro v hv; simp only [List.mem_cons, List.mem_nil_iff, or_false] at hv; rcases hv with rfl | rfl | rfl | rfl | rfl | rfl | rfl | rfl; all_goals rfl))
   have hu := Tryz.underlying50
   have hu2 := Tryz.underlying48
   clear hcl0 hcl hK hcs hx hvs hl4 hC4 hl6 hC6 hl7 hC7 hl8 hC8 hl9 hC9
   go_wp2_with (first | ((with_reducible refine gate_dst (N := 26) rfl ?_); refine wpList_load_at rfl 50 (.tmp 25) rfl _ rfl cs _ HCL.out hu rfl HSZ.out ?_) | ((with_reducible refine gate_dst (N := 5) rfl ?_); refine box_event ?hg (N := 5) ?hd (cs := #[.int .i64 0, .int .i64 0, .int .i64 0, .int .i64 0, .slice none 0 0, .int .i64 0, .slice none 0 0, .slice none 0 0, .slice none 0 0, .slice none 0 0, .int .i64 0, .int .i64 0, .int .i64 0, .int .i64 0, .int .i64 0, .int .i64 0, .int .i64 0, .int .i64 0]) (t := 50) ?hr ?_; (case hd => rfl); (case hg => rfl); (case hr => first | (go_simp; done) | (go_simp; rfl)); intro g5 hgg wa bk hbb; have KA := Aside0.mk bk; replace HB := Aside0.mk (below_step HB.out hbb); replace HO := Aside0.mk (Kd.R_below HO.out hbb); have HG5 := Aside0.mk (show w.heap.size ≤ g5 by have := HX0.out; omega); clear hgg bk hbb) | ((with_reducible refine gate_store (t := 50) (p := 5) rfl ?_); refine wpList_put_row rfl 50 (.tmp 5) (.tmp 26) rfl g5 cs.toArray rfl rfl 50 _ KA.out HSA.out HOL.out HON.out ?_; intro wb hkb hbb hkept; have K5 := Aside0.mk (show wb.heap[g5]? = some (.cells #[.int .i64 x.f0, .int .i64 x.f1, .int .i64 x.f2.f0, .int .i64 x.f2.f1, .slice A4 x.f2.f2.length c4, .int .i64 x.f3.f0, .slice A6 x.f3.f1.length c6, .slice A7 x.f3.f2.length c7, .slice A8 x.f4.length c8, .slice A9 x.f5.length c9, .int .i64 x.f6.f0, .int .i64 x.f6.f1, .int .i64 x.f6.f2, .int .i64 x.f6.f3, .int .i64 x.f6.f4, .int .i64 x.f6.f5, .int .i64 x.f6.f6, .int .i64 x.f6.f7] 50 (0, 0)) by rw [hkb, HCS.out]); replace HO := Aside0.mk (Kd.R_mono (Kd.R_kept (Kd.R_types HO.out KA.out (by decide)) hkept (fun q hq e => hq.2 e)) (fun _ _ => trivial)); replace HB := Aside0.mk (hbb w HB.out HG5.out); clear hkb hbb hkept KA; have HVC := Aside0.mk (show ∀ j u, vs[j]? = some u → wb.cell? ((⟨g5, 10, none⟩ : Addr).add j) = some u from fun j u h => by rw [Addr.add_mid, blk_cell K5.out]; rw [HVS.out] at h; have hj := (List.getElem?_eq_some_iff.1 h).1; simp only [List.length_cons, List.length_nil] at hj; rw [← h]; match j, hj with | 0, _ => rfl | 1, _ => rfl | 2, _ => rfl | 3, _ => rfl | 4, _ => rfl | 5, _ => rfl | 6, _ => rfl | 7, _ => rfl)) | ((with_reducible refine gate_dst (N := 28) rfl ?_); refine wpList_load_at rfl 48 (.tmp 27) rfl ⟨g5, 10, none⟩ rfl vs _ HVC.out hu2 rfl HVZ.out ?_) | ((with_reducible refine gate_dst (N := 6) rfl ?_); refine box_event ?hg (N := 6) ?hd (cs := #[.int .i64 0, .int .i64 0, .int .i64 0, .int .i64 0, .int .i64 0, .int .i64 0, .int .i64 0, .int .i64 0]) (t := 48) ?hr ?_; (case hd => rfl); (case hg => rfl); (case hr => first | (go_simp; done) | (go_simp; rfl)); intro g6 hgg wc bk hbb; have KC := Aside0.mk bk; have HG6 := Aside0.mk (show w.heap.size ≤ g6 by have := HB.out.size; omega); have HN56 := Aside0.mk (show ¬ g5 = g6 by have h5 := blk_lt K5.out; have := hgg; intro e; omega); replace HB := Aside0.mk (below_step HB.out hbb); replace HO := Aside0.mk (Kd.R_below HO.out hbb); replace K5 := Aside0.mk (blk_below K5.out hbb); clear hgg bk hbb) | ((with_reducible refine gate_store (t := 48) (p := 6) rfl ?_); refine wpList_put_row rfl 48 (.tmp 6) (.tmp 28) rfl g6 vs.toArray rfl rfl 48 _ KC.out HVA.out HVO.out HVN.out ?_; intro wd hkb hbb hkept; have K6 := Aside0.mk (show wd.heap[g6]? = some (.cells #[.int .i64 x.f6.f0, .int .i64 x.f6.f1, .int .i64 x.f6.f2, .int .i64 x.f6.f3, .int .i64 x.f6.f4, .int .i64 x.f6.f5, .int .i64 x.f6.f6, .int .i64 x.f6.f7] 48 (0, 0)) by rw [hkb, HVS.out]); replace HO := Aside0.mk (Kd.R_mono (Kd.R_kept (Kd.R_types HO.out KC.out (by decide)) hkept (fun q hq e => hq.2 e)) (fun _ _ => trivial)); replace HB := Aside0.mk (hbb w HB.out HG6.out); replace K5 := Aside0.mk (blk_kept K5.out hkept HN56.out); clear hkb hbb hkept KC HVC; have k5_0 : wd.cell? ⟨g5, 0, none⟩ = some (.int .i64 x.f0) := blk_cell K5.out 0; have k5_1 : wd.cell? ⟨g5, 1, none⟩ = some (.int .i64 x.f1) := blk_cell K5.out 1; have k5_9 : wd.cell? ⟨g5, 9, none⟩ = some (.slice A9 x.f5.length c9) := blk_cell K5.out 9; have k6_0 : wd.cell? ⟨g6, 0, none⟩ = some (.int .i64 x.f6.f0) := blk_cell K6.out 0; have k6_1 : wd.cell? ⟨g6, 1, none⟩ = some (.int .i64 x.f6.f1) := blk_cell K6.out 1; have k6_2 : wd.cell? ⟨g6, 2, none⟩ = some (.int .i64 x.f6.f2) := blk_cell K6.out 2; have k6_3 : wd.cell? ⟨g6, 3, none⟩ = some (.int .i64 x.f6.f3) := blk_cell K6.out 3; have k6_4 : wd.cell? ⟨g6, 4, none⟩ = some (.int .i64 x.f6.f4) := blk_cell K6.out 4; have k6_5 : wd.cell? ⟨g6, 5, none⟩ = some (.int .i64 x.f6.f5) := blk_cell K6.out 5; have k6_6 : wd.cell? ⟨g6, 6, none⟩ = some (.int .i64 x.f6.f6) := blk_cell K6.out 6; have k6_7 : wd.cell? ⟨g6, 7, none⟩ = some (.int .i64 x.f6.f7) := blk_cell K6.out 7))
   clear k5_0 k5_1 k5_9 k6_0 k6_1 k6_2 k6_3 k6_4 k6_5 k6_6 k6_7 K6
   refine Calls.mono (joinLit w wd _ (textD code (l.take i)) 32 32 rfl x.f0 [x.f1, x.f6.f0, x.f6.f1, x.f6.f2, x.f6.f3, x.f6.f4, x.f6.f5, x.f6.f6, x.f6.f7, (x.f5.length : Int)] _ rfl 11 rfl HB.out HO.out HOX.out.ints (by simp) (by have := HLN.out; omega)) ?_
   rintro e we ⟨v54, rfl, ho, hb, hk⟩
   replace K5 := Aside0.mk (blk_kept K5.out hk (T5.not K5.out (by decide)))
   replace HO := Aside0.mk (show Kd.R (Kd.int .u8) 5 we w.heap.size (fun _ => True) _ (toI (textD code (l.take i) ++ s2 x 0)) by rw [s2_zero]; exact ho)
   replace HB := Aside0.mk hb
   obtain ⟨A3t, n3t, c3t, e3t⟩ := R_any HO.out
   subst e3t
   clear ho hb hk
   have k5_8 : we.cell? ⟨g5, 8, none⟩ = some (.slice A8 x.f4.length c8) := blk_cell K5.out 8
   go_wp2_with fail
   clear k5_8
   go_loopg [3, 58] x.f4.length (fun gk v3 v58 w' => ∃ (j : Nat) (Av : Option Addr) (nv cv : Nat), v3 = .slice Av nv cv ∧ v58 = .int .i64 (j : Nat) ∧ Aside0 (gk + j = x.f4.length) ∧ Aside0 (w'.heap[g5]? = some (.cells #[.int .i64 x.f0, .int .i64 x.f1, .int .i64 x.f2.f0, .int .i64 x.f2.f1, .slice A4 x.f2.f2.length c4, .int .i64 x.f3.f0, .slice A6 x.f3.f1.length c6, .slice A7 x.f3.f2.length c7, .slice A8 x.f4.length c8, .slice A9 x.f5.length c9, .int .i64 x.f6.f0, .int .i64 x.f6.f1, .int .i64 x.f6.f2, .int .i64 x.f6.f3, .int .i64 x.f6.f4, .int .i64 x.f6.f5, .int .i64 x.f6.f6, .int .i64 x.f6.f7] 50 (0, 0))) ∧ Aside0 (Kd.R (Kd.int .u8) 5 w' w.heap.size (fun _ => True) (.slice Av nv cv) (toI (textD code (l.take i) ++ s2 x j))) ∧ Aside0 (Below w.heap.size w w'))
   case atStart => exact ⟨0, _, _, _, rfl, rfl, ⟨by omega⟩, K5, HO, HB⟩
   case round =>
    clear K5 HO HB
    rename World => wq
    obtain ⟨j, Av, nv, cv, rfl, rfl, HGJ, K5, HO, HB⟩ := hrel
    by_cases hlj : j < x.f4.length
    ·obtain ⟨kj, hkj⟩ : ∃ m, gk = m + 1 := ⟨gk - 1, by have := HGJ.out; omega⟩
     subst hkj
     have HLJ := Aside0.mk hlj
     obtain ⟨ad8, cs8, ha8, _, hK8, hcl80⟩ := Kd.C_get HC8.out z53 (j : Int) (by omega) (by omega)
     have hcl8 : ∀ m u, cs8[m]? = some u → w.cell? (ad8.add (j * 5 + m)) = some u := hcl80
     cases ha8
     obtain ⟨y, hy⟩ : ∃ y, y = x.f4.getD (j : Int).toNat z53 := ⟨_, rfl⟩
     rw [← hy] at hK8
     have HYL := Aside0.mk (show y = x.f4[j] by rw [hy, Int.toNat_natCast]; simp [List.getD, hlj])
     have HYO := Aside0.mk (show AckOk y from HOX.out.acks y (by rw [HYL.out]; exact List.getElem_mem hlj))
     have hcs8 := k53_open hK8
     have HCS8 := Aside0.mk hcs8
     have HCL8 := Aside0.mk (show ∀ m u, cs8[m]? = some u → wq.cell? ((ad8.add (j * 5)).add m) = some u from fun m u h => by rw [add_add]; exact (HB.out.cell (World.block_lt_of_cell? w _ (hcl8 m u h))).trans (hcl8 m u h))
     have HSZ8 := Aside0.mk (show (Tryz.prog.info? 53).map (·.size) = some cs8.length by rw [hcs8]; exact isz_53')
     have HSA8 := Aside0.mk (show (Tryz.prog.info? 53).map (·.size) = some cs8.toArray.size by rw [hcs8]; exact isz_53')
     have HOL8 := Aside0.mk (show (#[.int .i64 0, .int .i64 0, .int .i64 0, .int .i64 0, .int .i64 0] : Array Value).size = cs8.toArray.size by rw [hcs8]; rfl)
     have HON8 := Aside0.mk (all_oneCell_toArray (k53.K_one hK8))
     have hu53 := Tryz.underlying53
     have HP0 := Aside0.mk HB.out.size
     have HSL := Aside0.mk (s2_len x j)
     clear hcl80 hcl8 hK8 hcs8 hy
     go_upto_region 11 with (first | ((with_reducible refine gate_dst (N := 61) rfl ?_); refine wpList_load_at rfl 53 (.tmp 60) rfl _ rfl cs8 _ HCL8.out hu53 rfl HSZ8.out ?_) | ((with_reducible refine gate_dst (N := 8) rfl ?_); refine box_event ?hg (N := 8) ?hd (cs := #[.int .i64 0, .int .i64 0, .int .i64 0, .int .i64 0, .int .i64 0]) (t := 53) ?hr ?_; (case hd => rfl); (case hg => rfl); (case hr => first | (go_simp; done) | (go_simp; rfl)); intro g9 hgg wa bk hbb; have K9 := Aside0.mk bk; replace K5 := Aside0.mk (blk_below K5.out hbb); replace HO := Aside0.mk (Kd.R_below HO.out hbb); replace HB := Aside0.mk (below_step HB.out hbb); have HG9 := Aside0.mk (show w.heap.size ≤ g9 by have := HP0.out; omega); clear hgg bk hbb) | ((with_reducible refine gate_store (t := 53) (p := 8) rfl ?_); refine wpList_put_row rfl 53 (.tmp 8) (.tmp 61) rfl g9 cs8.toArray rfl rfl 53 _ K9.out HSA8.out HOL8.out HON8.out ?_; intro wb hkb hbb hkept; have hn59 : ¬ g5 = g9 := (fun e => by have h1 := K5.out; have h2 := K9.out; rw [e, h2] at h1; injection h1 with h1; injection h1 with _ h1; exact absurd h1 (by decide)); replace K5 := Aside0.mk (blk_kept K5.out hkept hn59); replace HO := Aside0.mk (Kd.R_mono (Kd.R_kept (Kd.R_types HO.out K9.out (by decide)) hkept (fun q hq e => hq.2 e)) (fun _ _ => trivial)); replace HB := Aside0.mk (hbb w HB.out HG9.out); rw [ack_reps y cs8 HCS8.out] at hkb; replace K9 := Aside0.mk hkb; clear hkb hbb hkept hn59))
     go_upto_region 11 with fail
     have HSD := Aside0.mk (show wb.drew.heap[g5]? = some (.cells #[.int .i64 x.f0, .int .i64 x.f1, .int .i64 x.f2.f0, .int .i64 x.f2.f1, .slice A4 x.f2.f2.length c4, .int .i64 x.f3.f0, .slice A6 x.f3.f1.length c6, .slice A7 x.f3.f2.length c7, .slice (some ad8) x.f4.length c8, .slice A9 x.f5.length c9, .int .i64 x.f6.f0, .int .i64 x.f6.f1, .int .i64 x.f6.f2, .int .i64 x.f6.f3, .int .i64 x.f6.f4, .int .i64 x.f6.f5, .int .i64 x.f6.f6, .int .i64 x.f6.f7] 50 (0, 0)) ∧ wb.drew.heap[g9]? = some (.cells #[.int .i64 y.f0, .int .i64 y.f1, .int .i64 y.f2, .int .i64 y.f3, .int .i64 y.f4] 53 (0, 0)) ∧ Below w.heap.size w wb.drew from ⟨K5.out, K9.out, below_drew1 HB.out⟩)
     replace HO := Aside0.mk (show Kd.R (Kd.int .u8) 5 wb.drew w.heap.size (fun _ => True) (.slice Av nv cv) (toI (textD code (l.take i) ++ s2 x j)) from HO.out)
     refine start_ (n := 15) (S := fun w' => w'.heap[g5]? = some (.cells #[.int .i64 x.f0, .int .i64 x.f1, .int .i64 x.f2.f0, .int .i64 x.f2.f1, .slice A4 x.f2.f2.length c4, .int .i64 x.f3.f0, .slice A6 x.f3.f1.length c6, .slice A7 x.f3.f2.length c7, .slice (some ad8) x.f4.length c8, .slice A9 x.f5.length c9, .int .i64 x.f6.f0, .int .i64 x.f6.f1, .int .i64 x.f6.f2, .int .i64 x.f6.f3, .int .i64 x.f6.f4, .int .i64 x.f6.f5, .int .i64 x.f6.f6, .int .i64 x.f6.f7] 50 (0, 0)) ∧ w'.heap[g9]? = some (.cells #[.int .i64 y.f0, .int .i64 y.f1, .int .i64 y.f2, .int .i64 y.f3, .int .i64 y.f4] 53 (0, 0)) ∧ Below w.heap.size w w') (ds := []) #[false, false, false, false, false, false, false, false, false, false, false, false, false, false, false] (by kernel_rfl) rfl rfl HSD.out (fun hHeld => ?_); refine with_tabW sp11.tab sp11.bits (fun HT_ HW_ => ?_)
     generalize hw9 : wb.drew = w9 at hHeld HO ⊢
     clear hw9 HSD HB K5 K9
     refine pure_ (i := 0) (N := some 62) (v := ?_) (a' := ?_) #[true, false, false, false, false, false, false, false, false, false, false, false, false, false, false] rfl rfl (any_of HT_.out (by kernel_rfl)) (fun _ _ _ h => h) (Or.inl ⟨by rfl, ?_⟩) ?_ ?_
     rotate_left
     ·intro w'
      go_simp
      with_reducible rfl
     rotate_left
     ·simp only [Act.put, List.setIfInBounds_toArray, List.set_cons_zero, List.set_cons_succ, i64_w, i32_w]
      rfl
     refine pure_ (i := 2) (N := some 64) (v := ?_) (a' := ?_) #[true, false, true, false, false, false, false, false, false, false, false, false, false, false, false] rfl rfl (any_of HT_.out (by kernel_rfl)) (fun _ _ _ h => h) (Or.inl ⟨by rfl, ?_⟩) ?_ ?_
     rotate_left
     ·intro w'
      go_simp
      with_reducible rfl
     rotate_left
     ·simp only [Act.put, List.setIfInBounds_toArray, List.set_cons_zero, List.set_cons_succ, i64_w, i32_w]
      rfl
     refine pure_ (i := 4) (N := some 66) (v := ?_) (a' := ?_) #[true, false, true, false, true, false, false, false, false, false, false, false, false, false, false] rfl rfl (any_of HT_.out (by kernel_rfl)) (fun _ _ _ h => h) (Or.inl ⟨by rfl, ?_⟩) ?_ ?_
     rotate_left
     ·intro w'
      go_simp
      with_reducible rfl
     rotate_left
     ·simp only [Act.put, List.setIfInBounds_toArray, List.set_cons_zero, List.set_cons_succ, i64_w, i32_w]
      rfl
     refine pure_ (i := 6) (N := some 68) (v := ?_) (a' := ?_) #[true, false, true, false, true, false, true, false, false, false, false, false, false, false, false] rfl rfl (any_of HT_.out (by kernel_rfl)) (fun _ _ _ h => h) (Or.inl ⟨by rfl, ?_⟩) ?_ ?_
     rotate_left
     ·intro w'
      go_simp
      with_reducible rfl
     rotate_left
     ·simp only [Act.put, List.setIfInBounds_toArray, List.set_cons_zero, List.set_cons_succ, i64_w, i32_w]
      rfl
     refine pure_ (i := 8) (N := some 70) (v := ?_) (a' := ?_) #[true, false, true, false, true, false, true, false, true, false, false, false, false, false, false] rfl rfl (any_of HT_.out (by kernel_rfl)) (fun _ _ _ h => h) (Or.inl ⟨by rfl, ?_⟩) ?_ ?_
     rotate_left
     ·intro w'
      go_simp
      with_reducible rfl
     rotate_left
     ·simp only [Act.put, List.setIfInBounds_toArray, List.set_cons_zero, List.set_cons_succ, i64_w, i32_w]
      rfl
     refine pure_ (i := 10) (N := some 72) (v := ?_) (a' := ?_) #[true, false, true, false, true, false, true, false, true, false, true, false, false, false, false] rfl rfl (any_of HT_.out (by kernel_rfl)) (fun _ _ _ h => h) (Or.inl ⟨by rfl, ?_⟩) ?_ ?_
     rotate_left
     ·intro w'
      go_simp
      with_reducible rfl
     rotate_left
     ·simp only [Act.put, List.setIfInBounds_toArray, List.set_cons_zero, List.set_cons_succ, i64_w, i32_w]
      rfl
     refine take_ (i := 3) (N := some 65) (v := ?_) (a' := ?_) #[true, false, true, true, true, false, true, false, true, false, true, false, false, false, false] rfl rfl (take_ofW HT_.out HW_.out (by kernel_rfl)) (fun _ _ _ h => h) (Or.inl ⟨by rfl, ?_⟩) hHeld ?_ ?_
     rotate_left
     ·rintro w' ⟨hblk0, hblk1, _⟩
      have s0 : w'.cell? ⟨g9, 0, none⟩ = some (.int .i64 y.f0) := blk_cell hblk1 0
      clear hblk0 hblk1
      go_simp
      with_reducible rfl
     rotate_left
     ·simp only [Act.put, List.setIfInBounds_toArray, List.set_cons_zero, List.set_cons_succ, i64_w, i32_w]
      rfl
     refine take_ (i := 5) (N := some 67) (v := ?_) (a' := ?_) #[true, false, true, true, true, true, true, false, true, false, true, false, false, false, false] rfl rfl (take_ofW HT_.out HW_.out (by kernel_rfl)) (fun _ _ _ h => h) (Or.inl ⟨by rfl, ?_⟩) hHeld ?_ ?_
     rotate_left
     ·rintro w' ⟨hblk0, hblk1, _⟩
      have s0 : w'.cell? ⟨g9, 1, none⟩ = some (.int .i64 y.f1) := blk_cell hblk1 1
      clear hblk0 hblk1
      go_simp
      with_reducible rfl
     rotate_left
     ·simp only [Act.put, List.setIfInBounds_toArray, List.set_cons_zero, List.set_cons_succ, i64_w, i32_w]
      rfl
     refine take_ (i := 7) (N := some 69) (v := ?_) (a' := ?_) #[true, false, true, true, true, true, true, true, true, false, true, false, false, false, false] rfl rfl (take_ofW HT_.out HW_.out (by kernel_rfl)) (fun _ _ _ h => h) (Or.inl ⟨by rfl, ?_⟩) hHeld ?_ ?_
     rotate_left
     ·rintro w' ⟨hblk0, hblk1, _⟩
      have s0 : w'.cell? ⟨g9, 2, none⟩ = some (.int .i64 y.f2) := blk_cell hblk1 2
      clear hblk0 hblk1
      go_simp
      with_reducible rfl
     rotate_left
     ·simp only [Act.put, List.setIfInBounds_toArray, List.set_cons_zero, List.set_cons_succ, i64_w, i32_w]
      rfl
     refine take_ (i := 9) (N := some 71) (v := ?_) (a' := ?_) #[true, false, true, true, true, true, true, true, true, true, true, false, false, false, false] rfl rfl (take_ofW HT_.out HW_.out (by kernel_rfl)) (fun _ _ _ h => h) (Or.inl ⟨by rfl, ?_⟩) hHeld ?_ ?_
     rotate_left
     ·rintro w' ⟨hblk0, hblk1, _⟩
      have s0 : w'.cell? ⟨g9, 3, none⟩ = some (.int .i64 y.f3) := blk_cell hblk1 3
      clear hblk0 hblk1
      go_simp
      with_reducible rfl
     rotate_left
     ·simp only [Act.put, List.setIfInBounds_toArray, List.set_cons_zero, List.set_cons_succ, i64_w, i32_w]
      rfl
     refine take_ (i := 11) (N := some 73) (v := ?_) (a' := ?_) #[true, false, true, true, true, true, true, true, true, true, true, true, false, false, false] rfl rfl (take_ofW HT_.out HW_.out (by kernel_rfl)) (fun _ _ _ h => h) (Or.inl ⟨by rfl, ?_⟩) hHeld ?_ ?_
     rotate_left
     ·rintro w' ⟨hblk0, hblk1, _⟩
      have s0 : w'.cell? ⟨g9, 4, none⟩ = some (.int .i64 y.f4) := blk_cell hblk1 4
      clear hblk0 hblk1
      go_simp
      with_reducible rfl
     rotate_left
     ·simp only [Act.put, List.setIfInBounds_toArray, List.set_cons_zero, List.set_cons_succ, i64_w, i32_w]
      rfl
     refine join_ (σ := Value × Value) 2 #[true, true, true, true, true, true, true, true, true, true, true, true, true, false, false] (fun s => [(63, s.1), (74, s.2)]) (fun s w' => Kd.R (Kd.int .u8) 5 w' w.heap.size (fun _ => True) s.1 (toI (textD code (l.take i) ++ s2 x j ++ [32, 97, 58])) ∧ (∃ (A : Option Addr) (n c : Nat), s.2 = .slice A n c ∧ Kd.R (Kd.int .i64) 3 w' w.heap.size (fun _ => True) (.slice A n c) [y.f0, y.f1, y.f2, y.f3, y.f4]) ∧ (w'.heap[g5]? = some (.cells #[.int .i64 x.f0, .int .i64 x.f1, .int .i64 x.f2.f0, .int .i64 x.f2.f1, .slice A4 x.f2.f2.length c4, .int .i64 x.f3.f0, .slice A6 x.f3.f1.length c6, .slice A7 x.f3.f2.length c7, .slice (some ad8) x.f4.length c8, .slice A9 x.f5.length c9, .int .i64 x.f6.f0, .int .i64 x.f6.f1, .int .i64 x.f6.f2, .int .i64 x.f6.f3, .int .i64 x.f6.f4, .int .i64 x.f6.f5, .int .i64 x.f6.f6, .int .i64 x.f6.f7] 50 (0, 0)) ∧ w'.heap[g9]? = some (.cells #[.int .i64 y.f0, .int .i64 y.f1, .int .i64 y.f2, .int .i64 y.f3, .int .i64 y.f4] 53 (0, 0)) ∧ Below w.heap.size w w')) ?_ ?_
     rotate_left
     ·intro hCont
      refine two_ (i := 1) (j := 12) (Ni := some 63) (Nj := some 74) #[true, true, true, true, true, true, true, true, true, true, true, true, false, false, false] #[true, false, true, true, true, true, true, true, true, true, true, true, true, false, false] rfl rfl rfl rfl (two_of HT_.out (by kernel_rfl)) (by decide) (by decide) (fun K hK => ?_) (fun K hK => ?_)
      ·skip
       refine step_str (w0 := w) (by rfl) (.tmp 62) _ rfl _ (textD code (l.take i) ++ s2 x j) _ rfl rfl HO.out hHeld.2.2 (by have := HLN.out; have := HSL.out; simp only [Lib.size_eq, List.length_append, List.length_cons, List.length_nil]; omega) ?_
       intro vA wA hr hb hk
       have HOA := Aside0.mk hr
       refine hK.out _ _ ⟨blk_kept hHeld.1 hk (T5.not hHeld.1 (by decide)), blk_kept hHeld.2.1 hk (T5.not hHeld.2.1 (by decide)), hb⟩ (fun hHeld => ?_)
       clear hK K hr hb hk HO
       refine norm_ (a' := ?_) ?_ ?_
       rotate_left
       ·show Act.put _ (some 63) _ = _
        simp only [Act.put, List.setIfInBounds_toArray, List.set_cons_zero, List.set_cons_succ, i64_w, i32_w]
        rfl
       refine one_ (i := 12) (N := some 74) #[true, true, true, true, true, true, true, true, true, true, true, true, true, false, false] rfl rfl (one_of HT_.out (by kernel_rfl)) (by decide) (fun K hK => ?_)
       refine Kd.R_lit_step (Kd.int .i64) (w0 := w) w.heap.size 3 ?hg (N := 74) ?hd (xs := [y.f0, y.f1, y.f2, y.f3, y.f4]) (inner := [.int .i64 y.f0, .int .i64 y.f1, .int .i64 y.f2, .int .i64 y.f3, .int .i64 y.f4]) (ok := fun _ => True) (okp := fun _ => True) ?hr ?hp (fun _ hk => hk) trivial hHeld.2.2 hHeld.2.2.size (by simp) ?_; (case hd => rfl); (case hg => rfl); (case hr => first | (go_simp; done) | (go_simp; rfl)); (case hp => exact Reps.one (show Kd.M (Kd.int .i64) _ _ _ (y.f0) [.int .i64 (y.f0)] from rfl) (Reps.one (show Kd.M (Kd.int .i64) _ _ _ (y.f1) [.int .i64 (y.f1)] from rfl) (Reps.one (show Kd.M (Kd.int .i64) _ _ _ (y.f2) [.int .i64 (y.f2)] from rfl) (Reps.one (show Kd.M (Kd.int .i64) _ _ _ (y.f3) [.int .i64 (y.f3)] from rfl) (Reps.one (show Kd.M (Kd.int .i64) _ _ _ (y.f4) [.int .i64 (y.f4)] from rfl) (Reps.none _ _))))))
       intro vL wL hrL hbL hgL _
       have hbw := grown_below hgL
       obtain ⟨AL, nL, cL, eL⟩ := R_any hrL
       subst eL
       have HOF := Aside0.mk (Kd.R_below HOA.out hbw)
       have HIF := Aside0.mk hrL
       refine hK.out _ _ ⟨blk_below hHeld.1 hbw, blk_below hHeld.2.1 hbw, below_step hHeld.2.2 hbw⟩ (fun hHeld => ?_)
       clear hK K hrL hbL hgL hbw HOA
       refine norm_ (a' := ?_) ?_ ?_
       rotate_left
       ·show Act.put _ (some 74) _ = _
        simp only [Act.put, List.setIfInBounds_toArray, List.set_cons_zero, List.set_cons_succ, i64_w, i32_w]
        rfl
       exact norm_ (by first | (simp only [putAll, Act.put, List.setIfInBounds_toArray, List.set_cons_zero, List.set_cons_succ]; done) | (simp only [putAll, Act.put, List.setIfInBounds_toArray, List.set_cons_zero, List.set_cons_succ]; rfl)) (hCont (vA, .slice AL nL cL) _ ⟨HOF.out, ⟨AL, nL, cL, rfl, HIF.out⟩, hHeld⟩)
      ·skip
       refine Kd.R_lit_step (Kd.int .i64) (w0 := w) w.heap.size 3 ?hg (N := 74) ?hd (xs := [y.f0, y.f1, y.f2, y.f3, y.f4]) (inner := [.int .i64 y.f0, .int .i64 y.f1, .int .i64 y.f2, .int .i64 y.f3, .int .i64 y.f4]) (ok := fun _ => True) (okp := fun _ => True) ?hr ?hp (fun _ hk => hk) trivial hHeld.2.2 hHeld.2.2.size (by simp) ?_; (case hd => rfl); (case hg => rfl); (case hr => first | (go_simp; done) | (go_simp; rfl)); (case hp => exact Reps.one (show Kd.M (Kd.int .i64) _ _ _ (y.f0) [.int .i64 (y.f0)] from rfl) (Reps.one (show Kd.M (Kd.int .i64) _ _ _ (y.f1) [.int .i64 (y.f1)] from rfl) (Reps.one (show Kd.M (Kd.int .i64) _ _ _ (y.f2) [.int .i64 (y.f2)] from rfl) (Reps.one (show Kd.M (Kd.int .i64) _ _ _ (y.f3) [.int .i64 (y.f3)] from rfl) (Reps.one (show Kd.M (Kd.int .i64) _ _ _ (y.f4) [.int .i64 (y.f4)] from rfl) (Reps.none _ _))))))
       intro vL wL hrL hbL hgL _
       have hbw := grown_below hgL
       obtain ⟨AL, nL, cL, eL⟩ := R_any hrL
       subst eL
       replace HO := Aside0.mk (Kd.R_below HO.out hbw)
       have HIA := Aside0.mk hrL
       refine hK.out _ _ ⟨blk_below hHeld.1 hbw, blk_below hHeld.2.1 hbw, below_step hHeld.2.2 hbw⟩ (fun hHeld => ?_)
       clear hK K hrL hbL hgL hbw
       refine norm_ (a' := ?_) ?_ ?_
       rotate_left
       ·show Act.put _ (some 74) _ = _
        simp only [Act.put, List.setIfInBounds_toArray, List.set_cons_zero, List.set_cons_succ, i64_w, i32_w]
        rfl
       refine one_ (i := 1) (N := some 63) #[true, true, true, true, true, true, true, true, true, true, true, true, true, false, false] rfl rfl (one_of HT_.out (by kernel_rfl)) (by decide) (fun K hK => ?_)
       refine step_str (w0 := w) (by rfl) (.tmp 62) _ rfl _ (textD code (l.take i) ++ s2 x j) _ rfl rfl HO.out hHeld.2.2 (by have := HLN.out; have := HSL.out; simp only [Lib.size_eq, List.length_append, List.length_cons, List.length_nil]; omega) ?_
       intro vA wA hr hb hk
       have HOA := Aside0.mk hr
       have HOF := HOA
       have HIF := Aside0.mk (ints_kept HIA.out hk)
       refine hK.out _ _ ⟨blk_kept hHeld.1 hk (T5.not hHeld.1 (by decide)), blk_kept hHeld.2.1 hk (T5.not hHeld.2.1 (by decide)), hb⟩ (fun hHeld => ?_)
       clear hK K hr hb hk HO HIA HOA
       refine norm_ (a' := ?_) ?_ ?_
       rotate_left
       ·show Act.put _ (some 63) _ = _
        simp only [Act.put, List.setIfInBounds_toArray, List.set_cons_zero, List.set_cons_succ, i64_w, i32_w]
        rfl
       exact norm_ (by first | (simp only [putAll, Act.put, List.setIfInBounds_toArray, List.set_cons_zero, List.set_cons_succ]; done) | (simp only [putAll, Act.put, List.setIfInBounds_toArray, List.set_cons_zero, List.set_cons_succ]; rfl)) (hCont (vA, .slice AL nL cL) _ ⟨HOF.out, ⟨AL, nL, cL, rfl, HIF.out⟩, hHeld⟩)
     rintro ⟨vA, vB⟩ wJ ⟨hO, ⟨AL, nL, cL, eL, hI⟩, hHeld⟩
     obtain rfl : vB = .slice AL nL cL := eL
     have HO := Aside0.mk hO
     have HI := Aside0.mk hI
     have hnL := (Kd.R_reads' hI).1
     subst hnL
     clear hO hI
     refine norm_ (a' := ?_) ?_ ?_
     rotate_left
     ·simp only [putAll, Act.put, List.setIfInBounds_toArray, List.set_cons_zero, List.set_cons_succ]
      rfl
     refine one_ (i := 13) (N := some 75) #[true, true, true, true, true, true, true, true, true, true, true, true, true, true, false] rfl rfl (one_of HT_.out (by kernel_rfl)) (by decide) (fun K hK => ?_)
     refine goes_ Tryz.func15 (by kernel_rfl) rfl #[vA, .int .u8 58, .slice AL ([y.f0, y.f1, y.f2, y.f3, y.f4] : List Int).length cL] (by rfl) rfl rfl (by (try simp only [List.map_toArray, List.map_cons, List.map_nil]); first | done | rfl) ?_
     refine (join_ownz w wJ vA (textD code (l.take i) ++ s2 x j ++ [32, 97, 58]) 58 58 rfl (y.f0) [y.f1, y.f2, y.f3, y.f4] AL cL hHeld.2.2 HO.out HI.out HYO.out (by simp) (by have := HLN.out; have := HSL.out; simp only [Lib.size_eq, List.length_append, List.length_cons, List.length_nil]; omega)).mono ?_
     rintro e wC ⟨vC, rfl, hr, hb, hk⟩
     refine ⟨_, rfl, ?_⟩
     replace HO := Aside0.mk (show Kd.R (Kd.int .u8) 5 wC w.heap.size (fun _ => True) vC (toI (textD code (l.take i) ++ s2 x (j + 1))) from (by rw [s2_step x j HLJ.out y HYL.out]; have := hr; simpa [ackInts, joinD] using this))
     refine hK.out _ _ ⟨blk_kept hHeld.1 hk (T5.not hHeld.1 (by decide)), blk_kept hHeld.2.1 hk (T5.not hHeld.2.1 (by decide)), hb⟩ (fun hHeld => ?_)
     clear hK K hr hb hk HI
     refine norm_ (a' := ?_) ?_ ?_
     rotate_left
     ·show Act.put _ (some 75) _ = _
      simp only [Act.put, List.setIfInBounds_toArray, List.set_cons_zero, List.set_cons_succ, i64_w, i32_w]
      rfl
     refine pure_ (i := 14) (N := some 3) (v := ?_) (a' := ?_) #[true, true, true, true, true, true, true, true, true, true, true, true, true, true, true] rfl rfl (any_of HT_.out (by kernel_rfl)) (fun _ _ _ h => h) (Or.inl ⟨by rfl, ?_⟩) ?_ ?_
     rotate_left
     ·intro w'
      go_simp
      with_reducible rfl
     rotate_left
     ·simp only [Act.put, List.setIfInBounds_toArray, List.set_cons_zero, List.set_cons_succ, i64_w, i32_w]
      rfl
     refine done_ (done_of HT_.out (by kernel_rfl)) ?_
     have K5 := Aside0.mk hHeld.1
     have K9 := Aside0.mk hHeld.2.1
     have HB := Aside0.mk hHeld.2.2
     clear hHeld
     try go_wp2
     obtain ⟨An, nn, cn, en⟩ := R_any HO.out
     subst en
     go_roundg kj
     case measure => omega
     case rel => exact ⟨j + 1, _, _, _, rfl, by rw [w64n (by have := HOX.out.l4; have := HLJ.out; omega)], ⟨by have := HGJ.out; omega⟩, K5, HO, HB⟩
    ·have HJE := Aside0.mk (show j = x.f4.length by have := HGJ.out; omega)
     have tlj : decide (j < x.f4.length) = false := decide_eq_false hlj
     replace HO := Aside0.mk (show Kd.R (Kd.int .u8) 5 wq w.heap.size (fun _ => True) (.slice Av nv cv) (toI (textD code (l.take i) ++ s2 x x.f4.length)) by have := HO.out; rw [HJE.out] at this; exact this)
     clear hlj HJE HGJ
     have k5_2 : wq.cell? ⟨g5, 2, none⟩ = some (.int .i64 x.f2.f0) := blk_cell K5.out 2
     have k5_3 : wq.cell? ⟨g5, 3, none⟩ = some (.int .i64 x.f2.f1) := blk_cell K5.out 3
     have k5_4 : wq.cell? ⟨g5, 4, none⟩ = some (.slice A4 x.f2.f2.length c4) := blk_cell K5.out 4
     go_upto_region 13 with fail
     go_cut [93] (fun v93 W => v93 = .bool (decide (itemOn x)) ∧ wq = W)
     case first =>
      by_cases e0 : x.f2.f0 = 0
      ·skip
       by_cases e1 : x.f2.f1 = 0
       ·skip
        by_cases e2 : x.f2.f2.length = 0
        ·skip
         go_wp2_with fail
         go_meet
         exact ⟨by rw [decide_eq_false (show ¬ itemOn x from fun h => by unfold itemOn at h; omega)], rfl⟩
        ·have e3 : 0 < x.f2.f2.length := by omega
         have t2 : decide (0 < x.f2.f2.length) = true := decide_eq_true e3
         go_wp2_with fail
         go_meet
         exact ⟨by rw [decide_eq_true (show itemOn x from .inr (.inr e3))], rfl⟩
       ·have t1 : (x.f2.f1 == (0 : Int)) = false := by simpa using e1
        go_wp2_with fail
        go_meet
        exact ⟨by rw [decide_eq_true (show itemOn x from .inr (.inl e1))], rfl⟩
      ·have t0 : (x.f2.f0 == (0 : Int)) = false := by simpa using e0
       go_wp2_with fail
       go_meet
       exact ⟨by rw [decide_eq_true (show itemOn x from .inl e0)], rfl⟩
     case rest =>
      obtain ⟨rfl, rfl⟩ := hcut
      obtain ⟨q, hq⟩ : ∃ q, q = decide (itemOn x) := ⟨_, rfl⟩
      rw [← hq]
      have HQ := Aside0.mk hq
      have HSL := Aside0.mk (s2_len x x.f4.length)
      clear hq k5_2 k5_3 k5_4
      go_upto_if 93 with fail

      go_cut [3] (fun v3 W => ∃ (Av : Option Addr) (nv cv : Nat) (Wn : World), Wn = W ∧ v3 = .slice Av nv cv ∧ Aside0 (Wn.heap[g5]? = some (.cells #[.int .i64 x.f0, .int .i64 x.f1, .int .i64 x.f2.f0, .int .i64 x.f2.f1, .slice A4 x.f2.f2.length c4, .int .i64 x.f3.f0, .slice A6 x.f3.f1.length c6, .slice A7 x.f3.f2.length c7, .slice A8 x.f4.length c8, .slice A9 x.f5.length c9, .int .i64 x.f6.f0, .int .i64 x.f6.f1, .int .i64 x.f6.f2, .int .i64 x.f6.f3, .int .i64 x.f6.f4, .int .i64 x.f6.f5, .int .i64 x.f6.f6, .int .i64 x.f6.f7] 50 (0, 0))) ∧ Aside0 (Kd.R (Kd.int .u8) 5 Wn w.heap.size (fun _ => True) (.slice Av nv cv) (toI (textD code (l.take i) ++ s3 x))) ∧ Aside0 (Below w.heap.size w Wn))
      case first =>
       cases q with
       | true =>
        obtain ⟨M, hM⟩ : ∃ M, M = textD code (l.take i) ++ s2 x x.f4.length ++ ([32, 105, 58] ++ joinD [x.f2.f0, x.f2.f1]) := ⟨_, rfl⟩
        have HM := Aside0.mk hM
        have HML := Aside0.mk (item_room _ _ (of_decide_eq_true HQ.out.symm) _ hM HLN.out)
        clear hM
        go_upto_region 14 with fail
        have HSD := Aside0.mk (show wq.drew.heap[g5]? = some (.cells #[.int .i64 x.f0, .int .i64 x.f1, .int .i64 x.f2.f0, .int .i64 x.f2.f1, .slice A4 x.f2.f2.length c4, .int .i64 x.f3.f0, .slice A6 x.f3.f1.length c6, .slice A7 x.f3.f2.length c7, .slice A8 x.f4.length c8, .slice A9 x.f5.length c9, .int .i64 x.f6.f0, .int .i64 x.f6.f1, .int .i64 x.f6.f2, .int .i64 x.f6.f3, .int .i64 x.f6.f4, .int .i64 x.f6.f5, .int .i64 x.f6.f6, .int .i64 x.f6.f7] 50 (0, 0)) ∧ Below w.heap.size w wq.drew from ⟨K5.out, below_drew1 HB.out⟩)
        replace HO := Aside0.mk (show Kd.R (Kd.int .u8) 5 wq.drew w.heap.size (fun _ => True) (.slice Av nv cv) (toI (textD code (l.take i) ++ s2 x x.f4.length)) from HO.out)
        refine start_ (n := 11) (S := fun w' => w'.heap[g5]? = some (.cells #[.int .i64 x.f0, .int .i64 x.f1, .int .i64 x.f2.f0, .int .i64 x.f2.f1, .slice A4 x.f2.f2.length c4, .int .i64 x.f3.f0, .slice A6 x.f3.f1.length c6, .slice A7 x.f3.f2.length c7, .slice A8 x.f4.length c8, .slice A9 x.f5.length c9, .int .i64 x.f6.f0, .int .i64 x.f6.f1, .int .i64 x.f6.f2, .int .i64 x.f6.f3, .int .i64 x.f6.f4, .int .i64 x.f6.f5, .int .i64 x.f6.f6, .int .i64 x.f6.f7] 50 (0, 0)) ∧ Below w.heap.size w w') (ds := []) #[false, false, false, false, false, false, false, false, false, false, false] (by kernel_rfl) rfl rfl HSD.out (fun hHeld => ?_); refine with_tabW sp14.tab sp14.bits (fun HT_ HW_ => ?_)
        generalize hw9 : wq.drew = w9 at hHeld HO ⊢
        clear hw9 HSD HB K5
        refine pure_ (i := 0) (N := some 94) (v := ?_) (a' := ?_) #[true, false, false, false, false, false, false, false, false, false, false] rfl rfl (any_of HT_.out (by kernel_rfl)) (fun _ _ _ h => h) (Or.inl ⟨by rfl, ?_⟩) ?_ ?_
        rotate_left
        ·intro w'
         go_simp
         with_reducible rfl
        rotate_left
        ·simp only [Act.put, List.setIfInBounds_toArray, List.set_cons_zero, List.set_cons_succ, i64_w, i32_w]
         rfl
        refine pure_ (i := 2) (N := some 96) (v := ?_) (a' := ?_) #[true, false, true, false, false, false, false, false, false, false, false] rfl rfl (any_of HT_.out (by kernel_rfl)) (fun _ _ _ h => h) (Or.inl ⟨by rfl, ?_⟩) ?_ ?_
        rotate_left
        ·intro w'
         go_simp
         with_reducible rfl
        rotate_left
        ·simp only [Act.put, List.setIfInBounds_toArray, List.set_cons_zero, List.set_cons_succ, i64_w, i32_w]
         rfl
        refine pure_ (i := 3) (N := some 97) (v := ?_) (a' := ?_) #[true, false, true, true, false, false, false, false, false, false, false] rfl rfl (any_of HT_.out (by kernel_rfl)) (fun _ _ _ h => h) (Or.inl ⟨by rfl, ?_⟩) ?_ ?_
        rotate_left
        ·intro w'
         go_simp
         with_reducible rfl
        rotate_left
        ·simp only [Act.put, List.setIfInBounds_toArray, List.set_cons_zero, List.set_cons_succ, i64_w, i32_w]
         rfl
        refine pure_ (i := 5) (N := some 99) (v := ?_) (a' := ?_) #[true, false, true, true, false, true, false, false, false, false, false] rfl rfl (any_of HT_.out (by kernel_rfl)) (fun _ _ _ h => h) (Or.inl ⟨by rfl, ?_⟩) ?_ ?_
        rotate_left
        ·intro w'
         go_simp
         with_reducible rfl
        rotate_left
        ·simp only [Act.put, List.setIfInBounds_toArray, List.set_cons_zero, List.set_cons_succ, i64_w, i32_w]
         rfl
        refine pure_ (i := 6) (N := some 100) (v := ?_) (a' := ?_) #[true, false, true, true, false, true, true, false, false, false, false] rfl rfl (any_of HT_.out (by kernel_rfl)) (fun _ _ _ h => h) (Or.inl ⟨by rfl, ?_⟩) ?_ ?_
        rotate_left
        ·intro w'
         go_simp
         with_reducible rfl
        rotate_left
        ·simp only [Act.put, List.setIfInBounds_toArray, List.set_cons_zero, List.set_cons_succ, i64_w, i32_w]
         rfl
        refine take_ (i := 4) (N := some 98) (v := ?_) (a' := ?_) #[true, false, true, true, true, true, true, false, false, false, false] rfl rfl (take_ofW HT_.out HW_.out (by kernel_rfl)) (fun _ _ _ h => h) (Or.inl ⟨by rfl, ?_⟩) hHeld ?_ ?_
        rotate_left
        ·rintro w' ⟨hblk0, _⟩
         have s0 : w'.cell? ⟨g5, 2, none⟩ = some (.int .i64 x.f2.f0) := blk_cell hblk0 2
         clear hblk0
         go_simp
         with_reducible rfl
        rotate_left
        ·simp only [Act.put, List.setIfInBounds_toArray, List.set_cons_zero, List.set_cons_succ, i64_w, i32_w]
         rfl
        refine take_ (i := 7) (N := some 101) (v := ?_) (a' := ?_) #[true, false, true, true, true, true, true, true, false, false, false] rfl rfl (take_ofW HT_.out HW_.out (by kernel_rfl)) (fun _ _ _ h => h) (Or.inl ⟨by rfl, ?_⟩) hHeld ?_ ?_
        rotate_left
        ·rintro w' ⟨hblk0, _⟩
         have s0 : w'.cell? ⟨g5, 3, none⟩ = some (.int .i64 x.f2.f1) := blk_cell hblk0 3
         clear hblk0
         go_simp
         with_reducible rfl
        rotate_left
        ·simp only [Act.put, List.setIfInBounds_toArray, List.set_cons_zero, List.set_cons_succ, i64_w, i32_w]
         rfl
        refine join_ (σ := Value × Value) 2 #[true, true, true, true, true, true, true, true, true, false, false] (fun s => [(95, s.1), (102, s.2)]) (fun s w' => Kd.R (Kd.int .u8) 5 w' w.heap.size (fun _ => True) s.1 (toI (textD code (l.take i) ++ s2 x x.f4.length ++ [32, 105, 58])) ∧ (∃ (A : Option Addr) (n c : Nat), s.2 = .slice A n c ∧ Kd.R (Kd.int .i64) 3 w' w.heap.size (fun _ => True) (.slice A n c) [x.f2.f0, x.f2.f1]) ∧ (w'.heap[g5]? = some (.cells #[.int .i64 x.f0, .int .i64 x.f1, .int .i64 x.f2.f0, .int .i64 x.f2.f1, .slice A4 x.f2.f2.length c4, .int .i64 x.f3.f0, .slice A6 x.f3.f1.length c6, .slice A7 x.f3.f2.length c7, .slice A8 x.f4.length c8, .slice A9 x.f5.length c9, .int .i64 x.f6.f0, .int .i64 x.f6.f1, .int .i64 x.f6.f2, .int .i64 x.f6.f3, .int .i64 x.f6.f4, .int .i64 x.f6.f5, .int .i64 x.f6.f6, .int .i64 x.f6.f7] 50 (0, 0)) ∧ Below w.heap.size w w')) ?_ ?_
        rotate_left
        ·intro hCont
         refine two_ (i := 1) (j := 8) (Ni := some 95) (Nj := some 102) #[true, true, true, true, true, true, true, true, false, false, false] #[true, false, true, true, true, true, true, true, true, false, false] rfl rfl rfl rfl (two_of HT_.out (by kernel_rfl)) (by decide) (by decide) (fun K hK => ?_) (fun K hK => ?_)
         ·skip
          refine step_str (w0 := w) (by rfl) (.tmp 94) _ rfl _ (textD code (l.take i) ++ s2 x x.f4.length) _ rfl rfl HO.out hHeld.2 (by have := HLN.out; have := HSL.out; simp only [Lib.size_eq, List.length_append, List.length_cons, List.length_nil]; omega) ?_
          intro vA wA hr hb hk
          have HOA := Aside0.mk hr
          refine hK.out _ _ ⟨blk_kept hHeld.1 hk (T5.not hHeld.1 (by decide)), hb⟩ (fun hHeld => ?_)
          clear hK K hr hb hk HO
          refine norm_ (a' := ?_) ?_ ?_
          rotate_left
          ·show Act.put _ (some 95) _ = _
           simp only [Act.put, List.setIfInBounds_toArray, List.set_cons_zero, List.set_cons_succ, i64_w, i32_w]
           rfl
          refine one_ (i := 8) (N := some 102) #[true, true, true, true, true, true, true, true, true, false, false] rfl rfl (one_of HT_.out (by kernel_rfl)) (by decide) (fun K hK => ?_)
          refine Kd.R_lit_step (Kd.int .i64) (w0 := w) w.heap.size 3 ?hg (N := 102) ?hd (xs := [x.f2.f0, x.f2.f1]) (inner := [.int .i64 x.f2.f0, .int .i64 x.f2.f1]) (ok := fun _ => True) (okp := fun _ => True) ?hr ?hp (fun _ hk => hk) trivial hHeld.2 hHeld.2.size (by simp) ?_; (case hd => rfl); (case hg => rfl); (case hr => first | (go_simp; done) | (go_simp; rfl)); (case hp => exact Reps.one (show Kd.M (Kd.int .i64) _ _ _ (x.f2.f0) [.int .i64 (x.f2.f0)] from rfl) (Reps.one (show Kd.M (Kd.int .i64) _ _ _ (x.f2.f1) [.int .i64 (x.f2.f1)] from rfl) (Reps.none _ _)))
          intro vL wL hrL hbL hgL _
          have hbw := grown_below hgL
          obtain ⟨AL, nL, cL, eL⟩ := R_any hrL
          subst eL
          have HOF := Aside0.mk (Kd.R_below HOA.out hbw)
          have HIF := Aside0.mk hrL
          refine hK.out _ _ ⟨blk_below hHeld.1 hbw, below_step hHeld.2 hbw⟩ (fun hHeld => ?_)
          clear hK K hrL hbL hgL hbw HOA
          refine norm_ (a' := ?_) ?_ ?_
          rotate_left
          ·show Act.put _ (some 102) _ = _
           simp only [Act.put, List.setIfInBounds_toArray, List.set_cons_zero, List.set_cons_succ, i64_w, i32_w]
           rfl
          exact norm_ (by first | (simp only [putAll, Act.put, List.setIfInBounds_toArray, List.set_cons_zero, List.set_cons_succ]; done) | (simp only [putAll, Act.put, List.setIfInBounds_toArray, List.set_cons_zero, List.set_cons_succ]; rfl)) (hCont (vA, .slice AL nL cL) _ ⟨HOF.out, ⟨AL, nL, cL, rfl, HIF.out⟩, hHeld⟩)
         ·skip
          refine Kd.R_lit_step (Kd.int .i64) (w0 := w) w.heap.size 3 ?hg (N := 102) ?hd (xs := [x.f2.f0, x.f2.f1]) (inner := [.int .i64 x.f2.f0, .int .i64 x.f2.f1]) (ok := fun _ => True) (okp := fun _ => True) ?hr ?hp (fun _ hk => hk) trivial hHeld.2 hHeld.2.size (by simp) ?_; (case hd => rfl); (case hg => rfl); (case hr => first | (go_simp; done) | (go_simp; rfl)); (case hp => exact Reps.one (show Kd.M (Kd.int .i64) _ _ _ (x.f2.f0) [.int .i64 (x.f2.f0)] from rfl) (Reps.one (show Kd.M (Kd.int .i64) _ _ _ (x.f2.f1) [.int .i64 (x.f2.f1)] from rfl) (Reps.none _ _)))
          intro vL wL hrL hbL hgL _
          have hbw := grown_below hgL
          obtain ⟨AL, nL, cL, eL⟩ := R_any hrL
          subst eL
          replace HO := Aside0.mk (Kd.R_below HO.out hbw)
          have HIA := Aside0.mk hrL
          refine hK.out _ _ ⟨blk_below hHeld.1 hbw, below_step hHeld.2 hbw⟩ (fun hHeld => ?_)
          clear hK K hrL hbL hgL hbw
          refine norm_ (a' := ?_) ?_ ?_
          rotate_left
          ·show Act.put _ (some 102) _ = _
           simp only [Act.put, List.setIfInBounds_toArray, List.set_cons_zero, List.set_cons_succ, i64_w, i32_w]
           rfl
          refine one_ (i := 1) (N := some 95) #[true, true, true, true, true, true, true, true, true, false, false] rfl rfl (one_of HT_.out (by kernel_rfl)) (by decide) (fun K hK => ?_)
          refine step_str (w0 := w) (by rfl) (.tmp 94) _ rfl _ (textD code (l.take i) ++ s2 x x.f4.length) _ rfl rfl HO.out hHeld.2 (by have := HLN.out; have := HSL.out; simp only [Lib.size_eq, List.length_append, List.length_cons, List.length_nil]; omega) ?_
          intro vA wA hr hb hk
          have HOA := Aside0.mk hr
          have HOF := HOA
          have HIF := Aside0.mk (ints_kept HIA.out hk)
          refine hK.out _ _ ⟨blk_kept hHeld.1 hk (T5.not hHeld.1 (by decide)), hb⟩ (fun hHeld => ?_)
          clear hK K hr hb hk HO HIA HOA
          refine norm_ (a' := ?_) ?_ ?_
          rotate_left
          ·show Act.put _ (some 95) _ = _
           simp only [Act.put, List.setIfInBounds_toArray, List.set_cons_zero, List.set_cons_succ, i64_w, i32_w]
           rfl
          exact norm_ (by first | (simp only [putAll, Act.put, List.setIfInBounds_toArray, List.set_cons_zero, List.set_cons_succ]; done) | (simp only [putAll, Act.put, List.setIfInBounds_toArray, List.set_cons_zero, List.set_cons_succ]; rfl)) (hCont (vA, .slice AL nL cL) _ ⟨HOF.out, ⟨AL, nL, cL, rfl, HIF.out⟩, hHeld⟩)
        rintro ⟨vA, vB⟩ wJ ⟨hO, ⟨AL, nL, cL, eL, hI⟩, hHeld⟩
        obtain rfl : vB = .slice AL nL cL := eL
        have HO := Aside0.mk hO
        have HI := Aside0.mk hI
        have hnL := (Kd.R_reads' hI).1
        subst hnL
        clear hO hI
        refine norm_ (a' := ?_) ?_ ?_
        rotate_left
        ·simp only [putAll, Act.put, List.setIfInBounds_toArray, List.set_cons_zero, List.set_cons_succ]
         rfl
        refine one_ (i := 9) (N := some 103) #[true, true, true, true, true, true, true, true, true, true, false] rfl rfl (one_of HT_.out (by kernel_rfl)) (by decide) (fun K hK => ?_)
        refine goes_ Tryz.func15 (by kernel_rfl) rfl #[vA, .int .u8 58, .slice AL ([x.f2.f0, x.f2.f1] : List Int).length cL] (by rfl) rfl rfl (by (try simp only [List.map_toArray, List.map_cons, List.map_nil]); first | done | rfl) ?_
        refine (join_ownz w wJ vA (textD code (l.take i) ++ s2 x x.f4.length ++ [32, 105, 58]) 58 58 rfl (x.f2.f0) [x.f2.f1] AL cL hHeld.2 HO.out HI.out (by intro n hn; simp only [List.mem_cons, List.mem_nil_iff, or_false] at hn; rcases hn with rfl | rfl; exact HOX.out.item.1; exact HOX.out.item.2.1) (by simp) (by have := HLN.out; have := HSL.out; simp only [Lib.size_eq, List.length_append, List.length_cons, List.length_nil]; omega)).mono ?_
        rintro e wC ⟨vC, rfl, hr, hb, hk⟩
        refine ⟨_, rfl, ?_⟩
        replace HO := Aside0.mk (show Kd.R (Kd.int .u8) 5 wC w.heap.size (fun _ => True) vC (toI (M)) from (R_cast (mid_eq _ _ _ _ _ HM.out) hr))
        refine hK.out _ _ ⟨blk_kept hHeld.1 hk (T5.not hHeld.1 (by decide)), hb⟩ (fun hHeld => ?_)
        clear hK K hr hb hk HI
        refine norm_ (a' := ?_) ?_ ?_
        rotate_left
        ·show Act.put _ (some 103) _ = _
         simp only [Act.put, List.setIfInBounds_toArray, List.set_cons_zero, List.set_cons_succ, i64_w, i32_w]
         rfl
        refine pure_ (i := 10) (N := some 3) (v := ?_) (a' := ?_) #[true, true, true, true, true, true, true, true, true, true, true] rfl rfl (any_of HT_.out (by kernel_rfl)) (fun _ _ _ h => h) (Or.inl ⟨by rfl, ?_⟩) ?_ ?_
        rotate_left
        ·intro w'
         go_simp
         with_reducible rfl
        rotate_left
        ·simp only [Act.put, List.setIfInBounds_toArray, List.set_cons_zero, List.set_cons_succ, i64_w, i32_w]
         rfl
        refine done_ (done_of HT_.out (by kernel_rfl)) ?_
        have K5 := Aside0.mk hHeld.1
        have HB := Aside0.mk hHeld.2
        clear hHeld
        obtain ⟨Am, nm, cm, em⟩ := R_any HO.out
        subst em
        go_upto_region 15 with fail
        have HSD := Aside0.mk (show wC.drew.heap[g5]? = some (.cells #[.int .i64 x.f0, .int .i64 x.f1, .int .i64 x.f2.f0, .int .i64 x.f2.f1, .slice A4 x.f2.f2.length c4, .int .i64 x.f3.f0, .slice A6 x.f3.f1.length c6, .slice A7 x.f3.f2.length c7, .slice A8 x.f4.length c8, .slice A9 x.f5.length c9, .int .i64 x.f6.f0, .int .i64 x.f6.f1, .int .i64 x.f6.f2, .int .i64 x.f6.f3, .int .i64 x.f6.f4, .int .i64 x.f6.f5, .int .i64 x.f6.f6, .int .i64 x.f6.f7] 50 (0, 0)) ∧ Below w.heap.size w wC.drew from ⟨K5.out, below_drew1 HB.out⟩)
        replace HO := Aside0.mk (show Kd.R (Kd.int .u8) 5 wC.drew w.heap.size (fun _ => True) (.slice Am nm cm) (toI (M)) from HO.out)
        refine start_ (n := 9) (S := fun w' => w'.heap[g5]? = some (.cells #[.int .i64 x.f0, .int .i64 x.f1, .int .i64 x.f2.f0, .int .i64 x.f2.f1, .slice A4 x.f2.f2.length c4, .int .i64 x.f3.f0, .slice A6 x.f3.f1.length c6, .slice A7 x.f3.f2.length c7, .slice A8 x.f4.length c8, .slice A9 x.f5.length c9, .int .i64 x.f6.f0, .int .i64 x.f6.f1, .int .i64 x.f6.f2, .int .i64 x.f6.f3, .int .i64 x.f6.f4, .int .i64 x.f6.f5, .int .i64 x.f6.f6, .int .i64 x.f6.f7] 50 (0, 0)) ∧ Below w.heap.size w w') (ds := []) #[false, false, false, false, false, false, false, false, false] (by kernel_rfl) rfl rfl HSD.out (fun hHeld => ?_); refine with_tabW sp15.tab sp15.bits (fun HT_ HW_ => ?_)
        generalize hw9 : wC.drew = w9 at hHeld HO ⊢
        clear hw9 HSD HB K5
        refine pure_ (i := 0) (N := some 104) (v := ?_) (a' := ?_) #[true, false, false, false, false, false, false, false, false] rfl rfl (any_of HT_.out (by kernel_rfl)) (fun _ _ _ h => h) (Or.inl ⟨by rfl, ?_⟩) ?_ ?_
        rotate_left
        ·intro w'
         go_simp
         with_reducible rfl
        rotate_left
        ·simp only [Act.put, List.setIfInBounds_toArray, List.set_cons_zero, List.set_cons_succ, i64_w, i32_w]
         rfl
        refine pure_ (i := 3) (N := some 107) (v := ?_) (a' := ?_) #[true, false, false, true, false, false, false, false, false] rfl rfl (any_of HT_.out (by kernel_rfl)) (fun _ _ _ h => h) (Or.inl ⟨by rfl, ?_⟩) ?_ ?_
        rotate_left
        ·intro w'
         go_simp
         with_reducible rfl
        rotate_left
        ·simp only [Act.put, List.setIfInBounds_toArray, List.set_cons_zero, List.set_cons_succ, i64_w, i32_w]
         rfl
        refine pure_ (i := 4) (N := some 108) (v := ?_) (a' := ?_) #[true, false, false, true, true, false, false, false, false] rfl rfl (any_of HT_.out (by kernel_rfl)) (fun _ _ _ h => h) (Or.inl ⟨by rfl, ?_⟩) ?_ ?_
        rotate_left
        ·intro w'
         go_simp
         with_reducible rfl
        rotate_left
        ·simp only [Act.put, List.setIfInBounds_toArray, List.set_cons_zero, List.set_cons_succ, i64_w, i32_w]
         rfl
        refine take_ (i := 5) (N := some 109) (v := ?_) (a' := ?_) #[true, false, false, true, true, true, false, false, false] rfl rfl (take_ofW HT_.out HW_.out (by kernel_rfl)) (fun _ _ _ h => h) (Or.inl ⟨by rfl, ?_⟩) hHeld ?_ ?_
        rotate_left
        ·rintro w' ⟨hblk0, _⟩
         have s0 : w'.cell? ⟨g5, 4, none⟩ = some (.slice A4 x.f2.f2.length c4) := blk_cell hblk0 4
         clear hblk0
         go_simp
         with_reducible rfl
        rotate_left
        ·simp only [Act.put, List.setIfInBounds_toArray, List.set_cons_zero, List.set_cons_succ, i64_w, i32_w]
         rfl
        refine one_ (i := 1) (N := some 105) #[true, true, false, true, true, true, false, false, false] rfl rfl (one_of HT_.out (by kernel_rfl)) (by decide) (fun K hK => ?_)
        refine Kd.R_lit_step (Kd.int .u8) (w0 := w) w.heap.size 5 ?hg (N := 105) ?hd (xs := [58]) (inner := [.int .u8 58]) (ok := fun _ => True) (okp := fun _ => True) ?hr ?hp (fun _ hk => hk) trivial hHeld.2 hHeld.2.size (by simp) ?_; (case hd => rfl); (case hg => rfl); (case hr => first | (go_simp; done) | (go_simp; rfl)); (case hp => exact Reps.one (show Kd.M (Kd.int .u8) _ _ _ 58 [.int .u8 58] from rfl) (Reps.none _ _))
        intro vL wL hrL hbL hgL _
        have hbw := grown_below hgL
        obtain ⟨AL, nL, cL, eL⟩ := R_any hrL
        subst eL
        have hnL := (Kd.R_reads' hrL).1
        subst hnL
        replace HO := Aside0.mk (Kd.R_below HO.out hbw)
        have HI := Aside0.mk (show Kd.R (Kd.int .u8) 5 wL w.heap.size (fun _ => True) (.slice AL 1 cL) (toI [58]) from hrL)
        refine hK.out _ _ ⟨blk_below hHeld.1 hbw, below_step hHeld.2 hbw⟩ (fun hHeld => ?_)
        clear hK K hrL hbL hgL hbw
        refine norm_ (a' := ?_) ?_ ?_
        rotate_left
        ·show Act.put _ (some 105) _ = _
         simp only [Act.put, List.setIfInBounds_toArray, List.set_cons_zero, List.set_cons_succ, i64_w, i32_w]
         rfl
        refine one_ (i := 2) (N := some 106) #[true, true, true, true, true, true, false, false, false] rfl rfl (one_of HT_.out (by kernel_rfl)) (by decide) (fun K hK => ?_)
        refine step_rows (w0 := w) (by rfl) (.tmp 104) (.tmp 105) rfl _ (M) [58] AL _ cL rfl rfl rfl HO.out (Kd.R_reads' HI.out).2.2 hHeld.2 (by have := HML.out; simp only [List.length_cons, List.length_nil]; omega) ?_
        intro vA wA hr hb hk
        replace HO := Aside0.mk hr
        refine hK.out _ _ ⟨blk_kept hHeld.1 hk (T5.not hHeld.1 (by decide)), hb⟩ (fun hHeld => ?_)
        clear hK K hr hb hk HI
        refine norm_ (a' := ?_) ?_ ?_
        rotate_left
        ·show Act.put _ (some 106) _ = _
         simp only [Act.put, List.setIfInBounds_toArray, List.set_cons_zero, List.set_cons_succ, i64_w, i32_w]
         rfl
        refine one_ (i := 6) (N := some 110) #[true, true, true, true, true, true, true, false, false] rfl rfl (one_of HT_.out (by kernel_rfl)) (by decide) (fun K hK => ?_)
        refine goes_ Tryz.func16 (by kernel_rfl) rfl #[.slice A4 (x.f2.f2).length c4] (by rfl) rfl rfl (by (try simp only [List.map_toArray, List.map_cons, List.map_nil]); first | done | rfl) ?_
        refine (l7Hex_calls A4 c4 (x.f2.f2) wA (Kd.C_below HC4.out hHeld.2) HL4.out HOX.out.item.2.2.1 HOX.out.item.2.2.2).mono ?_
        rintro e wC ⟨AH, cH, rfl, hcH, hCH, hbH⟩
        refine ⟨_, rfl, ?_⟩
        replace HO := Aside0.mk (Kd.R_below HO.out hbH)
        have HCH := Aside0.mk hCH
        refine hK.out _ _ ⟨blk_below hHeld.1 hbH, below_step hHeld.2 hbH⟩ (fun hHeld => ?_)
        clear hK K hcH hCH hbH
        refine norm_ (a' := ?_) ?_ ?_
        rotate_left
        ·show Act.put _ (some 110) _ = _
         simp only [Act.put, List.setIfInBounds_toArray, List.set_cons_zero, List.set_cons_succ, i64_w, i32_w]
         rfl
        refine one_ (i := 7) (N := some 111) #[true, true, true, true, true, true, true, true, false] rfl rfl (one_of HT_.out (by kernel_rfl)) (by decide) (fun K hK => ?_)
        refine step_rows (w0 := w) (by rfl) (.tmp 106) (.tmp 110) rfl _ (M ++ [58]) (hexD x.f2.f2) AH _ cH rfl rfl (toI_length _) HO.out HCH.out hHeld.2 (by have := HML.out; simp only [List.length_append, List.length_cons, List.length_nil]; omega) ?_
        intro vE wE hr hb hk
        replace HO := Aside0.mk (show Kd.R (Kd.int .u8) 5 wE w.heap.size (fun _ => True) vE (toI (textD code (l.take i) ++ s3 x)) from (R_cast (item_fin _ _ (of_decide_eq_true HQ.out.symm) _ HM.out) hr))
        refine hK.out _ _ ⟨blk_kept hHeld.1 hk (T5.not hHeld.1 (by decide)), hb⟩ (fun hHeld => ?_)
        clear hK K hr hb hk HCH
        refine norm_ (a' := ?_) ?_ ?_
        rotate_left
        ·show Act.put _ (some 111) _ = _
         simp only [Act.put, List.setIfInBounds_toArray, List.set_cons_zero, List.set_cons_succ, i64_w, i32_w]
         rfl
        refine pure_ (i := 8) (N := some 3) (v := ?_) (a' := ?_) #[true, true, true, true, true, true, true, true, true] rfl rfl (any_of HT_.out (by kernel_rfl)) (fun _ _ _ h => h) (Or.inl ⟨by rfl, ?_⟩) ?_ ?_
        rotate_left
        ·intro w'
         go_simp
         with_reducible rfl
        rotate_left
        ·simp only [Act.put, List.setIfInBounds_toArray, List.set_cons_zero, List.set_cons_succ, i64_w, i32_w]
         rfl
        refine done_ (done_of HT_.out (by kernel_rfl)) ?_
        have K5 := Aside0.mk hHeld.1
        have HB := Aside0.mk hHeld.2
        clear hHeld
        try go_wp2_with fail
        obtain ⟨An, nn, cn, en⟩ := R_any HO.out
        subst en
        go_meet
        exact ⟨_, _, _, _, rfl, rfl, K5, HO, HB⟩
       | false =>
        go_wp2_with fail
        go_meet
        exact ⟨_, _, _, _, rfl, rfl, K5, ⟨R_cast (item_off _ _ (of_decide_eq_false HQ.out.symm)) HO.out⟩, HB⟩
      case rest =>
       clear K5 HO HB HQ HSL
       obtain ⟨Av2, nv2, cv2, w2q, rfl, rfl, K5, HO, HB⟩ := hcut
       have k5_5 : w2q.cell? ⟨g5, 5, none⟩ = some (.int .i64 x.f3.f0) := blk_cell K5.out 5
       have k5_6 : w2q.cell? ⟨g5, 6, none⟩ = some (.slice A6 x.f3.f1.length c6) := blk_cell K5.out 6
       go_upto_region 16 with fail
       go_cut [122] (fun v122 W => v122 = .bool (decide (svcOn x)) ∧ w2q = W)
       case first =>
        by_cases e0 : x.f3.f0 = 0
        ·skip
         by_cases e2 : x.f3.f1.length = 0
         ·skip
          go_wp2_with fail
          go_meet
          exact ⟨by rw [decide_eq_false (show ¬ svcOn x from fun h => by unfold svcOn at h; omega)], rfl⟩
         ·have e3 : 0 < x.f3.f1.length := by omega
          have t2 : decide (0 < x.f3.f1.length) = true := decide_eq_true e3
          go_wp2_with fail
          go_meet
          exact ⟨by rw [decide_eq_true (show svcOn x from .inr e3)], rfl⟩
        ·have t0 : (x.f3.f0 == (0 : Int)) = false := by simpa using e0
         go_wp2_with fail
         go_meet
         exact ⟨by rw [decide_eq_true (show svcOn x from .inl e0)], rfl⟩
       case rest =>
        obtain ⟨rfl, rfl⟩ := hcut
        obtain ⟨q, hq⟩ : ∃ q, q = decide (svcOn x) := ⟨_, rfl⟩
        rw [← hq]
        have HQ := Aside0.mk hq
        have HSL := Aside0.mk (s3_len x)
        clear hq k5_5 k5_6
        go_upto_if 122 with fail
        go_cut [3] (fun v3 W => ∃ (Av : Option Addr) (nv cv : Nat) (Wn : World), Wn = W ∧ v3 = .slice Av nv cv ∧ Aside0 (Kd.R (Kd.int .u8) 5 Wn w.heap.size (fun _ => True) (.slice Av nv cv) (toI (textD code (l.take i) ++ Lib.join (obsParts x) [32]))) ∧ Aside0 (Below w.heap.size w Wn))
        case first =>
         cases q with
         | true =>
          go_upto_region 17 with fail
          have HSD := Aside0.mk (show w2q.drew.heap[g5]? = some (.cells #[.int .i64 x.f0, .int .i64 x.f1, .int .i64 x.f2.f0, .int .i64 x.f2.f1, .slice A4 x.f2.f2.length c4, .int .i64 x.f3.f0, .slice A6 x.f3.f1.length c6, .slice A7 x.f3.f2.length c7, .slice A8 x.f4.length c8, .slice A9 x.f5.length c9, .int .i64 x.f6.f0, .int .i64 x.f6.f1, .int .i64 x.f6.f2, .int .i64 x.f6.f3, .int .i64 x.f6.f4, .int .i64 x.f6.f5, .int .i64 x.f6.f6, .int .i64 x.f6.f7] 50 (0, 0)) ∧ Below w.heap.size w w2q.drew from ⟨K5.out, below_drew1 HB.out⟩)
          replace HO := Aside0.mk (show Kd.R (Kd.int .u8) 5 w2q.drew w.heap.size (fun _ => True) (.slice Av2 nv2 cv2) (toI (textD code (l.take i) ++ s3 x)) from HO.out)
          refine start_ (n := 8) (S := fun w' => w'.heap[g5]? = some (.cells #[.int .i64 x.f0, .int .i64 x.f1, .int .i64 x.f2.f0, .int .i64 x.f2.f1, .slice A4 x.f2.f2.length c4, .int .i64 x.f3.f0, .slice A6 x.f3.f1.length c6, .slice A7 x.f3.f2.length c7, .slice A8 x.f4.length c8, .slice A9 x.f5.length c9, .int .i64 x.f6.f0, .int .i64 x.f6.f1, .int .i64 x.f6.f2, .int .i64 x.f6.f3, .int .i64 x.f6.f4, .int .i64 x.f6.f5, .int .i64 x.f6.f6, .int .i64 x.f6.f7] 50 (0, 0)) ∧ Below w.heap.size w w') (ds := []) #[false, false, false, false, false, false, false, false] (by kernel_rfl) rfl rfl HSD.out (fun hHeld => ?_); refine with_tabW sp17.tab sp17.bits (fun HT_ HW_ => ?_)
          generalize hw9 : w2q.drew = w9 at hHeld HO ⊢
          clear hw9 HSD HB K5
          refine pure_ (i := 0) (N := some 123) (v := ?_) (a' := ?_) #[true, false, false, false, false, false, false, false] rfl rfl (any_of HT_.out (by kernel_rfl)) (fun _ _ _ h => h) (Or.inl ⟨by rfl, ?_⟩) ?_ ?_
          rotate_left
          ·intro w'
           go_simp
           with_reducible rfl
          rotate_left
          ·simp only [Act.put, List.setIfInBounds_toArray, List.set_cons_zero, List.set_cons_succ, i64_w, i32_w]
           rfl
          refine pure_ (i := 2) (N := some 125) (v := ?_) (a' := ?_) #[true, false, true, false, false, false, false, false] rfl rfl (any_of HT_.out (by kernel_rfl)) (fun _ _ _ h => h) (Or.inl ⟨by rfl, ?_⟩) ?_ ?_
          rotate_left
          ·intro w'
           go_simp
           with_reducible rfl
          rotate_left
          ·simp only [Act.put, List.setIfInBounds_toArray, List.set_cons_zero, List.set_cons_succ, i64_w, i32_w]
           rfl
          refine pure_ (i := 3) (N := some 126) (v := ?_) (a' := ?_) #[true, false, true, true, false, false, false, false] rfl rfl (any_of HT_.out (by kernel_rfl)) (fun _ _ _ h => h) (Or.inl ⟨by rfl, ?_⟩) ?_ ?_
          rotate_left
          ·intro w'
           go_simp
           with_reducible rfl
          rotate_left
          ·simp only [Act.put, List.setIfInBounds_toArray, List.set_cons_zero, List.set_cons_succ, i64_w, i32_w]
           rfl
          refine take_ (i := 4) (N := some 127) (v := ?_) (a' := ?_) #[true, false, true, true, true, false, false, false] rfl rfl (take_ofW HT_.out HW_.out (by kernel_rfl)) (fun _ _ _ h => h) (Or.inl ⟨by rfl, ?_⟩) hHeld ?_ ?_
          rotate_left
          ·rintro w' ⟨hblk0, _⟩
           have s0 : w'.cell? ⟨g5, 5, none⟩ = some (.int .i64 x.f3.f0) := blk_cell hblk0 5
           clear hblk0
           go_simp
           with_reducible rfl
          rotate_left
          ·simp only [Act.put, List.setIfInBounds_toArray, List.set_cons_zero, List.set_cons_succ, i64_w, i32_w]
           rfl
          refine join_ (σ := Value × Value) 2 #[true, true, true, true, true, true, false, false] (fun s => [(124, s.1), (128, s.2)]) (fun s w' => Kd.R (Kd.int .u8) 5 w' w.heap.size (fun _ => True) s.1 (toI (textD code (l.take i) ++ s3 x ++ [32, 115, 58])) ∧ (∃ (A : Option Addr) (n c : Nat), s.2 = .slice A n c ∧ Kd.R (Kd.int .i64) 3 w' w.heap.size (fun _ => True) (.slice A n c) [x.f3.f0]) ∧ (w'.heap[g5]? = some (.cells #[.int .i64 x.f0, .int .i64 x.f1, .int .i64 x.f2.f0, .int .i64 x.f2.f1, .slice A4 x.f2.f2.length c4, .int .i64 x.f3.f0, .slice A6 x.f3.f1.length c6, .slice A7 x.f3.f2.length c7, .slice A8 x.f4.length c8, .slice A9 x.f5.length c9, .int .i64 x.f6.f0, .int .i64 x.f6.f1, .int .i64 x.f6.f2, .int .i64 x.f6.f3, .int .i64 x.f6.f4, .int .i64 x.f6.f5, .int .i64 x.f6.f6, .int .i64 x.f6.f7] 50 (0, 0)) ∧ Below w.heap.size w w')) ?_ ?_
          rotate_left
          ·intro hCont
           refine two_ (i := 1) (j := 5) (Ni := some 124) (Nj := some 128) #[true, true, true, true, true, false, false, false] #[true, false, true, true, true, true, false, false] rfl rfl rfl rfl (two_of HT_.out (by kernel_rfl)) (by decide) (by decide) (fun K hK => ?_) (fun K hK => ?_)
           ·skip
            refine step_str (w0 := w) (by rfl) (.tmp 123) _ rfl _ (textD code (l.take i) ++ s3 x) _ rfl rfl HO.out hHeld.2 (by have := HLN.out; have := HSL.out; simp only [Lib.size_eq, List.length_append, List.length_cons, List.length_nil]; omega) ?_
            intro vA wA hr hb hk
            have HOA := Aside0.mk hr
            refine hK.out _ _ ⟨blk_kept hHeld.1 hk (T5.not hHeld.1 (by decide)), hb⟩ (fun hHeld => ?_)
            clear hK K hr hb hk HO
            refine norm_ (a' := ?_) ?_ ?_
            rotate_left
            ·show Act.put _ (some 124) _ = _
             simp only [Act.put, List.setIfInBounds_toArray, List.set_cons_zero, List.set_cons_succ, i64_w, i32_w]
             rfl
            refine one_ (i := 5) (N := some 128) #[true, true, true, true, true, true, false, false] rfl rfl (one_of HT_.out (by kernel_rfl)) (by decide) (fun K hK => ?_)
            refine Kd.R_lit_step (Kd.int .i64) (w0 := w) w.heap.size 3 ?hg (N := 128) ?hd (xs := [x.f3.f0]) (inner := [.int .i64 x.f3.f0]) (ok := fun _ => True) (okp := fun _ => True) ?hr ?hp (fun _ hk => hk) trivial hHeld.2 hHeld.2.size (by simp) ?_; (case hd => rfl); (case hg => rfl); (case hr => first | (go_simp; done) | (go_simp; rfl)); (case hp => exact Reps.one (show Kd.M (Kd.int .i64) _ _ _ (x.f3.f0) [.int .i64 (x.f3.f0)] from rfl) (Reps.none _ _))
            intro vL wL hrL hbL hgL _
            have hbw := grown_below hgL
            obtain ⟨AL, nL, cL, eL⟩ := R_any hrL
            subst eL
            have HOF := Aside0.mk (Kd.R_below HOA.out hbw)
            have HIF := Aside0.mk hrL
            refine hK.out _ _ ⟨blk_below hHeld.1 hbw, below_step hHeld.2 hbw⟩ (fun hHeld => ?_)
            clear hK K hrL hbL hgL hbw HOA
            refine norm_ (a' := ?_) ?_ ?_
            rotate_left
            ·show Act.put _ (some 128) _ = _
             simp only [Act.put, List.setIfInBounds_toArray, List.set_cons_zero, List.set_cons_succ, i64_w, i32_w]
             rfl
            exact norm_ (by first | (simp only [putAll, Act.put, List.setIfInBounds_toArray, List.set_cons_zero, List.set_cons_succ]; done) | (simp only [putAll, Act.put, List.setIfInBounds_toArray, List.set_cons_zero, List.set_cons_succ]; rfl)) (hCont (vA, .slice AL nL cL) _ ⟨HOF.out, ⟨AL, nL, cL, rfl, HIF.out⟩, hHeld⟩)
           ·skip
            refine Kd.R_lit_step (Kd.int .i64) (w0 := w) w.heap.size 3 ?hg (N := 128) ?hd (xs := [x.f3.f0]) (inner := [.int .i64 x.f3.f0]) (ok := fun _ => True) (okp := fun _ => True) ?hr ?hp (fun _ hk => hk) trivial hHeld.2 hHeld.2.size (by simp) ?_; (case hd => rfl); (case hg => rfl); (case hr => first | (go_simp; done) | (go_simp; rfl)); (case hp => exact Reps.one (show Kd.M (Kd.int .i64) _ _ _ (x.f3.f0) [.int .i64 (x.f3.f0)] from rfl) (Reps.none _ _))
            intro vL wL hrL hbL hgL _
            have hbw := grown_below hgL
            obtain ⟨AL, nL, cL, eL⟩ := R_any hrL
            subst eL
            replace HO := Aside0.mk (Kd.R_below HO.out hbw)
            have HIA := Aside0.mk hrL
            refine hK.out _ _ ⟨blk_below hHeld.1 hbw, below_step hHeld.2 hbw⟩ (fun hHeld => ?_)
            clear hK K hrL hbL hgL hbw
            refine norm_ (a' := ?_) ?_ ?_
            rotate_left
            ·show Act.put _ (some 128) _ = _
             simp only [Act.put, List.setIfInBounds_toArray, List.set_cons_zero, List.set_cons_succ, i64_w, i32_w]
             rfl
            refine one_ (i := 1) (N := some 124) #[true, true, true, true, true, true, false, false] rfl rfl (one_of HT_.out (by kernel_rfl)) (by decide) (fun K hK => ?_)
            refine step_str (w0 := w) (by rfl) (.tmp 123) _ rfl _ (textD code (l.take i) ++ s3 x) _ rfl rfl HO.out hHeld.2 (by have := HLN.out; have := HSL.out; simp only [Lib.size_eq, List.length_append, List.length_cons, List.length_nil]; omega) ?_
            intro vA wA hr hb hk
            have HOA := Aside0.mk hr
            have HOF := HOA
            have HIF := Aside0.mk (ints_kept HIA.out hk)
            refine hK.out _ _ ⟨blk_kept hHeld.1 hk (T5.not hHeld.1 (by decide)), hb⟩ (fun hHeld => ?_)
            clear hK K hr hb hk HO HIA HOA
            refine norm_ (a' := ?_) ?_ ?_
            rotate_left
            ·show Act.put _ (some 124) _ = _
             simp only [Act.put, List.setIfInBounds_toArray, List.set_cons_zero, List.set_cons_succ, i64_w, i32_w]
             rfl
            exact norm_ (by first | (simp only [putAll, Act.put, List.setIfInBounds_toArray, List.set_cons_zero, List.set_cons_succ]; done) | (simp only [putAll, Act.put, List.setIfInBounds_toArray, List.set_cons_zero, List.set_cons_succ]; rfl)) (hCont (vA, .slice AL nL cL) _ ⟨HOF.out, ⟨AL, nL, cL, rfl, HIF.out⟩, hHeld⟩)
          rintro ⟨vA, vB⟩ wJ ⟨hO, ⟨AL, nL, cL, eL, hI⟩, hHeld⟩
          obtain rfl : vB = .slice AL nL cL := eL
          have HO := Aside0.mk hO
          have HI := Aside0.mk hI
          have hnL := (Kd.R_reads' hI).1
          subst hnL
          clear hO hI
          refine norm_ (a' := ?_) ?_ ?_
          rotate_left
          ·simp only [putAll, Act.put, List.setIfInBounds_toArray, List.set_cons_zero, List.set_cons_succ]
           rfl
          refine one_ (i := 6) (N := some 129) #[true, true, true, true, true, true, true, false] rfl rfl (one_of HT_.out (by kernel_rfl)) (by decide) (fun K hK => ?_)
          refine goes_ Tryz.func15 (by kernel_rfl) rfl #[vA, .int .u8 58, .slice AL ([x.f3.f0] : List Int).length cL] (by rfl) rfl rfl (by (try simp only [List.map_toArray, List.map_cons, List.map_nil]); first | done | rfl) ?_
          refine (join_ownz w wJ vA (textD code (l.take i) ++ s3 x ++ [32, 115, 58]) 58 58 rfl (x.f3.f0) [] AL cL hHeld.2 HO.out HI.out (by intro n hn; simp only [List.mem_cons, List.mem_nil_iff, or_false] at hn; subst hn; exact HOX.out.base) (by simp) (by have := HLN.out; have := HSL.out; simp only [Lib.size_eq, List.length_append, List.length_cons, List.length_nil]; omega)).mono ?_
          rintro e wC ⟨vC, rfl, hr, hb, hk⟩
          refine ⟨_, rfl, ?_⟩
          replace HO := Aside0.mk (show Kd.R (Kd.int .u8) 5 wC w.heap.size (fun _ => True) vC (toI (textD code (l.take i) ++ s4 x 0)) from (R_cast (svc_mid _ _) hr))
          refine hK.out _ _ ⟨blk_kept hHeld.1 hk (T5.not hHeld.1 (by decide)), hb⟩ (fun hHeld => ?_)
          clear hK K hr hb hk HI
          refine norm_ (a' := ?_) ?_ ?_
          rotate_left
          ·show Act.put _ (some 129) _ = _
           simp only [Act.put, List.setIfInBounds_toArray, List.set_cons_zero, List.set_cons_succ, i64_w, i32_w]
           rfl
          refine pure_ (i := 7) (N := some 3) (v := ?_) (a' := ?_) #[true, true, true, true, true, true, true, true] rfl rfl (any_of HT_.out (by kernel_rfl)) (fun _ _ _ h => h) (Or.inl ⟨by rfl, ?_⟩) ?_ ?_
          rotate_left
          ·intro w'
           go_simp
           with_reducible rfl
          rotate_left
          ·simp only [Act.put, List.setIfInBounds_toArray, List.set_cons_zero, List.set_cons_succ, i64_w, i32_w]
           rfl
          refine done_ (done_of HT_.out (by kernel_rfl)) ?_
          have K5 := Aside0.mk hHeld.1
          have HB := Aside0.mk hHeld.2
          clear hHeld
          have HSV := Aside0.mk (show svcOn x from of_decide_eq_true HQ.out.symm)
          have k5_6 : wC.cell? ⟨g5, 6, none⟩ = some (.slice A6 x.f3.f1.length c6) := blk_cell K5.out 6
          obtain ⟨An, nn, cn, en⟩ := R_any HO.out
          subst en
          go_wp2_with fail
          clear k5_6
          go_loopg [3, 134] x.f3.f1.length (fun gk v3 v134 w' => ∃ (j : Nat) (Av : Option Addr) (nv cv : Nat), v3 = .slice Av nv cv ∧ v134 = .int .i64 (j : Nat) ∧ Aside0 (gk + j = x.f3.f1.length) ∧ Aside0 (Kd.R (Kd.int .u8) 5 w' w.heap.size (fun _ => True) (.slice Av nv cv) (toI (textD code (l.take i) ++ s4 x j))) ∧ Aside0 (Below w.heap.size w w'))
          case atStart => exact ⟨0, _, _, _, rfl, rfl, ⟨by omega⟩, HO, HB⟩
          case round =>
           clear K5 HO HB
           rename World => wq
           obtain ⟨j, Av, nv, cv, rfl, rfl, HGJ, HO, HB⟩ := hrel
           by_cases hlj : j < x.f3.f1.length
           ·obtain ⟨kj, hkj⟩ : ∃ m, gk = m + 1 := ⟨gk - 1, by have := HGJ.out; omega⟩
            subst hkj
            have HLJ := Aside0.mk hlj
            obtain ⟨ad8, cs8, ha8, _, hK8, hcl80⟩ := Kd.C_get HC6.out z40 (j : Int) (by omega) (by omega)
            have hcl8 : ∀ m u, cs8[m]? = some u → w.cell? (ad8.add (j * 3 + m)) = some u := hcl80
            cases ha8
            obtain ⟨y, hy⟩ : ∃ y, y = x.f3.f1.getD (j : Int).toNat z40 := ⟨_, rfl⟩
            rw [← hy] at hK8
            have HYL := Aside0.mk (show y = x.f3.f1[j] by rw [hy, Int.toNat_natCast]; simp [List.getD, hlj])
            have HYO := Aside0.mk (show ItemOk y from HOX.out.kept y (by rw [HYL.out]; exact List.getElem_mem hlj))
            obtain ⟨B2, d2, hcs8, hl2, hC2⟩ := k40_open hK8
            have HCS8 := Aside0.mk hcs8
            have HL2 := Aside0.mk hl2
            have HC2 := Aside0.mk hC2
            have HCL8 := Aside0.mk (show ∀ m u, cs8[m]? = some u → wq.cell? ((ad8.add (j * 3)).add m) = some u from fun m u h => by rw [add_add]; exact (HB.out.cell (World.block_lt_of_cell? w _ (hcl8 m u h))).trans (hcl8 m u h))
            have HSZ8 := Aside0.mk (show (Tryz.prog.info? 40).map (·.size) = some cs8.length by rw [hcs8]; exact isz_40')
            have HSA8 := Aside0.mk (show (Tryz.prog.info? 40).map (·.size) = some cs8.toArray.size by rw [hcs8]; exact isz_40')
            have HOL8 := Aside0.mk (show (#[.int .i64 0, .int .i64 0, .slice none 0 0] : Array Value).size = cs8.toArray.size by rw [hcs8]; rfl)
            have HON8 := Aside0.mk (all_oneCell_toArray (k40.K_one hK8))
            have hu40 := Tryz.underlying40
            have HP0 := Aside0.mk HB.out.size
            have HSL4 := Aside0.mk (s4_len x j HSV.out)
            have HSL5 := Aside0.mk (s4_len x (j + 1) HSV.out)
            clear hcl80 hcl8 hK8 hcs8 hy hl2 hC2
            go_upto_region 21 with (first | ((with_reducible refine gate_dst (N := 137) rfl ?_); refine wpList_load_at rfl 40 (.tmp 136) rfl _ rfl cs8 _ HCL8.out hu40 rfl HSZ8.out ?_) | ((with_reducible refine gate_dst (N := 10) rfl ?_); refine box_event ?hg (N := 10) ?hd (cs := #[.int .i64 0, .int .i64 0, .slice none 0 0]) (t := 40) ?hr ?_; (case hd => rfl); (case hg => rfl); (case hr => first | (go_simp; done) | (go_simp; rfl)); intro g9 hgg wa bk hbb; have K9 := Aside0.mk bk; replace HO := Aside0.mk (Kd.R_below HO.out hbb); replace HB := Aside0.mk (below_step HB.out hbb); have HG9 := Aside0.mk (show w.heap.size ≤ g9 by have := HP0.out; omega); clear hgg bk hbb) | ((with_reducible refine gate_store (t := 40) (p := 10) rfl ?_); refine wpList_put_row rfl 40 (.tmp 10) (.tmp 137) rfl g9 cs8.toArray rfl rfl 40 _ K9.out HSA8.out HOL8.out HON8.out ?_; intro wb hkb hbb hkept; replace HO := Aside0.mk (Kd.R_mono (Kd.R_kept (Kd.R_types HO.out K9.out (by decide)) hkept (fun q hq e => hq.2 e)) (fun _ _ => trivial)); replace HB := Aside0.mk (hbb w HB.out HG9.out); rw [item_cells y cs8 B2 d2 HCS8.out] at hkb; replace K9 := Aside0.mk hkb; clear hkb hbb hkept))
            obtain ⟨M, hM⟩ : ∃ M, M = textD code (l.take i) ++ s4 x j ++ ([32, 107, 58] ++ joinD [y.f0, y.f1]) := ⟨_, rfl⟩
            have HM := Aside0.mk hM
            have HML := Aside0.mk (kept_room _ _ HSV.out j HLJ.out y HYL.out _ hM HLN.out)
            clear hM
            go_upto_region 21 with fail
            have HSD := Aside0.mk (show wb.drew.heap[g9]? = some (.cells #[.int .i64 y.f0, .int .i64 y.f1, .slice B2 y.f2.length d2] 40 (0, 0)) ∧ Below w.heap.size w wb.drew from ⟨K9.out, below_drew1 HB.out⟩)
            replace HO := Aside0.mk (show Kd.R (Kd.int .u8) 5 wb.drew w.heap.size (fun _ => True) (.slice Av nv cv) (toI (textD code (l.take i) ++ s4 x j)) from HO.out)
            refine start_ (n := 9) (S := fun w' => w'.heap[g9]? = some (.cells #[.int .i64 y.f0, .int .i64 y.f1, .slice B2 y.f2.length d2] 40 (0, 0)) ∧ Below w.heap.size w w') (ds := []) #[false, false, false, false, false, false, false, false, false] (by kernel_rfl) rfl rfl HSD.out (fun hHeld => ?_); refine with_tabW sp21.tab sp21.bits (fun HT_ HW_ => ?_)
            generalize hw9 : wb.drew = w9 at hHeld HO ⊢
            clear hw9 HSD HB K9
            refine pure_ (i := 0) (N := some 138) (v := ?_) (a' := ?_) #[true, false, false, false, false, false, false, false, false] rfl rfl (any_of HT_.out (by kernel_rfl)) (fun _ _ _ h => h) (Or.inl ⟨by rfl, ?_⟩) ?_ ?_
            rotate_left
            ·intro w'
             go_simp
             with_reducible rfl
            rotate_left
            ·simp only [Act.put, List.setIfInBounds_toArray, List.set_cons_zero, List.set_cons_succ, i64_w, i32_w]
             rfl
            refine pure_ (i := 2) (N := some 140) (v := ?_) (a' := ?_) #[true, false, true, false, false, false, false, false, false] rfl rfl (any_of HT_.out (by kernel_rfl)) (fun _ _ _ h => h) (Or.inl ⟨by rfl, ?_⟩) ?_ ?_
            rotate_left
            ·intro w'
             go_simp
             with_reducible rfl
            rotate_left
            ·simp only [Act.put, List.setIfInBounds_toArray, List.set_cons_zero, List.set_cons_succ, i64_w, i32_w]
             rfl
            refine pure_ (i := 4) (N := some 142) (v := ?_) (a' := ?_) #[true, false, true, false, true, false, false, false, false] rfl rfl (any_of HT_.out (by kernel_rfl)) (fun _ _ _ h => h) (Or.inl ⟨by rfl, ?_⟩) ?_ ?_
            rotate_left
            ·intro w'
             go_simp
             with_reducible rfl
            rotate_left
            ·simp only [Act.put, List.setIfInBounds_toArray, List.set_cons_zero, List.set_cons_succ, i64_w, i32_w]
             rfl
            refine take_ (i := 3) (N := some 141) (v := ?_) (a' := ?_) #[true, false, true, true, true, false, false, false, false] rfl rfl (take_ofW HT_.out HW_.out (by kernel_rfl)) (fun _ _ _ h => h) (Or.inl ⟨by rfl, ?_⟩) hHeld ?_ ?_
            rotate_left
            ·rintro w' ⟨hblk0, _⟩
             have s0 : w'.cell? ⟨g9, 0, none⟩ = some (.int .i64 y.f0) := blk_cell hblk0 0
             clear hblk0
             go_simp
             with_reducible rfl
            rotate_left
            ·simp only [Act.put, List.setIfInBounds_toArray, List.set_cons_zero, List.set_cons_succ, i64_w, i32_w]
             rfl
            refine take_ (i := 5) (N := some 143) (v := ?_) (a' := ?_) #[true, false, true, true, true, true, false, false, false] rfl rfl (take_ofW HT_.out HW_.out (by kernel_rfl)) (fun _ _ _ h => h) (Or.inl ⟨by rfl, ?_⟩) hHeld ?_ ?_
            rotate_left
            ·rintro w' ⟨hblk0, _⟩
             have s0 : w'.cell? ⟨g9, 1, none⟩ = some (.int .i64 y.f1) := blk_cell hblk0 1
             clear hblk0
             go_simp
             with_reducible rfl
            rotate_left
            ·simp only [Act.put, List.setIfInBounds_toArray, List.set_cons_zero, List.set_cons_succ, i64_w, i32_w]
             rfl
            refine join_ (σ := Value × Value) 2 #[true, true, true, true, true, true, true, false, false] (fun s => [(139, s.1), (144, s.2)]) (fun s w' => Kd.R (Kd.int .u8) 5 w' w.heap.size (fun _ => True) s.1 (toI (textD code (l.take i) ++ s4 x j ++ [32, 107, 58])) ∧ (∃ (A : Option Addr) (n c : Nat), s.2 = .slice A n c ∧ Kd.R (Kd.int .i64) 3 w' w.heap.size (fun _ => True) (.slice A n c) [y.f0, y.f1]) ∧ (w'.heap[g9]? = some (.cells #[.int .i64 y.f0, .int .i64 y.f1, .slice B2 y.f2.length d2] 40 (0, 0)) ∧ Below w.heap.size w w')) ?_ ?_
            rotate_left
            ·intro hCont
             refine two_ (i := 1) (j := 6) (Ni := some 139) (Nj := some 144) #[true, true, true, true, true, true, false, false, false] #[true, false, true, true, true, true, true, false, false] rfl rfl rfl rfl (two_of HT_.out (by kernel_rfl)) (by decide) (by decide) (fun K hK => ?_) (fun K hK => ?_)
             ·skip
              refine step_str (w0 := w) (by rfl) (.tmp 138) _ rfl _ (textD code (l.take i) ++ s4 x j) _ rfl rfl HO.out hHeld.2 (by have := HLN.out; have := HSL4.out; simp only [Lib.size_eq, List.length_append, List.length_cons, List.length_nil]; omega) ?_
              intro vA wA hr hb hk
              have HOA := Aside0.mk hr
              refine hK.out _ _ ⟨blk_kept hHeld.1 hk (T5.not hHeld.1 (by decide)), hb⟩ (fun hHeld => ?_)
              clear hK K hr hb hk HO
              refine norm_ (a' := ?_) ?_ ?_
              rotate_left
              ·show Act.put _ (some 139) _ = _
               simp only [Act.put, List.setIfInBounds_toArray, List.set_cons_zero, List.set_cons_succ, i64_w, i32_w]
               rfl
              refine one_ (i := 6) (N := some 144) #[true, true, true, true, true, true, true, false, false] rfl rfl (one_of HT_.out (by kernel_rfl)) (by decide) (fun K hK => ?_)
              refine Kd.R_lit_step (Kd.int .i64) (w0 := w) w.heap.size 3 ?hg (N := 144) ?hd (xs := [y.f0, y.f1]) (inner := [.int .i64 y.f0, .int .i64 y.f1]) (ok := fun _ => True) (okp := fun _ => True) ?hr ?hp (fun _ hk => hk) trivial hHeld.2 hHeld.2.size (by simp) ?_; (case hd => rfl); (case hg => rfl); (case hr => first | (go_simp; done) | (go_simp; rfl)); (case hp => exact Reps.one (show Kd.M (Kd.int .i64) _ _ _ (y.f0) [.int .i64 (y.f0)] from rfl) (Reps.one (show Kd.M (Kd.int .i64) _ _ _ (y.f1) [.int .i64 (y.f1)] from rfl) (Reps.none _ _)))
              intro vL wL hrL hbL hgL _
              have hbw := grown_below hgL
              obtain ⟨AL, nL, cL, eL⟩ := R_any hrL
              subst eL
              have HOF := Aside0.mk (Kd.R_below HOA.out hbw)
              have HIF := Aside0.mk hrL
              refine hK.out _ _ ⟨blk_below hHeld.1 hbw, below_step hHeld.2 hbw⟩ (fun hHeld => ?_)
              clear hK K hrL hbL hgL hbw HOA
              refine norm_ (a' := ?_) ?_ ?_
              rotate_left
              ·show Act.put _ (some 144) _ = _
               simp only [Act.put, List.setIfInBounds_toArray, List.set_cons_zero, List.set_cons_succ, i64_w, i32_w]
               rfl
              exact norm_ (by first | (simp only [putAll, Act.put, List.setIfInBounds_toArray, List.set_cons_zero, List.set_cons_succ]; done) | (simp only [putAll, Act.put, List.setIfInBounds_toArray, List.set_cons_zero, List.set_cons_succ]; rfl)) (hCont (vA, .slice AL nL cL) _ ⟨HOF.out, ⟨AL, nL, cL, rfl, HIF.out⟩, hHeld⟩)
             ·skip
              refine Kd.R_lit_step (Kd.int .i64) (w0 := w) w.heap.size 3 ?hg (N := 144) ?hd (xs := [y.f0, y.f1]) (inner := [.int .i64 y.f0, .int .i64 y.f1]) (ok := fun _ => True) (okp := fun _ => True) ?hr ?hp (fun _ hk => hk) trivial hHeld.2 hHeld.2.size (by simp) ?_; (case hd => rfl); (case hg => rfl); (case hr => first | (go_simp; done) | (go_simp; rfl)); (case hp => exact Reps.one (show Kd.M (Kd.int .i64) _ _ _ (y.f0) [.int .i64 (y.f0)] from rfl) (Reps.one (show Kd.M (Kd.int .i64) _ _ _ (y.f1) [.int .i64 (y.f1)] from rfl) (Reps.none _ _)))
              intro vL wL hrL hbL hgL _
              have hbw := grown_below hgL
              obtain ⟨AL, nL, cL, eL⟩ := R_any hrL
              subst eL
              replace HO := Aside0.mk (Kd.R_below HO.out hbw)
              have HIA := Aside0.mk hrL
              refine hK.out _ _ ⟨blk_below hHeld.1 hbw, below_step hHeld.2 hbw⟩ (fun hHeld => ?_)
              clear hK K hrL hbL hgL hbw
              refine norm_ (a' := ?_) ?_ ?_
              rotate_left
              ·show Act.put _ (some 144) _ = _
               simp only [Act.put, List.setIfInBounds_toArray, List.set_cons_zero, List.set_cons_succ, i64_w, i32_w]
               rfl
              refine one_ (i := 1) (N := some 139) #[true, true, true, true, true, true, true, false, false] rfl rfl (one_of HT_.out (by kernel_rfl)) (by decide) (fun K hK => ?_)
              refine step_str (w0 := w) (by rfl) (.tmp 138) _ rfl _ (textD code (l.take i) ++ s4 x j) _ rfl rfl HO.out hHeld.2 (by have := HLN.out; have := HSL4.out; simp only [Lib.size_eq, List.length_append, List.length_cons, List.length_nil]; omega) ?_
              intro vA wA hr hb hk
              have HOA := Aside0.mk hr
              have HOF := HOA
              have HIF := Aside0.mk (ints_kept HIA.out hk)
              refine hK.out _ _ ⟨blk_kept hHeld.1 hk (T5.not hHeld.1 (by decide)), hb⟩ (fun hHeld => ?_)
              clear hK K hr hb hk HO HIA HOA
              refine norm_ (a' := ?_) ?_ ?_
              rotate_left
              ·show Act.put _ (some 139) _ = _
               simp only [Act.put, List.setIfInBounds_toArray, List.set_cons_zero, List.set_cons_succ, i64_w, i32_w]
               rfl
              exact norm_ (by first | (simp only [putAll, Act.put, List.setIfInBounds_toArray, List.set_cons_zero, List.set_cons_succ]; done) | (simp only [putAll, Act.put, List.setIfInBounds_toArray, List.set_cons_zero, List.set_cons_succ]; rfl)) (hCont (vA, .slice AL nL cL) _ ⟨HOF.out, ⟨AL, nL, cL, rfl, HIF.out⟩, hHeld⟩)
            rintro ⟨vA, vB⟩ wJ ⟨hO, ⟨AL, nL, cL, eL, hI⟩, hHeld⟩
            obtain rfl : vB = .slice AL nL cL := eL
            have HO := Aside0.mk hO
            have HI := Aside0.mk hI
            have hnL := (Kd.R_reads' hI).1
            subst hnL
            clear hO hI
            refine norm_ (a' := ?_) ?_ ?_
            rotate_left
            ·simp only [putAll, Act.put, List.setIfInBounds_toArray, List.set_cons_zero, List.set_cons_succ]
             rfl
            refine one_ (i := 7) (N := some 145) #[true, true, true, true, true, true, true, true, false] rfl rfl (one_of HT_.out (by kernel_rfl)) (by decide) (fun K hK => ?_)
            refine goes_ Tryz.func15 (by kernel_rfl) rfl #[vA, .int .u8 58, .slice AL ([y.f0, y.f1] : List Int).length cL] (by rfl) rfl rfl (by (try simp only [List.map_toArray, List.map_cons, List.map_nil]); first | done | rfl) ?_
            refine (join_ownz w wJ vA (textD code (l.take i) ++ s4 x j ++ [32, 107, 58]) 58 58 rfl (y.f0) [y.f1] AL cL hHeld.2 HO.out HI.out (by intro n hn; simp only [List.mem_cons, List.mem_nil_iff, or_false] at hn; rcases hn with rfl | rfl; exact HYO.out.1; exact HYO.out.2.1) (by simp) (by have := HLN.out; have := HSL4.out; simp only [Lib.size_eq, List.length_append, List.length_cons, List.length_nil]; omega)).mono ?_
            rintro e wC ⟨vC, rfl, hr, hb, hk⟩
            refine ⟨_, rfl, ?_⟩
            replace HO := Aside0.mk (show Kd.R (Kd.int .u8) 5 wC w.heap.size (fun _ => True) vC (toI (M)) from (R_cast (mid_eq _ _ _ _ _ HM.out) hr))
            refine hK.out _ _ ⟨blk_kept hHeld.1 hk (T5.not hHeld.1 (by decide)), hb⟩ (fun hHeld => ?_)
            clear hK K hr hb hk HI
            refine norm_ (a' := ?_) ?_ ?_
            rotate_left
            ·show Act.put _ (some 145) _ = _
             simp only [Act.put, List.setIfInBounds_toArray, List.set_cons_zero, List.set_cons_succ, i64_w, i32_w]
             rfl
            refine pure_ (i := 8) (N := some 3) (v := ?_) (a' := ?_) #[true, true, true, true, true, true, true, true, true] rfl rfl (any_of HT_.out (by kernel_rfl)) (fun _ _ _ h => h) (Or.inl ⟨by rfl, ?_⟩) ?_ ?_
            rotate_left
            ·intro w'
             go_simp
             with_reducible rfl
            rotate_left
            ·simp only [Act.put, List.setIfInBounds_toArray, List.set_cons_zero, List.set_cons_succ, i64_w, i32_w]
             rfl
            refine done_ (done_of HT_.out (by kernel_rfl)) ?_
            have K9 := Aside0.mk hHeld.1
            have HB := Aside0.mk hHeld.2
            clear hHeld
            obtain ⟨Am, nm, cm, em⟩ := R_any HO.out
            subst em
            go_upto_region 22 with fail
            have HSD := Aside0.mk (show wC.drew.heap[g9]? = some (.cells #[.int .i64 y.f0, .int .i64 y.f1, .slice B2 y.f2.length d2] 40 (0, 0)) ∧ Below w.heap.size w wC.drew from ⟨K9.out, below_drew1 HB.out⟩)
            replace HO := Aside0.mk (show Kd.R (Kd.int .u8) 5 wC.drew w.heap.size (fun _ => True) (.slice Am nm cm) (toI (M)) from HO.out)
            refine start_ (n := 8) (S := fun w' => w'.heap[g9]? = some (.cells #[.int .i64 y.f0, .int .i64 y.f1, .slice B2 y.f2.length d2] 40 (0, 0)) ∧ Below w.heap.size w w') (ds := []) #[false, false, false, false, false, false, false, false] (by kernel_rfl) rfl rfl HSD.out (fun hHeld => ?_); refine with_tabW sp22.tab sp22.bits (fun HT_ HW_ => ?_)
            generalize hw9 : wC.drew = w9 at hHeld HO ⊢
            clear hw9 HSD HB K9
            refine pure_ (i := 0) (N := some 146) (v := ?_) (a' := ?_) #[true, false, false, false, false, false, false, false] rfl rfl (any_of HT_.out (by kernel_rfl)) (fun _ _ _ h => h) (Or.inl ⟨by rfl, ?_⟩) ?_ ?_
            rotate_left
            ·intro w'
             go_simp
             with_reducible rfl
            rotate_left
            ·simp only [Act.put, List.setIfInBounds_toArray, List.set_cons_zero, List.set_cons_succ, i64_w, i32_w]
             rfl
            refine pure_ (i := 3) (N := some 149) (v := ?_) (a' := ?_) #[true, false, false, true, false, false, false, false] rfl rfl (any_of HT_.out (by kernel_rfl)) (fun _ _ _ h => h) (Or.inl ⟨by rfl, ?_⟩) ?_ ?_
            rotate_left
            ·intro w'
             go_simp
             with_reducible rfl
            rotate_left
            ·simp only [Act.put, List.setIfInBounds_toArray, List.set_cons_zero, List.set_cons_succ, i64_w, i32_w]
             rfl
            refine take_ (i := 4) (N := some 150) (v := ?_) (a' := ?_) #[true, false, false, true, true, false, false, false] rfl rfl (take_ofW HT_.out HW_.out (by kernel_rfl)) (fun _ _ _ h => h) (Or.inl ⟨by rfl, ?_⟩) hHeld ?_ ?_
            rotate_left
            ·rintro w' ⟨hblk0, _⟩
             have s0 : w'.cell? ⟨g9, 2, none⟩ = some (.slice B2 y.f2.length d2) := blk_cell hblk0 2
             clear hblk0
             go_simp
             with_reducible rfl
            rotate_left
            ·simp only [Act.put, List.setIfInBounds_toArray, List.set_cons_zero, List.set_cons_succ, i64_w, i32_w]
             rfl
            refine one_ (i := 1) (N := some 147) #[true, true, false, true, true, false, false, false] rfl rfl (one_of HT_.out (by kernel_rfl)) (by decide) (fun K hK => ?_)
            refine Kd.R_lit_step (Kd.int .u8) (w0 := w) w.heap.size 5 ?hg (N := 147) ?hd (xs := [58]) (inner := [.int .u8 58]) (ok := fun _ => True) (okp := fun _ => True) ?hr ?hp (fun _ hk => hk) trivial hHeld.2 hHeld.2.size (by simp) ?_; (case hd => rfl); (case hg => rfl); (case hr => first | (go_simp; done) | (go_simp; rfl)); (case hp => exact Reps.one (show Kd.M (Kd.int .u8) _ _ _ 58 [.int .u8 58] from rfl) (Reps.none _ _))
            intro vL wL hrL hbL hgL _
            have hbw := grown_below hgL
            obtain ⟨AL, nL, cL, eL⟩ := R_any hrL
            subst eL
            have hnL := (Kd.R_reads' hrL).1
            subst hnL
            replace HO := Aside0.mk (Kd.R_below HO.out hbw)
            have HI := Aside0.mk (show Kd.R (Kd.int .u8) 5 wL w.heap.size (fun _ => True) (.slice AL 1 cL) (toI [58]) from hrL)
            refine hK.out _ _ ⟨blk_below hHeld.1 hbw, below_step hHeld.2 hbw⟩ (fun hHeld => ?_)
            clear hK K hrL hbL hgL hbw
            refine norm_ (a' := ?_) ?_ ?_
            rotate_left
            ·show Act.put _ (some 147) _ = _
             simp only [Act.put, List.setIfInBounds_toArray, List.set_cons_zero, List.set_cons_succ, i64_w, i32_w]
             rfl
            refine one_ (i := 2) (N := some 148) #[true, true, true, true, true, false, false, false] rfl rfl (one_of HT_.out (by kernel_rfl)) (by decide) (fun K hK => ?_)
            refine step_rows (w0 := w) (by rfl) (.tmp 146) (.tmp 147) rfl _ (M) [58] AL _ cL rfl rfl rfl HO.out (Kd.R_reads' HI.out).2.2 hHeld.2 (by have := HML.out; simp only [List.length_cons, List.length_nil]; omega) ?_
            intro vA wA hr hb hk
            replace HO := Aside0.mk hr
            refine hK.out _ _ ⟨blk_kept hHeld.1 hk (T5.not hHeld.1 (by decide)), hb⟩ (fun hHeld => ?_)
            clear hK K hr hb hk HI
            refine norm_ (a' := ?_) ?_ ?_
            rotate_left
            ·show Act.put _ (some 148) _ = _
             simp only [Act.put, List.setIfInBounds_toArray, List.set_cons_zero, List.set_cons_succ, i64_w, i32_w]
             rfl
            refine one_ (i := 5) (N := some 151) #[true, true, true, true, true, true, false, false] rfl rfl (one_of HT_.out (by kernel_rfl)) (by decide) (fun K hK => ?_)
            refine goes_ Tryz.func16 (by kernel_rfl) rfl #[.slice B2 (y.f2).length d2] (by rfl) rfl rfl (by (try simp only [List.map_toArray, List.map_cons, List.map_nil]); first | done | rfl) ?_
            refine (l7Hex_calls B2 d2 (y.f2) wA (Kd.C_below HC2.out hHeld.2) HL2.out HYO.out.2.2.1 HYO.out.2.2.2).mono ?_
            rintro e wC ⟨AH, cH, rfl, hcH, hCH, hbH⟩
            refine ⟨_, rfl, ?_⟩
            replace HO := Aside0.mk (Kd.R_below HO.out hbH)
            have HCH := Aside0.mk hCH
            refine hK.out _ _ ⟨blk_below hHeld.1 hbH, below_step hHeld.2 hbH⟩ (fun hHeld => ?_)
            clear hK K hcH hCH hbH
            refine norm_ (a' := ?_) ?_ ?_
            rotate_left
            ·show Act.put _ (some 151) _ = _
             simp only [Act.put, List.setIfInBounds_toArray, List.set_cons_zero, List.set_cons_succ, i64_w, i32_w]
             rfl
            refine one_ (i := 6) (N := some 152) #[true, true, true, true, true, true, true, false] rfl rfl (one_of HT_.out (by kernel_rfl)) (by decide) (fun K hK => ?_)
            refine step_rows (w0 := w) (by rfl) (.tmp 148) (.tmp 151) rfl _ (M ++ [58]) (hexD y.f2) AH _ cH rfl rfl (toI_length _) HO.out HCH.out hHeld.2 (by have := HML.out; simp only [List.length_append, List.length_cons, List.length_nil]; omega) ?_
            intro vE wE hr hb hk
            replace HO := Aside0.mk (show Kd.R (Kd.int .u8) 5 wE w.heap.size (fun _ => True) vE (toI (textD code (l.take i) ++ s4 x (j + 1))) from (R_cast (kept_fin _ _ j HLJ.out y HYL.out _ HM.out) hr))
            refine hK.out _ _ ⟨blk_kept hHeld.1 hk (T5.not hHeld.1 (by decide)), hb⟩ (fun hHeld => ?_)
            clear hK K hr hb hk HCH
            refine norm_ (a' := ?_) ?_ ?_
            rotate_left
            ·show Act.put _ (some 152) _ = _
             simp only [Act.put, List.setIfInBounds_toArray, List.set_cons_zero, List.set_cons_succ, i64_w, i32_w]
             rfl
            refine pure_ (i := 7) (N := some 3) (v := ?_) (a' := ?_) #[true, true, true, true, true, true, true, true] rfl rfl (any_of HT_.out (by kernel_rfl)) (fun _ _ _ h => h) (Or.inl ⟨by rfl, ?_⟩) ?_ ?_
            rotate_left
            ·intro w'
             go_simp
             with_reducible rfl
            rotate_left
            ·simp only [Act.put, List.setIfInBounds_toArray, List.set_cons_zero, List.set_cons_succ, i64_w, i32_w]
             rfl
            refine done_ (done_of HT_.out (by kernel_rfl)) ?_
            have K9 := Aside0.mk hHeld.1
            have HB := Aside0.mk hHeld.2
            clear hHeld
            try go_wp2_with fail
            obtain ⟨An, nn, cn, en⟩ := R_any HO.out
            subst en
            go_roundg kj
            case measure => omega
            case rel => exact ⟨j + 1, _, _, _, rfl, by rw [w64n (by have := HOX.out.l31; have := HLJ.out; omega)], ⟨by have := HGJ.out; omega⟩, HO, HB⟩
           ·have HJE := Aside0.mk (show j = x.f3.f1.length by have := HGJ.out; omega)
            have tlj : decide (j < x.f3.f1.length) = false := decide_eq_false hlj
            replace HO := Aside0.mk (show Kd.R (Kd.int .u8) 5 wq w.heap.size (fun _ => True) (.slice Av nv cv) (toI (textD code (l.take i) ++ Lib.join (obsParts x) [32])) from R_cast (svc_end _ _ HSV.out j HJE.out) HO.out)
            clear hlj HJE HGJ
            go_wp2_with fail
            go_meet
            exact ⟨_, _, _, _, rfl, rfl, HO, HB⟩
         | false =>
          go_wp2_with fail
          go_meet
          exact ⟨_, _, _, _, rfl, rfl, ⟨R_cast (svc_off _ _ (of_decide_eq_false HQ.out.symm)) HO.out⟩, HB⟩
        case rest =>
         clear K5 HO HB HQ HSL
         obtain ⟨Av3, nv3, cv3, w3q, rfl, rfl, HO, HB⟩ := hcut
         have HJL := Aside0.mk (show (Lib.join (obsParts x) [32]).length + 1 = (lineD x).length by simp [lineD])
         go_wp2_with ((with_reducible refine gate_builtin (b := .append) (xs := #[.tmp 154, .tmp 155]) rfl ?_); at_builtin; refine app_byte (w := w) rfl (.tmp 154) (.tmp 155) rfl _ _ 10 10 rfl rfl rfl HO.out HB.out (by have := HLN.out; have := HJL.out; simp only [List.length_append]; omega) ?_; intro v3n wz hr hb hk; replace HO := Aside0.mk (show Kd.R (Kd.int .u8) 5 wz w.heap.size (fun _ => True) v3n (toI (textD code (l.take (i + 1)))) from R_cast (line_fin code l i HLT.out x HXL.out) hr); replace HB := Aside0.mk hb; clear hr hb hk)
         obtain ⟨An, nn, cn, en⟩ := R_any HO.out
         subst en
         go_roundg k1
         case measure => omega
         case rel => exact ⟨i + 1, _, _, _, rfl, by rw [w64n (by have := HL.out; have := HLT.out; omega)], ⟨by have := HG.out; omega⟩, HO, HB⟩
  ·skip
   have hi : i = l.length := by have := HG.out; omega
   have tlt : decide (i < l.length) = false := decide_eq_false hlt
   replace HO := Aside0.mk (show Kd.R (Kd.int .u8) 5 wr w.heap.size (fun _ => True) (.slice Av nv cv) (toI (textD code l)) by have := HO.out; rwa [hi, List.take_length] at this)
   clear hlt hi
   go_wp2
   go_ret
   exact ⟨_, rfl, HO.out, HB.out⟩

end Go.Proofs.YtibhaklgajkalaaGreatDoor.YTell
