/- T3 -/
import Derived.Test.YtibhaklgajkalaaGreatDoorYTellx0
import Derived.Deep.RegionHeld3
import Derived.Test.YtibhaklgajkalaaGreatDoorYTellT1
import Derived.Test.YtibhaklgajkalaaGreatDoorYTellT2
namespace Go.Proofs.YtibhaklgajkalaaGreatDoor.YTell
open Go.RowKit Go.Proofs.YtibhaklgajkalaaGreatDoorW.PrintWords Go.Proofs.YtibhaklgajkalaaGreatDoorW.PrintLast Go.Proofs.YtibhaklgajkalaaGreatDoorW.PrintMore
attribute [local go_sem] max2_int min2_int max_two min_two max_three min_three max_four min_four
set_option linter.unusedVariables false
set_option linter.unusedSimpArgs false
open Go.Proofs.YtibhaklgajkalaaGreatDoor.Num
theorem run_loadAt_at {P : Program} (w : World) (p : Addr) (ty : TypeId) (cs : List Value) (d : TypeDesc) (hc : ∀ j v, cs[j]? = some v → w.cell? (p.add j) = some v)
 (hu : P.underlying ty = some d) (hd : d.isRow = true) (hi : (P.info? ty).map (·.size) = some cs.length) : (Instr.loadAt ty (.pointer (some p))).run P w = .ok (.agg cs.toArray) w := by
 have hrun : (loadVar ty p).run P w = .ok (.agg cs.toArray) w := by
  have hl : (loadCells p cs.length).run P w = .ok cs.toArray w := run_loadCells_list (P := P) w p cs hc
  cases hq : P.info? ty with
  | none => simp [hq] at hi
  | some i =>
   have hs : i.size = cs.length := by simpa [hq] using hi
   have hagg : (isAgg ty).run P w = .ok true w := by
    unfold isAgg
    rw [Sem.run_bind, run_underlying hu w]
    cases d <;> simp_all
   simp [loadVar, Sem.run_bind, hagg, sizeOf, typeInfo, hq, hs, hl]
 simp only [Instr.loadAt, Instr.sureAddr, Sem.run_bind, Sem.run_pure, Result.andThen_ok, hrun]
theorem run_load_of {P : Program} {op : Oper} {a : Act} {w : World} {ty : TypeId} {x : Operand} {p : Addr} {v : Value} (ho : op.op = .load ty x) (hx : a.eval x = .pointer (some p)) (h : (Instr.loadAt ty (.pointer (some p))).run P w = .ok v w) : (execOp a.eval op).run P w = .ok (.value v) w := by
 unfold execOp
 simp only [ho, hx, Sem.run_bind, h, Result.andThen_ok, Sem.run_pure]
theorem eqByteS_l0 (x : List Int) (hx : x.length ≤ 281474976710656) (d : Nat) : ∀ (k i : Nat), i ≤ x.length → x.length - i = d → d < k → laws_eqByteS.l0 k x x (i : Int) = some true := by
 induction d with
 | zero =>
  intro k i hi hd hk
  obtain ⟨k, rfl⟩ : ∃ m, k = m + 1 := ⟨k - 1, by omega⟩
  rw [laws_eqByteS.l0, if_neg (by omega)]
 | succ d ih =>
  intro k i hi hd hk
  obtain ⟨k, rfl⟩ : ∃ m, k = m + 1 := ⟨k - 1, by omega⟩
  rw [laws_eqByteS.l0, if_pos (by omega), if_pos (by omega), if_pos (by omega), if_pos rfl, w64n (by omega)]
  exact ih k (i + 1) (by omega) (by omega) (by omega)
theorem eqByteS_calls (A0 : Option Addr) (c0 : Nat) (B0 : Option Addr) (d0 : Nat) (l : List Int) (w : World) (hrA : Kd.C (Kd.int .u8) w A0 l.length l) (hcA : l.length ≤ c0) (hrB : Kd.C (Kd.int .u8) w B0 l.length l) (hcB : l.length ≤ d0) (hl : l.length ≤ 281474976710656) :
 Calls Tryz.prog 8 #[.slice A0 l.length c0, .slice B0 l.length d0] w fun e w' => e = .returned (.bool true) ∧ Below w.heap.size w w' :=
 (laws_eqByteS.calls (l.length + 1) A0 c0 l B0 d0 l true w hrA hcA hrB hcB (by
  unfold laws_eqByteS.f
  first
   | (rw [if_pos rfl]; exact eqByteS_l0 l hl l.length _ 0 (by omega) (by omega) (by omega))
   | exact eqByteS_l0 l hl l.length _ 0 (by omega) (by omega) (by omega))).mono fun e w' ⟨he, hw⟩ => ⟨he, by first | exact hw.below | (obtain ⟨n, rfl⟩ := hw; exact below_drewN (Below.refl _ _) n)⟩
def ItemLim (x : S40) : Prop := True ∧ x.f2.length ≤ 281474976710656
theorem isz_40 : (Tryz.prog.info? 40).map (·.size) = some 3 := by kernel_rfl
set_option maxHeartbeats 8000000 in
set_option maxRecDepth 100000 in
theorem eqItem_calls (x : S40) (A2 : Option Addr) (c2 : Nat) (B2 : Option Addr) (d2 : Nat) (w : World) (ha2 : Kd.C (Kd.int .u8) w A2 x.f2.length x.f2) (hca2 : x.f2.length ≤ c2) (hb2 : Kd.C (Kd.int .u8) w B2 x.f2.length x.f2) (hcb2 : x.f2.length ≤ d2) (hf : ItemLim x) :
 Calls Tryz.prog 61 #[.agg #[.int .i64 x.f0, .int .i64 x.f1, .slice A2 x.f2.length c2], .agg #[.int .i64 x.f0, .int .i64 x.f1, .slice B2 x.f2.length d2]] w fun e w' => e = .returned (.bool true) ∧ Below w.heap.size w w' := by
 have hu := Tryz.underlying40
 have HA2 := Aside0.mk ha2
 have HCA2 := Aside0.mk hca2
 have HB2 := Aside0.mk hb2
 have HCB2 := Aside0.mk hcb2
 have HFT := Aside0.mk hf
 clear hf ha2 hca2 hb2 hcb2
 go_enter Tryz.func61, Tryz.ntmps61
 go_wp2_with (first | ((with_reducible refine gate_dst (N := 2) rfl ?_); refine box_event ?hg (N := 2) ?hd (cs := #[.int .i64 x.f0, .int .i64 x.f1, .slice A2 x.f2.length c2]) (t := 40) ?hr ?_; (case hd => rfl); (case hg => rfl); (case hr => first | (go_simp; done) | (go_simp; rfl)); intro gA hg wb2 hbox hb; have HW := Aside0.mk hb; have KA := Aside0.mk hbox; clear hb hbox hg) | ((with_reducible refine gate_dst (N := 3) rfl ?_); refine box_event ?hg (N := 3) ?hd (cs := #[.int .i64 x.f0, .int .i64 x.f1, .slice B2 x.f2.length d2]) (t := 40) ?hr ?_; (case hd => rfl); (case hg => rfl); (case hr => first | (go_simp; done) | (go_simp; rfl)); intro gB hg wb3 hbox hb; replace HW := Aside0.mk (below_step HW.out hb); replace KA := Aside0.mk (blk_below KA.out hb); have KB := Aside0.mk hbox; have ka0 := blk_cell KA.out 0; have kb0 := blk_cell hbox 0; have ka1 := blk_cell KA.out 1; have kb1 := blk_cell hbox 1; have ka2 := blk_cell KA.out 2; have kb2 := blk_cell hbox 2; clear hb hbox hg) | (go_at_call 8; refine (eqByteS_calls A2 c2 B2 d2 x.f2 _ (Kd.C_below HA2.out HW.out) HCA2.out (Kd.C_below HB2.out HW.out) HCB2.out HFT.out.2).mono ?_; rintro e wd ⟨rfl, hb⟩; replace KA := Aside0.mk (blk_below KA.out hb); replace KB := Aside0.mk (blk_below KB.out hb); replace ka0 := blk_cell KA.out 0; replace kb0 := blk_cell KB.out 0; replace ka1 := blk_cell KA.out 1; replace kb1 := blk_cell KB.out 1; replace ka2 := blk_cell KA.out 2; replace kb2 := blk_cell KB.out 2; replace HW := Aside0.mk (below_step HW.out hb); clear hb))
 go_ret
 exact ⟨rfl, HW.out⟩
def laws_eqItemS.T6 : Bool × List (List Nat × List Nat) := (true, [([], []), ([], []), ([0, 1], [0, 1]), ([2], [2]), ([], []), ([], []), ([4, 5], [4, 5]), ([6], [6]), ([3, 7], [3, 7]), ([8], [8])])
def laws_eqItemS.B6 : List Nat := [0, 0, 3, 7, 0, 0, 48, 112, 255, 511]
theorem laws_eqItemS.tab6 : rtab .any (opsOf Tryz.f87 6) = laws_eqItemS.T6 := by kernel_rfl
theorem laws_eqItemS.bits6 : waitsOk laws_eqItemS.T6.2 laws_eqItemS.B6 = true := by kernel_rfl
set_option maxHeartbeats 8000000 in
set_option maxRecDepth 100000 in
theorem eqItemS_calls (A : Option Addr) (cA : Nat) (B : Option Addr) (cB : Nat) (l : List S40) (w : World) (hrA : Kd.C k40 w A l.length l) (hcA : l.length ≤ cA) (hrB : Kd.C k40 w B l.length l) (hcB : l.length ≤ cB) (hf : l.length ≤ 281474976710656 ∧ ∀ y ∈ l, ItemLim y) :
 Calls Tryz.prog 87 #[.slice A l.length cA, .slice B l.length cB] w fun e w' => e = .returned (.bool true) ∧ Below w.heap.size w w' := by
 have HU := Aside0.mk Tryz.underlying40
 have HRA := Aside0.mk hrA
 have HRB := Aside0.mk hrB
 have HFT := Aside0.mk hf
 clear hrA hcA hrB hcB hf
 go_enter Tryz.func87, Tryz.ntmps87
 go_wp2
 go_loopg [5] l.length (fun gk v5 w' => ∃ i : Nat, v5 = .int .i64 (i : Nat) ∧ Aside0 (gk + i = l.length) ∧ Aside0 (Below w.heap.size w w'))
 case atStart => exact ⟨0, rfl, ⟨by omega⟩, ⟨Below.refl _ _⟩⟩
 case round =>
  obtain ⟨i, rfl, HG, HB⟩ := hrel
  by_cases hlt : i < l.length
  ·as_aux_lemma =>
   obtain ⟨k1, hk1⟩ : ∃ m, gk = m + 1 := ⟨gk - 1, by have := HG.out; omega⟩
   subst hk1
   obtain ⟨adA, csA, haA, _, hKA, hclA0⟩ := Kd.C_get HRA.out z40 (i : Int) (by omega) (by omega)
   obtain ⟨adB, csB, haB, _, hKB, hclB0⟩ := Kd.C_get HRB.out z40 (i : Int) (by omega) (by omega)
   have hclA : ∀ j u, csA[j]? = some u → w.cell? (adA.add (i * 3 + j)) = some u := hclA0
   have hclB : ∀ j u, csB[j]? = some u → w.cell? (adB.add (i * 3 + j)) = some u := hclB0
   cases haA
   cases haB
   obtain ⟨x, hx⟩ : ∃ x, x = l.getD (i : Int).toNat z40 := ⟨_, rfl⟩
   rw [← hx] at hKA hKB
   have HLX := Aside0.mk (show ItemLim x from HFT.out.2 x (by rw [hx, Int.toNat_natCast]; simp [List.getD, hlt]))
   obtain ⟨A2, c2, hcsA, hla2, hCa2⟩ := k40_open hKA
   obtain ⟨B2, d2, hcsB, hlb2, hCb2⟩ := k40_open hKB
   have HLA2 := Aside0.mk hla2
   have HCA2 := Aside0.mk hCa2
   have HLB2 := Aside0.mk hlb2
   have HCB2 := Aside0.mk hCb2
   clear hla2 hCa2 hlb2 hCb2
   have HSA := Aside0.mk hcsA
   have HSB := Aside0.mk hcsB
   have hA : ∀ j u, csA[j]? = some u → wr.cell? ((adA.add (i * 3)).add j) = some u := fun j u h => by rw [add_add]; exact (HB.out.cell (World.block_lt_of_cell? w _ (hclA j u h))).trans (hclA j u h)
   have hB : ∀ j u, csB[j]? = some u → wr.cell? ((adB.add (i * 3)).add j) = some u := fun j u h => by rw [add_add]; exact (HB.out.cell (World.block_lt_of_cell? w _ (hclB j u h))).trans (hclB j u h)
   have hsA : (Tryz.prog.info? 40).map (·.size) = some csA.length := by rw [hcsA]; exact isz_40
   have hsB : (Tryz.prog.info? 40).map (·.size) = some csB.length := by rw [hcsB]; exact isz_40
   have hLA : ∀ w', ((∀ j u, csA[j]? = some u → w'.cell? ((adA.add (i * 3)).add j) = some u) ∧ ∀ j u, csB[j]? = some u → w'.cell? ((adB.add (i * 3)).add j) = some u) → (Instr.loadAt 40 (.pointer (some (adA.add (i * 3))))).run Tryz.prog w' = .ok (.agg csA.toArray) w' := fun w' h => run_loadAt_at w' _ 40 csA _ h.1 HU.out rfl hsA
   have hLB : ∀ w', ((∀ j u, csA[j]? = some u → w'.cell? ((adA.add (i * 3)).add j) = some u) ∧ ∀ j u, csB[j]? = some u → w'.cell? ((adB.add (i * 3)).add j) = some u) → (Instr.loadAt 40 (.pointer (some (adB.add (i * 3))))).run Tryz.prog w' = .ok (.agg csB.toArray) w' := fun w' h => run_loadAt_at w' _ 40 csB _ h.2 HU.out rfl hsB
   have HAB := Aside0.mk (And.intro hA hB)
   have HLA := Aside0.mk hLA
   have HLB := Aside0.mk hLB
   clear hclA0 hclB0 hclA hclB hKA hKB hcsA hcsB hx hA hB hsA hsB hLA hLB
   go_upto_region 6 with fail
   refine start_ (n := 10) (S := fun w' => (∀ j u, csA[j]? = some u → w'.cell? ((adA.add (i * 3)).add j) = some u) ∧ ∀ j u, csB[j]? = some u → w'.cell? ((adB.add (i * 3)).add j) = some u) (ds := []) #[false, false, false, false, false, false, false, false, false, false] (by kernel_rfl) rfl rfl HAB.out (fun hHeld => ?_); refine with_tabW laws_eqItemS.tab6 laws_eqItemS.bits6 (fun HT_ HW_ => ?_)
   generalize hw9 : wr.drew = w9 at hHeld ⊢
   have HB9 := Aside0.mk (show Below w.heap.size w w9 by rw [← hw9]; exact below_drew1 HB.out)
   clear hw9
   refine pure_ (i := 0) (N := some 17) (v := ?_) (a' := ?_) #[true, false, false, false, false, false, false, false, false, false] rfl rfl (any_of HT_.out (by kernel_rfl)) (fun _ _ _ h => h) (Or.inl ⟨by rfl, ?_⟩) ?_ ?_
   rotate_left
   ·intro w'
    go_simp
    with_reducible rfl
   rotate_left
   ·simp only [Act.put, List.setIfInBounds_toArray, List.set_cons_zero, List.set_cons_succ, i64_w, i32_w]
    rfl
   refine pure_ (i := 1) (N := some 18) (v := ?_) (a' := ?_) #[true, true, false, false, false, false, false, false, false, false] rfl rfl (any_of HT_.out (by kernel_rfl)) (fun _ _ _ h => h) (Or.inl ⟨by rfl, ?_⟩) ?_ ?_
   rotate_left
   ·intro w'
    go_simp
    with_reducible rfl
   rotate_left
   ·simp only [Act.put, List.setIfInBounds_toArray, List.set_cons_zero, List.set_cons_succ, i64_w, i32_w]
    rfl
   refine pure_ (i := 2) (N := some 19) (v := ?_) (a' := ?_) #[true, true, true, false, false, false, false, false, false, false] rfl rfl (any_of HT_.out (by kernel_rfl)) (fun _ _ _ h => h) (Or.inl ⟨by rfl, ?_⟩) ?_ ?_
   rotate_left
   ·intro w'
    go_simp
    with_reducible rfl
   rotate_left
   ·simp only [Act.put, List.setIfInBounds_toArray, List.set_cons_zero, List.set_cons_succ, i64_w, i32_w]
    rfl
   refine pure_ (i := 4) (N := some 21) (v := ?_) (a' := ?_) #[true, true, true, false, true, false, false, false, false, false] rfl rfl (any_of HT_.out (by kernel_rfl)) (fun _ _ _ h => h) (Or.inl ⟨by rfl, ?_⟩) ?_ ?_
   rotate_left
   ·intro w'
    go_simp
    with_reducible rfl
   rotate_left
   ·simp only [Act.put, List.setIfInBounds_toArray, List.set_cons_zero, List.set_cons_succ, i64_w, i32_w]
    rfl
   refine pure_ (i := 5) (N := some 22) (v := ?_) (a' := ?_) #[true, true, true, false, true, true, false, false, false, false] rfl rfl (any_of HT_.out (by kernel_rfl)) (fun _ _ _ h => h) (Or.inl ⟨by rfl, ?_⟩) ?_ ?_
   rotate_left
   ·intro w'
    go_simp
    with_reducible rfl
   rotate_left
   ·simp only [Act.put, List.setIfInBounds_toArray, List.set_cons_zero, List.set_cons_succ, i64_w, i32_w]
    rfl
   refine pure_ (i := 6) (N := some 23) (v := ?_) (a' := ?_) #[true, true, true, false, true, true, true, false, false, false] rfl rfl (any_of HT_.out (by kernel_rfl)) (fun _ _ _ h => h) (Or.inl ⟨by rfl, ?_⟩) ?_ ?_
   rotate_left
   ·intro w'
    go_simp
    with_reducible rfl
   rotate_left
   ·simp only [Act.put, List.setIfInBounds_toArray, List.set_cons_zero, List.set_cons_succ, i64_w, i32_w]
    rfl
   refine take_ (i := 3) (N := some 20) (v := ?_) (a' := ?_) #[true, true, true, true, true, true, true, false, false, false] rfl rfl (take_ofW HT_.out HW_.out (by kernel_rfl)) (fun _ _ _ h => h) (Or.inl ⟨by rfl, ?_⟩) hHeld ?_ ?_
   rotate_left
   ·intro w' hs
    refine (run_load_of rfl rfl (HLA.out w' hs)).trans ?_
    with_reducible rfl
   rotate_left
   ·simp only [Act.put, List.setIfInBounds_toArray, List.set_cons_zero, List.set_cons_succ, i64_w, i32_w]
    rfl
   refine take_ (i := 7) (N := some 24) (v := ?_) (a' := ?_) #[true, true, true, true, true, true, true, true, false, false] rfl rfl (take_ofW HT_.out HW_.out (by kernel_rfl)) (fun _ _ _ h => h) (Or.inl ⟨by rfl, ?_⟩) hHeld ?_ ?_
   rotate_left
   ·intro w' hs
    refine (run_load_of rfl rfl (HLB.out w' hs)).trans ?_
    with_reducible rfl
   rotate_left
   ·simp only [Act.put, List.setIfInBounds_toArray, List.set_cons_zero, List.set_cons_succ, i64_w, i32_w]
    rfl
   refine one_ (i := 8) (N := some 25) #[true, true, true, true, true, true, true, true, true, false] rfl rfl (one_of HT_.out (by kernel_rfl)) (by decide) (fun K hK => ?_)
   refine goes_ Tryz.func61 (by kernel_rfl) rfl #[.agg csA.toArray, .agg csB.toArray] (by rfl) rfl rfl (by (try simp only [List.map_toArray, List.map_cons, List.map_nil]); first | done | rfl) ?_
   refine (show Calls Tryz.prog 61 #[.agg csA.toArray, .agg csB.toArray] w9 (fun e w' => e = .returned (.bool true) ∧ Below w9.heap.size w9 w') from by rw [HSA.out, HSB.out]; exact eqItem_calls x A2 c2 B2 d2 _ (Kd.C_below HCA2.out HB9.out) HLA2.out (Kd.C_below HCB2.out HB9.out) HLB2.out HLX.out).mono ?_
   rintro e wd ⟨rfl, hb⟩
   refine ⟨_, rfl, ?_⟩
   have HB2 := Aside0.mk (below_step HB9.out hb)
   refine hK.out _ _ (And.intro (fun j u h => (hb.cell (World.block_lt_of_cell? _ _ (hHeld.1 j u h))).trans (hHeld.1 j u h)) (fun j u h => (hb.cell (World.block_lt_of_cell? _ _ (hHeld.2 j u h))).trans (hHeld.2 j u h))) (fun hHeld => ?_)
   clear hK K hb
   refine norm_ (a' := ?_) ?_ ?_
   rotate_left
   ·show Act.put _ (some 25) _ = _
    simp only [Act.put, List.setIfInBounds_toArray, List.set_cons_zero, List.set_cons_succ, i64_w, i32_w]
    rfl
   refine pure_ (i := 9) (N := some 26) (v := ?_) (a' := ?_) #[true, true, true, true, true, true, true, true, true, true] rfl rfl (any_of HT_.out (by kernel_rfl)) (fun _ _ _ h => h) (Or.inl ⟨by rfl, ?_⟩) ?_ ?_
   rotate_left
   ·intro w'
    go_simp
    with_reducible rfl
   rotate_left
   ·simp only [Act.put, List.setIfInBounds_toArray, List.set_cons_zero, List.set_cons_succ, i64_w, i32_w]
    rfl
   refine done_ (done_of HT_.out (by kernel_rfl)) ?_
   try go_wp2
   go_roundg k1
   case measure => omega
   case rel => exact ⟨i + 1, by rw [w64n (by have := HFT.out.1; omega)], ⟨by have := HG.out; omega⟩, HB2⟩
  ·as_aux_lemma =>
   have tlt : decide (i < l.length) = false := decide_eq_false hlt
   clear hlt
   go_wp2
   go_ret
   exact ⟨rfl, HB.out⟩
def SessionLim (x : S126) : Prop := True ∧ x.f3.length ≤ 281474976710656
theorem isz_126 : (Tryz.prog.info? 126).map (·.size) = some 4 := by kernel_rfl
set_option maxHeartbeats 8000000 in
set_option maxRecDepth 100000 in
theorem eqSession_calls (x : S126) (A3 : Option Addr) (c3 : Nat) (B3 : Option Addr) (d3 : Nat) (w : World) (ha3 : Kd.C (Kd.int .u8) w A3 x.f3.length x.f3) (hca3 : x.f3.length ≤ c3) (hb3 : Kd.C (Kd.int .u8) w B3 x.f3.length x.f3) (hcb3 : x.f3.length ≤ d3) (hf : SessionLim x) :
 Calls Tryz.prog 105 #[.agg #[.int .i64 x.f0, .int .i64 x.f1, .int .i64 x.f2, .slice A3 x.f3.length c3], .agg #[.int .i64 x.f0, .int .i64 x.f1, .int .i64 x.f2, .slice B3 x.f3.length d3]] w fun e w' => e = .returned (.bool true) ∧ Below w.heap.size w w' := by
 have hu := Tryz.underlying126
 have HA3 := Aside0.mk ha3
 have HCA3 := Aside0.mk hca3
 have HB3 := Aside0.mk hb3
 have HCB3 := Aside0.mk hcb3
 have HFT := Aside0.mk hf
 clear hf ha3 hca3 hb3 hcb3
 go_enter Tryz.func105, Tryz.ntmps105
 go_wp2_with (first | ((with_reducible refine gate_dst (N := 2) rfl ?_); refine box_event ?hg (N := 2) ?hd (cs := #[.int .i64 x.f0, .int .i64 x.f1, .int .i64 x.f2, .slice A3 x.f3.length c3]) (t := 126) ?hr ?_; (case hd => rfl); (case hg => rfl); (case hr => first | (go_simp; done) | (go_simp; rfl)); intro gA hg wb2 hbox hb; have HW := Aside0.mk hb; have KA := Aside0.mk hbox; clear hb hbox hg) | ((with_reducible refine gate_dst (N := 3) rfl ?_); refine box_event ?hg (N := 3) ?hd (cs := #[.int .i64 x.f0, .int .i64 x.f1, .int .i64 x.f2, .slice B3 x.f3.length d3]) (t := 126) ?hr ?_; (case hd => rfl); (case hg => rfl); (case hr => first | (go_simp; done) | (go_simp; rfl)); intro gB hg wb3 hbox hb; replace HW := Aside0.mk (below_step HW.out hb); replace KA := Aside0.mk (blk_below KA.out hb); have KB := Aside0.mk hbox; have ka0 := blk_cell KA.out 0; have kb0 := blk_cell hbox 0; have ka1 := blk_cell KA.out 1; have kb1 := blk_cell hbox 1; have ka2 := blk_cell KA.out 2; have kb2 := blk_cell hbox 2; have ka3 := blk_cell KA.out 3; have kb3 := blk_cell hbox 3; clear hb hbox hg) | (go_at_call 8; refine (eqByteS_calls A3 c3 B3 d3 x.f3 _ (Kd.C_below HA3.out HW.out) HCA3.out (Kd.C_below HB3.out HW.out) HCB3.out HFT.out.2).mono ?_; rintro e wd ⟨rfl, hb⟩; replace KA := Aside0.mk (blk_below KA.out hb); replace KB := Aside0.mk (blk_below KB.out hb); replace ka0 := blk_cell KA.out 0; replace kb0 := blk_cell KB.out 0; replace ka1 := blk_cell KA.out 1; replace kb1 := blk_cell KB.out 1; replace ka2 := blk_cell KA.out 2; replace kb2 := blk_cell KB.out 2; replace ka3 := blk_cell KA.out 3; replace kb3 := blk_cell KB.out 3; replace HW := Aside0.mk (below_step HW.out hb); clear hb))
 go_ret
 exact ⟨rfl, HW.out⟩
def laws_eqSessionS.T6 : Bool × List (List Nat × List Nat) := (true, [([], []), ([], []), ([0, 1], [0, 1]), ([2], [2]), ([], []), ([], []), ([4, 5], [4, 5]), ([6], [6]), ([3, 7], [3, 7]), ([8], [8])])
def laws_eqSessionS.B6 : List Nat := [0, 0, 3, 7, 0, 0, 48, 112, 255, 511]
theorem laws_eqSessionS.tab6 : rtab .any (opsOf Tryz.f88 6) = laws_eqSessionS.T6 := by kernel_rfl
theorem laws_eqSessionS.bits6 : waitsOk laws_eqSessionS.T6.2 laws_eqSessionS.B6 = true := by kernel_rfl
set_option maxHeartbeats 8000000 in
set_option maxRecDepth 100000 in
theorem eqSessionS_calls (A : Option Addr) (cA : Nat) (B : Option Addr) (cB : Nat) (l : List S126) (w : World) (hrA : Kd.C k126 w A l.length l) (hcA : l.length ≤ cA) (hrB : Kd.C k126 w B l.length l) (hcB : l.length ≤ cB) (hf : l.length ≤ 281474976710656 ∧ ∀ y ∈ l, SessionLim y) :
 Calls Tryz.prog 88 #[.slice A l.length cA, .slice B l.length cB] w fun e w' => e = .returned (.bool true) ∧ Below w.heap.size w w' := by
 have HU := Aside0.mk Tryz.underlying126
 have HRA := Aside0.mk hrA
 have HRB := Aside0.mk hrB
 have HFT := Aside0.mk hf
 clear hrA hcA hrB hcB hf
 go_enter Tryz.func88, Tryz.ntmps88
 go_wp2
 go_loopg [5] l.length (fun gk v5 w' => ∃ i : Nat, v5 = .int .i64 (i : Nat) ∧ Aside0 (gk + i = l.length) ∧ Aside0 (Below w.heap.size w w'))
 case atStart => exact ⟨0, rfl, ⟨by omega⟩, ⟨Below.refl _ _⟩⟩
 case round =>
  obtain ⟨i, rfl, HG, HB⟩ := hrel
  by_cases hlt : i < l.length
  ·as_aux_lemma =>
   obtain ⟨k1, hk1⟩ : ∃ m, gk = m + 1 := ⟨gk - 1, by have := HG.out; omega⟩
   subst hk1
   obtain ⟨adA, csA, haA, _, hKA, hclA0⟩ := Kd.C_get HRA.out z126 (i : Int) (by omega) (by omega)
   obtain ⟨adB, csB, haB, _, hKB, hclB0⟩ := Kd.C_get HRB.out z126 (i : Int) (by omega) (by omega)
   have hclA : ∀ j u, csA[j]? = some u → w.cell? (adA.add (i * 4 + j)) = some u := hclA0
   have hclB : ∀ j u, csB[j]? = some u → w.cell? (adB.add (i * 4 + j)) = some u := hclB0
   cases haA
   cases haB
   obtain ⟨x, hx⟩ : ∃ x, x = l.getD (i : Int).toNat z126 := ⟨_, rfl⟩
   rw [← hx] at hKA hKB
   have HLX := Aside0.mk (show SessionLim x from HFT.out.2 x (by rw [hx, Int.toNat_natCast]; simp [List.getD, hlt]))
   obtain ⟨A3, c3, hcsA, hla3, hCa3⟩ := k126_open hKA
   obtain ⟨B3, d3, hcsB, hlb3, hCb3⟩ := k126_open hKB
   have HLA3 := Aside0.mk hla3
   have HCA3 := Aside0.mk hCa3
   have HLB3 := Aside0.mk hlb3
   have HCB3 := Aside0.mk hCb3
   clear hla3 hCa3 hlb3 hCb3
   have HSA := Aside0.mk hcsA
   have HSB := Aside0.mk hcsB
   have hA : ∀ j u, csA[j]? = some u → wr.cell? ((adA.add (i * 4)).add j) = some u := fun j u h => by rw [add_add]; exact (HB.out.cell (World.block_lt_of_cell? w _ (hclA j u h))).trans (hclA j u h)
   have hB : ∀ j u, csB[j]? = some u → wr.cell? ((adB.add (i * 4)).add j) = some u := fun j u h => by rw [add_add]; exact (HB.out.cell (World.block_lt_of_cell? w _ (hclB j u h))).trans (hclB j u h)
   have hsA : (Tryz.prog.info? 126).map (·.size) = some csA.length := by rw [hcsA]; exact isz_126
   have hsB : (Tryz.prog.info? 126).map (·.size) = some csB.length := by rw [hcsB]; exact isz_126
   have hLA : ∀ w', ((∀ j u, csA[j]? = some u → w'.cell? ((adA.add (i * 4)).add j) = some u) ∧ ∀ j u, csB[j]? = some u → w'.cell? ((adB.add (i * 4)).add j) = some u) → (Instr.loadAt 126 (.pointer (some (adA.add (i * 4))))).run Tryz.prog w' = .ok (.agg csA.toArray) w' := fun w' h => run_loadAt_at w' _ 126 csA _ h.1 HU.out rfl hsA
   have hLB : ∀ w', ((∀ j u, csA[j]? = some u → w'.cell? ((adA.add (i * 4)).add j) = some u) ∧ ∀ j u, csB[j]? = some u → w'.cell? ((adB.add (i * 4)).add j) = some u) → (Instr.loadAt 126 (.pointer (some (adB.add (i * 4))))).run Tryz.prog w' = .ok (.agg csB.toArray) w' := fun w' h => run_loadAt_at w' _ 126 csB _ h.2 HU.out rfl hsB
   have HAB := Aside0.mk (And.intro hA hB)
   have HLA := Aside0.mk hLA
   have HLB := Aside0.mk hLB
   clear hclA0 hclB0 hclA hclB hKA hKB hcsA hcsB hx hA hB hsA hsB hLA hLB
   go_upto_region 6 with fail
   refine start_ (n := 10) (S := fun w' => (∀ j u, csA[j]? = some u → w'.cell? ((adA.add (i * 4)).add j) = some u) ∧ ∀ j u, csB[j]? = some u → w'.cell? ((adB.add (i * 4)).add j) = some u) (ds := []) #[false, false, false, false, false, false, false, false, false, false] (by kernel_rfl) rfl rfl HAB.out (fun hHeld => ?_); refine with_tabW laws_eqSessionS.tab6 laws_eqSessionS.bits6 (fun HT_ HW_ => ?_)
   generalize hw9 : wr.drew = w9 at hHeld ⊢
   have HB9 := Aside0.mk (show Below w.heap.size w w9 by rw [← hw9]; exact below_drew1 HB.out)
   clear hw9
   refine pure_ (i := 0) (N := some 17) (v := ?_) (a' := ?_) #[true, false, false, false, false, false, false, false, false, false] rfl rfl (any_of HT_.out (by kernel_rfl)) (fun _ _ _ h => h) (Or.inl ⟨by rfl, ?_⟩) ?_ ?_
   rotate_left
   ·intro w'
    go_simp
    with_reducible rfl
   rotate_left
   ·simp only [Act.put, List.setIfInBounds_toArray, List.set_cons_zero, List.set_cons_succ, i64_w, i32_w]
    rfl
   refine pure_ (i := 1) (N := some 18) (v := ?_) (a' := ?_) #[true, true, false, false, false, false, false, false, false, false] rfl rfl (any_of HT_.out (by kernel_rfl)) (fun _ _ _ h => h) (Or.inl ⟨by rfl, ?_⟩) ?_ ?_
   rotate_left
   ·intro w'
    go_simp
    with_reducible rfl
   rotate_left
   ·simp only [Act.put, List.setIfInBounds_toArray, List.set_cons_zero, List.set_cons_succ, i64_w, i32_w]
    rfl
   refine pure_ (i := 2) (N := some 19) (v := ?_) (a' := ?_) #[true, true, true, false, false, false, false, false, false, false] rfl rfl (any_of HT_.out (by kernel_rfl)) (fun _ _ _ h => h) (Or.inl ⟨by rfl, ?_⟩) ?_ ?_
   rotate_left
   ·intro w'
    go_simp
    with_reducible rfl
   rotate_left
   ·simp only [Act.put, List.setIfInBounds_toArray, List.set_cons_zero, List.set_cons_succ, i64_w, i32_w]
    rfl
   refine pure_ (i := 4) (N := some 21) (v := ?_) (a' := ?_) #[true, true, true, false, true, false, false, false, false, false] rfl rfl (any_of HT_.out (by kernel_rfl)) (fun _ _ _ h => h) (Or.inl ⟨by rfl, ?_⟩) ?_ ?_
   rotate_left
   ·intro w'
    go_simp
    with_reducible rfl
   rotate_left
   ·simp only [Act.put, List.setIfInBounds_toArray, List.set_cons_zero, List.set_cons_succ, i64_w, i32_w]
    rfl
   refine pure_ (i := 5) (N := some 22) (v := ?_) (a' := ?_) #[true, true, true, false, true, true, false, false, false, false] rfl rfl (any_of HT_.out (by kernel_rfl)) (fun _ _ _ h => h) (Or.inl ⟨by rfl, ?_⟩) ?_ ?_
   rotate_left
   ·intro w'
    go_simp
    with_reducible rfl
   rotate_left
   ·simp only [Act.put, List.setIfInBounds_toArray, List.set_cons_zero, List.set_cons_succ, i64_w, i32_w]
    rfl
   refine pure_ (i := 6) (N := some 23) (v := ?_) (a' := ?_) #[true, true, true, false, true, true, true, false, false, false] rfl rfl (any_of HT_.out (by kernel_rfl)) (fun _ _ _ h => h) (Or.inl ⟨by rfl, ?_⟩) ?_ ?_
   rotate_left
   ·intro w'
    go_simp
    with_reducible rfl
   rotate_left
   ·simp only [Act.put, List.setIfInBounds_toArray, List.set_cons_zero, List.set_cons_succ, i64_w, i32_w]
    rfl
   refine take_ (i := 3) (N := some 20) (v := ?_) (a' := ?_) #[true, true, true, true, true, true, true, false, false, false] rfl rfl (take_ofW HT_.out HW_.out (by kernel_rfl)) (fun _ _ _ h => h) (Or.inl ⟨by rfl, ?_⟩) hHeld ?_ ?_
   rotate_left
   ·intro w' hs
    refine (run_load_of rfl rfl (HLA.out w' hs)).trans ?_
    with_reducible rfl
   rotate_left
   ·simp only [Act.put, List.setIfInBounds_toArray, List.set_cons_zero, List.set_cons_succ, i64_w, i32_w]
    rfl
   refine take_ (i := 7) (N := some 24) (v := ?_) (a' := ?_) #[true, true, true, true, true, true, true, true, false, false] rfl rfl (take_ofW HT_.out HW_.out (by kernel_rfl)) (fun _ _ _ h => h) (Or.inl ⟨by rfl, ?_⟩) hHeld ?_ ?_
   rotate_left
   ·intro w' hs
    refine (run_load_of rfl rfl (HLB.out w' hs)).trans ?_
    with_reducible rfl
   rotate_left
   ·simp only [Act.put, List.setIfInBounds_toArray, List.set_cons_zero, List.set_cons_succ, i64_w, i32_w]
    rfl
   refine one_ (i := 8) (N := some 25) #[true, true, true, true, true, true, true, true, true, false] rfl rfl (one_of HT_.out (by kernel_rfl)) (by decide) (fun K hK => ?_)
   refine goes_ Tryz.func105 (by kernel_rfl) rfl #[.agg csA.toArray, .agg csB.toArray] (by rfl) rfl rfl (by (try simp only [List.map_toArray, List.map_cons, List.map_nil]); first | done | rfl) ?_
   refine (show Calls Tryz.prog 105 #[.agg csA.toArray, .agg csB.toArray] w9 (fun e w' => e = .returned (.bool true) ∧ Below w9.heap.size w9 w') from by rw [HSA.out, HSB.out]; exact eqSession_calls x A3 c3 B3 d3 _ (Kd.C_below HCA3.out HB9.out) HLA3.out (Kd.C_below HCB3.out HB9.out) HLB3.out HLX.out).mono ?_
   rintro e wd ⟨rfl, hb⟩
   refine ⟨_, rfl, ?_⟩
   have HB2 := Aside0.mk (below_step HB9.out hb)
   refine hK.out _ _ (And.intro (fun j u h => (hb.cell (World.block_lt_of_cell? _ _ (hHeld.1 j u h))).trans (hHeld.1 j u h)) (fun j u h => (hb.cell (World.block_lt_of_cell? _ _ (hHeld.2 j u h))).trans (hHeld.2 j u h))) (fun hHeld => ?_)
   clear hK K hb
   refine norm_ (a' := ?_) ?_ ?_
   rotate_left
   ·show Act.put _ (some 25) _ = _
    simp only [Act.put, List.setIfInBounds_toArray, List.set_cons_zero, List.set_cons_succ, i64_w, i32_w]
    rfl
   refine pure_ (i := 9) (N := some 26) (v := ?_) (a' := ?_) #[true, true, true, true, true, true, true, true, true, true] rfl rfl (any_of HT_.out (by kernel_rfl)) (fun _ _ _ h => h) (Or.inl ⟨by rfl, ?_⟩) ?_ ?_
   rotate_left
   ·intro w'
    go_simp
    with_reducible rfl
   rotate_left
   ·simp only [Act.put, List.setIfInBounds_toArray, List.set_cons_zero, List.set_cons_succ, i64_w, i32_w]
    rfl
   refine done_ (done_of HT_.out (by kernel_rfl)) ?_
   try go_wp2
   go_roundg k1
   case measure => omega
   case rel => exact ⟨i + 1, by rw [w64n (by have := HFT.out.1; omega)], ⟨by have := HG.out; omega⟩, HB2⟩
  ·as_aux_lemma =>
   have tlt : decide (i < l.length) = false := decide_eq_false hlt
   clear hlt
   go_wp2
   go_ret
   exact ⟨rfl, HB.out⟩
def ServiceLim (x : S44) : Prop := True ∧ (x.f1.length ≤ 281474976710656 ∧ ∀ y ∈ x.f1, ItemLim y) ∧ (x.f2.length ≤ 281474976710656 ∧ ∀ y ∈ x.f2, SessionLim y)
theorem isz_44 : (Tryz.prog.info? 44).map (·.size) = some 3 := by kernel_rfl
set_option maxHeartbeats 8000000 in
set_option maxRecDepth 100000 in
theorem eqService_calls (x : S44) (A1 : Option Addr) (c1 : Nat) (B1 : Option Addr) (d1 : Nat) (A2 : Option Addr) (c2 : Nat) (B2 : Option Addr) (d2 : Nat) (w : World) (ha1 : Kd.C k40 w A1 x.f1.length x.f1) (hca1 : x.f1.length ≤ c1) (hb1 : Kd.C k40 w B1 x.f1.length x.f1) (hcb1 : x.f1.length ≤ d1) (ha2 : Kd.C k126 w A2 x.f2.length x.f2) (hca2 : x.f2.length ≤ c2) (hb2 : Kd.C k126 w B2 x.f2.length x.f2) (hcb2 : x.f2.length ≤ d2) (hf : ServiceLim x) :
 Calls Tryz.prog 62 #[.agg #[.int .i64 x.f0, .slice A1 x.f1.length c1, .slice A2 x.f2.length c2], .agg #[.int .i64 x.f0, .slice B1 x.f1.length d1, .slice B2 x.f2.length d2]] w fun e w' => e = .returned (.bool true) ∧ Below w.heap.size w w' := by
 have hu := Tryz.underlying44
 have HA1 := Aside0.mk ha1
 have HCA1 := Aside0.mk hca1
 have HB1 := Aside0.mk hb1
 have HCB1 := Aside0.mk hcb1
 have HA2 := Aside0.mk ha2
 have HCA2 := Aside0.mk hca2
 have HB2 := Aside0.mk hb2
 have HCB2 := Aside0.mk hcb2
 have HFT := Aside0.mk hf
 clear hf ha1 hca1 hb1 hcb1 ha2 hca2 hb2 hcb2
 go_enter Tryz.func62, Tryz.ntmps62
 go_wp2_with (first | ((with_reducible refine gate_dst (N := 2) rfl ?_); refine box_event ?hg (N := 2) ?hd (cs := #[.int .i64 x.f0, .slice A1 x.f1.length c1, .slice A2 x.f2.length c2]) (t := 44) ?hr ?_; (case hd => rfl); (case hg => rfl); (case hr => first | (go_simp; done) | (go_simp; rfl)); intro gA hg wb2 hbox hb; have HW := Aside0.mk hb; have KA := Aside0.mk hbox; clear hb hbox hg) | ((with_reducible refine gate_dst (N := 3) rfl ?_); refine box_event ?hg (N := 3) ?hd (cs := #[.int .i64 x.f0, .slice B1 x.f1.length d1, .slice B2 x.f2.length d2]) (t := 44) ?hr ?_; (case hd => rfl); (case hg => rfl); (case hr => first | (go_simp; done) | (go_simp; rfl)); intro gB hg wb3 hbox hb; replace HW := Aside0.mk (below_step HW.out hb); replace KA := Aside0.mk (blk_below KA.out hb); have KB := Aside0.mk hbox; have ka0 := blk_cell KA.out 0; have kb0 := blk_cell hbox 0; have ka1 := blk_cell KA.out 1; have kb1 := blk_cell hbox 1; have ka2 := blk_cell KA.out 2; have kb2 := blk_cell hbox 2; clear hb hbox hg) | (go_at_call 87; refine (eqItemS_calls A1 c1 B1 d1 x.f1 _ (Kd.C_below HA1.out HW.out) HCA1.out (Kd.C_below HB1.out HW.out) HCB1.out HFT.out.2.1).mono ?_; rintro e wd ⟨rfl, hb⟩; replace KA := Aside0.mk (blk_below KA.out hb); replace KB := Aside0.mk (blk_below KB.out hb); replace ka0 := blk_cell KA.out 0; replace kb0 := blk_cell KB.out 0; replace ka1 := blk_cell KA.out 1; replace kb1 := blk_cell KB.out 1; replace ka2 := blk_cell KA.out 2; replace kb2 := blk_cell KB.out 2; replace HW := Aside0.mk (below_step HW.out hb); clear hb) | (go_at_call 88; refine (eqSessionS_calls A2 c2 B2 d2 x.f2 _ (Kd.C_below HA2.out HW.out) HCA2.out (Kd.C_below HB2.out HW.out) HCB2.out HFT.out.2.2).mono ?_; rintro e wd ⟨rfl, hb⟩; replace KA := Aside0.mk (blk_below KA.out hb); replace KB := Aside0.mk (blk_below KB.out hb); replace ka0 := blk_cell KA.out 0; replace kb0 := blk_cell KB.out 0; replace ka1 := blk_cell KA.out 1; replace kb1 := blk_cell KB.out 1; replace ka2 := blk_cell KA.out 2; replace kb2 := blk_cell KB.out 2; replace HW := Aside0.mk (below_step HW.out hb); clear hb))
 go_ret
 exact ⟨rfl, HW.out⟩
def AckLim (x : S53) : Prop := True
theorem isz_53 : (Tryz.prog.info? 53).map (·.size) = some 5 := by kernel_rfl
set_option maxHeartbeats 8000000 in
set_option maxRecDepth 100000 in
theorem eqAck_calls (x : S53) (w : World) (hf : AckLim x) :
 Calls Tryz.prog 89 #[.agg #[.int .i64 x.f0, .int .i64 x.f1, .int .i64 x.f2, .int .i64 x.f3, .int .i64 x.f4], .agg #[.int .i64 x.f0, .int .i64 x.f1, .int .i64 x.f2, .int .i64 x.f3, .int .i64 x.f4]] w fun e w' => e = .returned (.bool true) ∧ Below w.heap.size w w' := by
 have hu := Tryz.underlying53
 have HFT := Aside0.mk hf
 clear hf
 go_enter Tryz.func89, Tryz.ntmps89
 go_wp2_with (first | ((with_reducible refine gate_dst (N := 2) rfl ?_); refine box_event ?hg (N := 2) ?hd (cs := #[.int .i64 x.f0, .int .i64 x.f1, .int .i64 x.f2, .int .i64 x.f3, .int .i64 x.f4]) (t := 53) ?hr ?_; (case hd => rfl); (case hg => rfl); (case hr => first | (go_simp; done) | (go_simp; rfl)); intro gA hg wb2 hbox hb; have HW := Aside0.mk hb; have KA := Aside0.mk hbox; clear hb hbox hg) | ((with_reducible refine gate_dst (N := 3) rfl ?_); refine box_event ?hg (N := 3) ?hd (cs := #[.int .i64 x.f0, .int .i64 x.f1, .int .i64 x.f2, .int .i64 x.f3, .int .i64 x.f4]) (t := 53) ?hr ?_; (case hd => rfl); (case hg => rfl); (case hr => first | (go_simp; done) | (go_simp; rfl)); intro gB hg wb3 hbox hb; replace HW := Aside0.mk (below_step HW.out hb); replace KA := Aside0.mk (blk_below KA.out hb); have KB := Aside0.mk hbox; have ka0 := blk_cell KA.out 0; have kb0 := blk_cell hbox 0; have ka1 := blk_cell KA.out 1; have kb1 := blk_cell hbox 1; have ka2 := blk_cell KA.out 2; have kb2 := blk_cell hbox 2; have ka3 := blk_cell KA.out 3; have kb3 := blk_cell hbox 3; have ka4 := blk_cell KA.out 4; have kb4 := blk_cell hbox 4; clear hb hbox hg))
 go_ret
 exact ⟨rfl, HW.out⟩
def laws_eqAckS.T6 : Bool × List (List Nat × List Nat) := (true, [([], []), ([], []), ([0, 1], [0, 1]), ([2], [2]), ([], []), ([], []), ([4, 5], [4, 5]), ([6], [6]), ([3, 7], [3, 7]), ([8], [8])])
def laws_eqAckS.B6 : List Nat := [0, 0, 3, 7, 0, 0, 48, 112, 255, 511]
theorem laws_eqAckS.tab6 : rtab .any (opsOf Tryz.f63 6) = laws_eqAckS.T6 := by kernel_rfl
theorem laws_eqAckS.bits6 : waitsOk laws_eqAckS.T6.2 laws_eqAckS.B6 = true := by kernel_rfl
set_option maxHeartbeats 8000000 in
set_option maxRecDepth 100000 in
theorem eqAckS_calls (A : Option Addr) (cA : Nat) (B : Option Addr) (cB : Nat) (l : List S53) (w : World) (hrA : Kd.C k53 w A l.length l) (hcA : l.length ≤ cA) (hrB : Kd.C k53 w B l.length l) (hcB : l.length ≤ cB) (hf : l.length ≤ 281474976710656 ∧ ∀ y ∈ l, AckLim y) :
 Calls Tryz.prog 63 #[.slice A l.length cA, .slice B l.length cB] w fun e w' => e = .returned (.bool true) ∧ Below w.heap.size w w' := by
 have HU := Aside0.mk Tryz.underlying53
 have HRA := Aside0.mk hrA
 have HRB := Aside0.mk hrB
 have HFT := Aside0.mk hf
 clear hrA hcA hrB hcB hf
 go_enter Tryz.func63, Tryz.ntmps63
 go_wp2
 go_loopg [5] l.length (fun gk v5 w' => ∃ i : Nat, v5 = .int .i64 (i : Nat) ∧ Aside0 (gk + i = l.length) ∧ Aside0 (Below w.heap.size w w'))
 case atStart => exact ⟨0, rfl, ⟨by omega⟩, ⟨Below.refl _ _⟩⟩
 case round =>
  obtain ⟨i, rfl, HG, HB⟩ := hrel
  by_cases hlt : i < l.length
  ·as_aux_lemma =>
   obtain ⟨k1, hk1⟩ : ∃ m, gk = m + 1 := ⟨gk - 1, by have := HG.out; omega⟩
   subst hk1
   obtain ⟨adA, csA, haA, _, hKA, hclA0⟩ := Kd.C_get HRA.out z53 (i : Int) (by omega) (by omega)
   obtain ⟨adB, csB, haB, _, hKB, hclB0⟩ := Kd.C_get HRB.out z53 (i : Int) (by omega) (by omega)
   have hclA : ∀ j u, csA[j]? = some u → w.cell? (adA.add (i * 5 + j)) = some u := hclA0
   have hclB : ∀ j u, csB[j]? = some u → w.cell? (adB.add (i * 5 + j)) = some u := hclB0
   cases haA
   cases haB
   obtain ⟨x, hx⟩ : ∃ x, x = l.getD (i : Int).toNat z53 := ⟨_, rfl⟩
   rw [← hx] at hKA hKB
   have HLX := Aside0.mk (show AckLim x from HFT.out.2 x (by rw [hx, Int.toNat_natCast]; simp [List.getD, hlt]))
   have hcsA := k53_open hKA
   have hcsB := k53_open hKB
   have HSA := Aside0.mk hcsA
   have HSB := Aside0.mk hcsB
   have hA : ∀ j u, csA[j]? = some u → wr.cell? ((adA.add (i * 5)).add j) = some u := fun j u h => by rw [add_add]; exact (HB.out.cell (World.block_lt_of_cell? w _ (hclA j u h))).trans (hclA j u h)
   have hB : ∀ j u, csB[j]? = some u → wr.cell? ((adB.add (i * 5)).add j) = some u := fun j u h => by rw [add_add]; exact (HB.out.cell (World.block_lt_of_cell? w _ (hclB j u h))).trans (hclB j u h)
   have hsA : (Tryz.prog.info? 53).map (·.size) = some csA.length := by rw [hcsA]; exact isz_53
   have hsB : (Tryz.prog.info? 53).map (·.size) = some csB.length := by rw [hcsB]; exact isz_53
   have hLA : ∀ w', ((∀ j u, csA[j]? = some u → w'.cell? ((adA.add (i * 5)).add j) = some u) ∧ ∀ j u, csB[j]? = some u → w'.cell? ((adB.add (i * 5)).add j) = some u) → (Instr.loadAt 53 (.pointer (some (adA.add (i * 5))))).run Tryz.prog w' = .ok (.agg csA.toArray) w' := fun w' h => run_loadAt_at w' _ 53 csA _ h.1 HU.out rfl hsA
   have hLB : ∀ w', ((∀ j u, csA[j]? = some u → w'.cell? ((adA.add (i * 5)).add j) = some u) ∧ ∀ j u, csB[j]? = some u → w'.cell? ((adB.add (i * 5)).add j) = some u) → (Instr.loadAt 53 (.pointer (some (adB.add (i * 5))))).run Tryz.prog w' = .ok (.agg csB.toArray) w' := fun w' h => run_loadAt_at w' _ 53 csB _ h.2 HU.out rfl hsB
   have HAB := Aside0.mk (And.intro hA hB)
   have HLA := Aside0.mk hLA
   have HLB := Aside0.mk hLB
   clear hclA0 hclB0 hclA hclB hKA hKB hcsA hcsB hx hA hB hsA hsB hLA hLB
   go_upto_region 6 with fail
   refine start_ (n := 10) (S := fun w' => (∀ j u, csA[j]? = some u → w'.cell? ((adA.add (i * 5)).add j) = some u) ∧ ∀ j u, csB[j]? = some u → w'.cell? ((adB.add (i * 5)).add j) = some u) (ds := []) #[false, false, false, false, false, false, false, false, false, false] (by kernel_rfl) rfl rfl HAB.out (fun hHeld => ?_); refine with_tabW laws_eqAckS.tab6 laws_eqAckS.bits6 (fun HT_ HW_ => ?_)
   generalize hw9 : wr.drew = w9 at hHeld ⊢
   have HB9 := Aside0.mk (show Below w.heap.size w w9 by rw [← hw9]; exact below_drew1 HB.out)
   clear hw9
   refine pure_ (i := 0) (N := some 17) (v := ?_) (a' := ?_) #[true, false, false, false, false, false, false, false, false, false] rfl rfl (any_of HT_.out (by kernel_rfl)) (fun _ _ _ h => h) (Or.inl ⟨by rfl, ?_⟩) ?_ ?_
   rotate_left
   ·intro w'
    go_simp
    with_reducible rfl
   rotate_left
   ·simp only [Act.put, List.setIfInBounds_toArray, List.set_cons_zero, List.set_cons_succ, i64_w, i32_w]
    rfl
   refine pure_ (i := 1) (N := some 18) (v := ?_) (a' := ?_) #[true, true, false, false, false, false, false, false, false, false] rfl rfl (any_of HT_.out (by kernel_rfl)) (fun _ _ _ h => h) (Or.inl ⟨by rfl, ?_⟩) ?_ ?_
   rotate_left
   ·intro w'
    go_simp
    with_reducible rfl
   rotate_left
   ·simp only [Act.put, List.setIfInBounds_toArray, List.set_cons_zero, List.set_cons_succ, i64_w, i32_w]
    rfl
   refine pure_ (i := 2) (N := some 19) (v := ?_) (a' := ?_) #[true, true, true, false, false, false, false, false, false, false] rfl rfl (any_of HT_.out (by kernel_rfl)) (fun _ _ _ h => h) (Or.inl ⟨by rfl, ?_⟩) ?_ ?_
   rotate_left
   ·intro w'
    go_simp
    with_reducible rfl
   rotate_left
   ·simp only [Act.put, List.setIfInBounds_toArray, List.set_cons_zero, List.set_cons_succ, i64_w, i32_w]
    rfl
   refine pure_ (i := 4) (N := some 21) (v := ?_) (a' := ?_) #[true, true, true, false, true, false, false, false, false, false] rfl rfl (any_of HT_.out (by kernel_rfl)) (fun _ _ _ h => h) (Or.inl ⟨by rfl, ?_⟩) ?_ ?_
   rotate_left
   ·intro w'
    go_simp
    with_reducible rfl
   rotate_left
   ·simp only [Act.put, List.setIfInBounds_toArray, List.set_cons_zero, List.set_cons_succ, i64_w, i32_w]
    rfl
   refine pure_ (i := 5) (N := some 22) (v := ?_) (a' := ?_) #[true, true, true, false, true, true, false, false, false, false] rfl rfl (any_of HT_.out (by kernel_rfl)) (fun _ _ _ h => h) (Or.inl ⟨by rfl, ?_⟩) ?_ ?_
   rotate_left
   ·intro w'
    go_simp
    with_reducible rfl
   rotate_left
   ·simp only [Act.put, List.setIfInBounds_toArray, List.set_cons_zero, List.set_cons_succ, i64_w, i32_w]
    rfl
   refine pure_ (i := 6) (N := some 23) (v := ?_) (a' := ?_) #[true, true, true, false, true, true, true, false, false, false] rfl rfl (any_of HT_.out (by kernel_rfl)) (fun _ _ _ h => h) (Or.inl ⟨by rfl, ?_⟩) ?_ ?_
   rotate_left
   ·intro w'
    go_simp
    with_reducible rfl
   rotate_left
   ·simp only [Act.put, List.setIfInBounds_toArray, List.set_cons_zero, List.set_cons_succ, i64_w, i32_w]
    rfl
   refine take_ (i := 3) (N := some 20) (v := ?_) (a' := ?_) #[true, true, true, true, true, true, true, false, false, false] rfl rfl (take_ofW HT_.out HW_.out (by kernel_rfl)) (fun _ _ _ h => h) (Or.inl ⟨by rfl, ?_⟩) hHeld ?_ ?_
   rotate_left
   ·intro w' hs
    refine (run_load_of rfl rfl (HLA.out w' hs)).trans ?_
    with_reducible rfl
   rotate_left
   ·simp only [Act.put, List.setIfInBounds_toArray, List.set_cons_zero, List.set_cons_succ, i64_w, i32_w]
    rfl
   refine take_ (i := 7) (N := some 24) (v := ?_) (a' := ?_) #[true, true, true, true, true, true, true, true, false, false] rfl rfl (take_ofW HT_.out HW_.out (by kernel_rfl)) (fun _ _ _ h => h) (Or.inl ⟨by rfl, ?_⟩) hHeld ?_ ?_
   rotate_left
   ·intro w' hs
    refine (run_load_of rfl rfl (HLB.out w' hs)).trans ?_
    with_reducible rfl
   rotate_left
   ·simp only [Act.put, List.setIfInBounds_toArray, List.set_cons_zero, List.set_cons_succ, i64_w, i32_w]
    rfl
   refine one_ (i := 8) (N := some 25) #[true, true, true, true, true, true, true, true, true, false] rfl rfl (one_of HT_.out (by kernel_rfl)) (by decide) (fun K hK => ?_)
   refine goes_ Tryz.func89 (by kernel_rfl) rfl #[.agg csA.toArray, .agg csB.toArray] (by rfl) rfl rfl (by (try simp only [List.map_toArray, List.map_cons, List.map_nil]); first | done | rfl) ?_
   refine (show Calls Tryz.prog 89 #[.agg csA.toArray, .agg csB.toArray] w9 (fun e w' => e = .returned (.bool true) ∧ Below w9.heap.size w9 w') from by rw [HSA.out, HSB.out]; exact eqAck_calls x _  HLX.out).mono ?_
   rintro e wd ⟨rfl, hb⟩
   refine ⟨_, rfl, ?_⟩
   have HB2 := Aside0.mk (below_step HB9.out hb)
   refine hK.out _ _ (And.intro (fun j u h => (hb.cell (World.block_lt_of_cell? _ _ (hHeld.1 j u h))).trans (hHeld.1 j u h)) (fun j u h => (hb.cell (World.block_lt_of_cell? _ _ (hHeld.2 j u h))).trans (hHeld.2 j u h))) (fun hHeld => ?_)
   clear hK K hb
   refine norm_ (a' := ?_) ?_ ?_
   rotate_left
   ·show Act.put _ (some 25) _ = _
    simp only [Act.put, List.setIfInBounds_toArray, List.set_cons_zero, List.set_cons_succ, i64_w, i32_w]
    rfl
   refine pure_ (i := 9) (N := some 26) (v := ?_) (a' := ?_) #[true, true, true, true, true, true, true, true, true, true] rfl rfl (any_of HT_.out (by kernel_rfl)) (fun _ _ _ h => h) (Or.inl ⟨by rfl, ?_⟩) ?_ ?_
   rotate_left
   ·intro w'
    go_simp
    with_reducible rfl
   rotate_left
   ·simp only [Act.put, List.setIfInBounds_toArray, List.set_cons_zero, List.set_cons_succ, i64_w, i32_w]
    rfl
   refine done_ (done_of HT_.out (by kernel_rfl)) ?_
   try go_wp2
   go_roundg k1
   case measure => omega
   case rel => exact ⟨i + 1, by rw [w64n (by have := HFT.out.1; omega)], ⟨by have := HG.out; omega⟩, HB2⟩
  ·as_aux_lemma =>
   have tlt : decide (i < l.length) = false := decide_eq_false hlt
   clear hlt
   go_wp2
   go_ret
   exact ⟨rfl, HB.out⟩
def EntryLim (x : S158) : Prop := True ∧ x.f1.length ≤ 281474976710656
theorem isz_158 : (Tryz.prog.info? 158).map (·.size) = some 2 := by kernel_rfl
set_option maxHeartbeats 8000000 in
set_option maxRecDepth 100000 in
theorem eqEntry_calls (x : S158) (A1 : Option Addr) (c1 : Nat) (B1 : Option Addr) (d1 : Nat) (w : World) (ha1 : Kd.C (Kd.int .u8) w A1 x.f1.length x.f1) (hca1 : x.f1.length ≤ c1) (hb1 : Kd.C (Kd.int .u8) w B1 x.f1.length x.f1) (hcb1 : x.f1.length ≤ d1) (hf : EntryLim x) :
 Calls Tryz.prog 113 #[.agg #[.int .i64 x.f0, .slice A1 x.f1.length c1], .agg #[.int .i64 x.f0, .slice B1 x.f1.length d1]] w fun e w' => e = .returned (.bool true) ∧ Below w.heap.size w w' := by
 have hu := Tryz.underlying158
 have HA1 := Aside0.mk ha1
 have HCA1 := Aside0.mk hca1
 have HB1 := Aside0.mk hb1
 have HCB1 := Aside0.mk hcb1
 have HFT := Aside0.mk hf
 clear hf ha1 hca1 hb1 hcb1
 go_enter Tryz.func113, Tryz.ntmps113
 go_wp2_with (first | ((with_reducible refine gate_dst (N := 2) rfl ?_); refine box_event ?hg (N := 2) ?hd (cs := #[.int .i64 x.f0, .slice A1 x.f1.length c1]) (t := 158) ?hr ?_; (case hd => rfl); (case hg => rfl); (case hr => first | (go_simp; done) | (go_simp; rfl)); intro gA hg wb2 hbox hb; have HW := Aside0.mk hb; have KA := Aside0.mk hbox; clear hb hbox hg) | ((with_reducible refine gate_dst (N := 3) rfl ?_); refine box_event ?hg (N := 3) ?hd (cs := #[.int .i64 x.f0, .slice B1 x.f1.length d1]) (t := 158) ?hr ?_; (case hd => rfl); (case hg => rfl); (case hr => first | (go_simp; done) | (go_simp; rfl)); intro gB hg wb3 hbox hb; replace HW := Aside0.mk (below_step HW.out hb); replace KA := Aside0.mk (blk_below KA.out hb); have KB := Aside0.mk hbox; have ka0 := blk_cell KA.out 0; have kb0 := blk_cell hbox 0; have ka1 := blk_cell KA.out 1; have kb1 := blk_cell hbox 1; clear hb hbox hg) | (go_at_call 8; refine (eqByteS_calls A1 c1 B1 d1 x.f1 _ (Kd.C_below HA1.out HW.out) HCA1.out (Kd.C_below HB1.out HW.out) HCB1.out HFT.out.2).mono ?_; rintro e wd ⟨rfl, hb⟩; replace KA := Aside0.mk (blk_below KA.out hb); replace KB := Aside0.mk (blk_below KB.out hb); replace ka0 := blk_cell KA.out 0; replace kb0 := blk_cell KB.out 0; replace ka1 := blk_cell KA.out 1; replace kb1 := blk_cell KB.out 1; replace HW := Aside0.mk (below_step HW.out hb); clear hb))
 go_ret
 exact ⟨rfl, HW.out⟩
def laws_eqEntryS.T6 : Bool × List (List Nat × List Nat) := (true, [([], []), ([], []), ([0, 1], [0, 1]), ([2], [2]), ([], []), ([], []), ([4, 5], [4, 5]), ([6], [6]), ([3, 7], [3, 7]), ([8], [8])])
def laws_eqEntryS.B6 : List Nat := [0, 0, 3, 7, 0, 0, 48, 112, 255, 511]
theorem laws_eqEntryS.tab6 : rtab .any (opsOf Tryz.f106 6) = laws_eqEntryS.T6 := by kernel_rfl
theorem laws_eqEntryS.bits6 : waitsOk laws_eqEntryS.T6.2 laws_eqEntryS.B6 = true := by kernel_rfl
set_option maxHeartbeats 8000000 in
set_option maxRecDepth 100000 in
theorem eqEntryS_calls (A : Option Addr) (cA : Nat) (B : Option Addr) (cB : Nat) (l : List S158) (w : World) (hrA : Kd.C k158 w A l.length l) (hcA : l.length ≤ cA) (hrB : Kd.C k158 w B l.length l) (hcB : l.length ≤ cB) (hf : l.length ≤ 281474976710656 ∧ ∀ y ∈ l, EntryLim y) :
 Calls Tryz.prog 106 #[.slice A l.length cA, .slice B l.length cB] w fun e w' => e = .returned (.bool true) ∧ Below w.heap.size w w' := by
 have HU := Aside0.mk Tryz.underlying158
 have HRA := Aside0.mk hrA
 have HRB := Aside0.mk hrB
 have HFT := Aside0.mk hf
 clear hrA hcA hrB hcB hf
 go_enter Tryz.func106, Tryz.ntmps106
 go_wp2
 go_loopg [5] l.length (fun gk v5 w' => ∃ i : Nat, v5 = .int .i64 (i : Nat) ∧ Aside0 (gk + i = l.length) ∧ Aside0 (Below w.heap.size w w'))
 case atStart => exact ⟨0, rfl, ⟨by omega⟩, ⟨Below.refl _ _⟩⟩
 case round =>
  obtain ⟨i, rfl, HG, HB⟩ := hrel
  by_cases hlt : i < l.length
  ·as_aux_lemma =>
   obtain ⟨k1, hk1⟩ : ∃ m, gk = m + 1 := ⟨gk - 1, by have := HG.out; omega⟩
   subst hk1
   obtain ⟨adA, csA, haA, _, hKA, hclA0⟩ := Kd.C_get HRA.out z158 (i : Int) (by omega) (by omega)
   obtain ⟨adB, csB, haB, _, hKB, hclB0⟩ := Kd.C_get HRB.out z158 (i : Int) (by omega) (by omega)
   have hclA : ∀ j u, csA[j]? = some u → w.cell? (adA.add (i * 2 + j)) = some u := hclA0
   have hclB : ∀ j u, csB[j]? = some u → w.cell? (adB.add (i * 2 + j)) = some u := hclB0
   cases haA
   cases haB
   obtain ⟨x, hx⟩ : ∃ x, x = l.getD (i : Int).toNat z158 := ⟨_, rfl⟩
   rw [← hx] at hKA hKB
   have HLX := Aside0.mk (show EntryLim x from HFT.out.2 x (by rw [hx, Int.toNat_natCast]; simp [List.getD, hlt]))
   obtain ⟨A1, c1, hcsA, hla1, hCa1⟩ := k158_open hKA
   obtain ⟨B1, d1, hcsB, hlb1, hCb1⟩ := k158_open hKB
   have HLA1 := Aside0.mk hla1
   have HCA1 := Aside0.mk hCa1
   have HLB1 := Aside0.mk hlb1
   have HCB1 := Aside0.mk hCb1
   clear hla1 hCa1 hlb1 hCb1
   have HSA := Aside0.mk hcsA
   have HSB := Aside0.mk hcsB
   have hA : ∀ j u, csA[j]? = some u → wr.cell? ((adA.add (i * 2)).add j) = some u := fun j u h => by rw [add_add]; exact (HB.out.cell (World.block_lt_of_cell? w _ (hclA j u h))).trans (hclA j u h)
   have hB : ∀ j u, csB[j]? = some u → wr.cell? ((adB.add (i * 2)).add j) = some u := fun j u h => by rw [add_add]; exact (HB.out.cell (World.block_lt_of_cell? w _ (hclB j u h))).trans (hclB j u h)
   have hsA : (Tryz.prog.info? 158).map (·.size) = some csA.length := by rw [hcsA]; exact isz_158
   have hsB : (Tryz.prog.info? 158).map (·.size) = some csB.length := by rw [hcsB]; exact isz_158
   have hLA : ∀ w', ((∀ j u, csA[j]? = some u → w'.cell? ((adA.add (i * 2)).add j) = some u) ∧ ∀ j u, csB[j]? = some u → w'.cell? ((adB.add (i * 2)).add j) = some u) → (Instr.loadAt 158 (.pointer (some (adA.add (i * 2))))).run Tryz.prog w' = .ok (.agg csA.toArray) w' := fun w' h => run_loadAt_at w' _ 158 csA _ h.1 HU.out rfl hsA
   have hLB : ∀ w', ((∀ j u, csA[j]? = some u → w'.cell? ((adA.add (i * 2)).add j) = some u) ∧ ∀ j u, csB[j]? = some u → w'.cell? ((adB.add (i * 2)).add j) = some u) → (Instr.loadAt 158 (.pointer (some (adB.add (i * 2))))).run Tryz.prog w' = .ok (.agg csB.toArray) w' := fun w' h => run_loadAt_at w' _ 158 csB _ h.2 HU.out rfl hsB
   have HAB := Aside0.mk (And.intro hA hB)
   have HLA := Aside0.mk hLA
   have HLB := Aside0.mk hLB
   clear hclA0 hclB0 hclA hclB hKA hKB hcsA hcsB hx hA hB hsA hsB hLA hLB
   go_upto_region 6 with fail
   refine start_ (n := 10) (S := fun w' => (∀ j u, csA[j]? = some u → w'.cell? ((adA.add (i * 2)).add j) = some u) ∧ ∀ j u, csB[j]? = some u → w'.cell? ((adB.add (i * 2)).add j) = some u) (ds := []) #[false, false, false, false, false, false, false, false, false, false] (by kernel_rfl) rfl rfl HAB.out (fun hHeld => ?_); refine with_tabW laws_eqEntryS.tab6 laws_eqEntryS.bits6 (fun HT_ HW_ => ?_)
   generalize hw9 : wr.drew = w9 at hHeld ⊢
   have HB9 := Aside0.mk (show Below w.heap.size w w9 by rw [← hw9]; exact below_drew1 HB.out)
   clear hw9
   refine pure_ (i := 0) (N := some 17) (v := ?_) (a' := ?_) #[true, false, false, false, false, false, false, false, false, false] rfl rfl (any_of HT_.out (by kernel_rfl)) (fun _ _ _ h => h) (Or.inl ⟨by rfl, ?_⟩) ?_ ?_
   rotate_left
   ·intro w'
    go_simp
    with_reducible rfl
   rotate_left
   ·simp only [Act.put, List.setIfInBounds_toArray, List.set_cons_zero, List.set_cons_succ, i64_w, i32_w]
    rfl
   refine pure_ (i := 1) (N := some 18) (v := ?_) (a' := ?_) #[true, true, false, false, false, false, false, false, false, false] rfl rfl (any_of HT_.out (by kernel_rfl)) (fun _ _ _ h => h) (Or.inl ⟨by rfl, ?_⟩) ?_ ?_
   rotate_left
   ·intro w'
    go_simp
    with_reducible rfl
   rotate_left
   ·simp only [Act.put, List.setIfInBounds_toArray, List.set_cons_zero, List.set_cons_succ, i64_w, i32_w]
    rfl
   refine pure_ (i := 2) (N := some 19) (v := ?_) (a' := ?_) #[true, true, true, false, false, false, false, false, false, false] rfl rfl (any_of HT_.out (by kernel_rfl)) (fun _ _ _ h => h) (Or.inl ⟨by rfl, ?_⟩) ?_ ?_
   rotate_left
   ·intro w'
    go_simp
    with_reducible rfl
   rotate_left
   ·simp only [Act.put, List.setIfInBounds_toArray, List.set_cons_zero, List.set_cons_succ, i64_w, i32_w]
    rfl
   refine pure_ (i := 4) (N := some 21) (v := ?_) (a' := ?_) #[true, true, true, false, true, false, false, false, false, false] rfl rfl (any_of HT_.out (by kernel_rfl)) (fun _ _ _ h => h) (Or.inl ⟨by rfl, ?_⟩) ?_ ?_
   rotate_left
   ·intro w'
    go_simp
    with_reducible rfl
   rotate_left
   ·simp only [Act.put, List.setIfInBounds_toArray, List.set_cons_zero, List.set_cons_succ, i64_w, i32_w]
    rfl
   refine pure_ (i := 5) (N := some 22) (v := ?_) (a' := ?_) #[true, true, true, false, true, true, false, false, false, false] rfl rfl (any_of HT_.out (by kernel_rfl)) (fun _ _ _ h => h) (Or.inl ⟨by rfl, ?_⟩) ?_ ?_
   rotate_left
   ·intro w'
    go_simp
    with_reducible rfl
   rotate_left
   ·simp only [Act.put, List.setIfInBounds_toArray, List.set_cons_zero, List.set_cons_succ, i64_w, i32_w]
    rfl
   refine pure_ (i := 6) (N := some 23) (v := ?_) (a' := ?_) #[true, true, true, false, true, true, true, false, false, false] rfl rfl (any_of HT_.out (by kernel_rfl)) (fun _ _ _ h => h) (Or.inl ⟨by rfl, ?_⟩) ?_ ?_
   rotate_left
   ·intro w'
    go_simp
    with_reducible rfl
   rotate_left
   ·simp only [Act.put, List.setIfInBounds_toArray, List.set_cons_zero, List.set_cons_succ, i64_w, i32_w]
    rfl
   refine take_ (i := 3) (N := some 20) (v := ?_) (a' := ?_) #[true, true, true, true, true, true, true, false, false, false] rfl rfl (take_ofW HT_.out HW_.out (by kernel_rfl)) (fun _ _ _ h => h) (Or.inl ⟨by rfl, ?_⟩) hHeld ?_ ?_
   rotate_left
   ·intro w' hs
    refine (run_load_of rfl rfl (HLA.out w' hs)).trans ?_
    with_reducible rfl
   rotate_left
   ·simp only [Act.put, List.setIfInBounds_toArray, List.set_cons_zero, List.set_cons_succ, i64_w, i32_w]
    rfl
   refine take_ (i := 7) (N := some 24) (v := ?_) (a' := ?_) #[true, true, true, true, true, true, true, true, false, false] rfl rfl (take_ofW HT_.out HW_.out (by kernel_rfl)) (fun _ _ _ h => h) (Or.inl ⟨by rfl, ?_⟩) hHeld ?_ ?_
   rotate_left
   ·intro w' hs
    refine (run_load_of rfl rfl (HLB.out w' hs)).trans ?_
    with_reducible rfl
   rotate_left
   ·simp only [Act.put, List.setIfInBounds_toArray, List.set_cons_zero, List.set_cons_succ, i64_w, i32_w]
    rfl
   refine one_ (i := 8) (N := some 25) #[true, true, true, true, true, true, true, true, true, false] rfl rfl (one_of HT_.out (by kernel_rfl)) (by decide) (fun K hK => ?_)
   refine goes_ Tryz.func113 (by kernel_rfl) rfl #[.agg csA.toArray, .agg csB.toArray] (by rfl) rfl rfl (by (try simp only [List.map_toArray, List.map_cons, List.map_nil]); first | done | rfl) ?_
   refine (show Calls Tryz.prog 113 #[.agg csA.toArray, .agg csB.toArray] w9 (fun e w' => e = .returned (.bool true) ∧ Below w9.heap.size w9 w') from by rw [HSA.out, HSB.out]; exact eqEntry_calls x A1 c1 B1 d1 _ (Kd.C_below HCA1.out HB9.out) HLA1.out (Kd.C_below HCB1.out HB9.out) HLB1.out HLX.out).mono ?_
   rintro e wd ⟨rfl, hb⟩
   refine ⟨_, rfl, ?_⟩
   have HB2 := Aside0.mk (below_step HB9.out hb)
   refine hK.out _ _ (And.intro (fun j u h => (hb.cell (World.block_lt_of_cell? _ _ (hHeld.1 j u h))).trans (hHeld.1 j u h)) (fun j u h => (hb.cell (World.block_lt_of_cell? _ _ (hHeld.2 j u h))).trans (hHeld.2 j u h))) (fun hHeld => ?_)
   clear hK K hb
   refine norm_ (a' := ?_) ?_ ?_
   rotate_left
   ·show Act.put _ (some 25) _ = _
    simp only [Act.put, List.setIfInBounds_toArray, List.set_cons_zero, List.set_cons_succ, i64_w, i32_w]
    rfl
   refine pure_ (i := 9) (N := some 26) (v := ?_) (a' := ?_) #[true, true, true, true, true, true, true, true, true, true] rfl rfl (any_of HT_.out (by kernel_rfl)) (fun _ _ _ h => h) (Or.inl ⟨by rfl, ?_⟩) ?_ ?_
   rotate_left
   ·intro w'
    go_simp
    with_reducible rfl
   rotate_left
   ·simp only [Act.put, List.setIfInBounds_toArray, List.set_cons_zero, List.set_cons_succ, i64_w, i32_w]
    rfl
   refine done_ (done_of HT_.out (by kernel_rfl)) ?_
   try go_wp2
   go_roundg k1
   case measure => omega
   case rel => exact ⟨i + 1, by rw [w64n (by have := HFT.out.1; omega)], ⟨by have := HG.out; omega⟩, HB2⟩
  ·as_aux_lemma =>
   have tlt : decide (i < l.length) = false := decide_eq_false hlt
   clear hlt
   go_wp2
   go_ret
   exact ⟨rfl, HB.out⟩
def MessageLim (x : S129) : Prop := True ∧ (x.f8.length ≤ 281474976710656 ∧ ∀ y ∈ x.f8, EntryLim y) ∧ x.f9.length ≤ 281474976710656
theorem isz_129 : (Tryz.prog.info? 129).map (·.size) = some 10 := by kernel_rfl
set_option maxHeartbeats 8000000 in
set_option maxRecDepth 100000 in
theorem eqMessage_calls (x : S129) (A8 : Option Addr) (c8 : Nat) (B8 : Option Addr) (d8 : Nat) (A9 : Option Addr) (c9 : Nat) (B9 : Option Addr) (d9 : Nat) (w : World) (ha8 : Kd.C k158 w A8 x.f8.length x.f8) (hca8 : x.f8.length ≤ c8) (hb8 : Kd.C k158 w B8 x.f8.length x.f8) (hcb8 : x.f8.length ≤ d8) (ha9 : Kd.C (Kd.int .u8) w A9 x.f9.length x.f9) (hca9 : x.f9.length ≤ c9) (hb9 : Kd.C (Kd.int .u8) w B9 x.f9.length x.f9) (hcb9 : x.f9.length ≤ d9) (hf : MessageLim x) :
 Calls Tryz.prog 90 #[.agg #[.int .i64 x.f0, .int .i64 x.f1, .int .i64 x.f2, .int .i64 x.f3, .int .i64 x.f4, .int .i64 x.f5, .int .i64 x.f6, .bool x.f7, .slice A8 x.f8.length c8, .slice A9 x.f9.length c9], .agg #[.int .i64 x.f0, .int .i64 x.f1, .int .i64 x.f2, .int .i64 x.f3, .int .i64 x.f4, .int .i64 x.f5, .int .i64 x.f6, .bool x.f7, .slice B8 x.f8.length d8, .slice B9 x.f9.length d9]] w fun e w' => e = .returned (.bool true) ∧ Below w.heap.size w w' := by
 have hu := Tryz.underlying129
 have HA8 := Aside0.mk ha8
 have HCA8 := Aside0.mk hca8
 have HB8 := Aside0.mk hb8
 have HCB8 := Aside0.mk hcb8
 have HA9 := Aside0.mk ha9
 have HCA9 := Aside0.mk hca9
 have HB9 := Aside0.mk hb9
 have HCB9 := Aside0.mk hcb9
 have HFT := Aside0.mk hf
 clear hf ha8 hca8 hb8 hcb8 ha9 hca9 hb9 hcb9
 go_enter Tryz.func90, Tryz.ntmps90
 go_wp2_with (first | ((with_reducible refine gate_dst (N := 2) rfl ?_); refine box_event ?hg (N := 2) ?hd (cs := #[.int .i64 x.f0, .int .i64 x.f1, .int .i64 x.f2, .int .i64 x.f3, .int .i64 x.f4, .int .i64 x.f5, .int .i64 x.f6, .bool x.f7, .slice A8 x.f8.length c8, .slice A9 x.f9.length c9]) (t := 129) ?hr ?_; (case hd => rfl); (case hg => rfl); (case hr => first | (go_simp; done) | (go_simp; rfl)); intro gA hg wb2 hbox hb; have HW := Aside0.mk hb; have KA := Aside0.mk hbox; clear hb hbox hg) | ((with_reducible refine gate_dst (N := 3) rfl ?_); refine box_event ?hg (N := 3) ?hd (cs := #[.int .i64 x.f0, .int .i64 x.f1, .int .i64 x.f2, .int .i64 x.f3, .int .i64 x.f4, .int .i64 x.f5, .int .i64 x.f6, .bool x.f7, .slice B8 x.f8.length d8, .slice B9 x.f9.length d9]) (t := 129) ?hr ?_; (case hd => rfl); (case hg => rfl); (case hr => first | (go_simp; done) | (go_simp; rfl)); intro gB hg wb3 hbox hb; replace HW := Aside0.mk (below_step HW.out hb); replace KA := Aside0.mk (blk_below KA.out hb); have KB := Aside0.mk hbox; have ka0 := blk_cell KA.out 0; have kb0 := blk_cell hbox 0; have ka1 := blk_cell KA.out 1; have kb1 := blk_cell hbox 1; have ka2 := blk_cell KA.out 2; have kb2 := blk_cell hbox 2; have ka3 := blk_cell KA.out 3; have kb3 := blk_cell hbox 3; have ka4 := blk_cell KA.out 4; have kb4 := blk_cell hbox 4; have ka5 := blk_cell KA.out 5; have kb5 := blk_cell hbox 5; have ka6 := blk_cell KA.out 6; have kb6 := blk_cell hbox 6; have ka7 := blk_cell KA.out 7; have kb7 := blk_cell hbox 7; have ka8 := blk_cell KA.out 8; have kb8 := blk_cell hbox 8; have ka9 := blk_cell KA.out 9; have kb9 := blk_cell hbox 9; clear hb hbox hg) | (go_at_call 106; refine (eqEntryS_calls A8 c8 B8 d8 x.f8 _ (Kd.C_below HA8.out HW.out) HCA8.out (Kd.C_below HB8.out HW.out) HCB8.out HFT.out.2.1).mono ?_; rintro e wd ⟨rfl, hb⟩; replace KA := Aside0.mk (blk_below KA.out hb); replace KB := Aside0.mk (blk_below KB.out hb); replace ka0 := blk_cell KA.out 0; replace kb0 := blk_cell KB.out 0; replace ka1 := blk_cell KA.out 1; replace kb1 := blk_cell KB.out 1; replace ka2 := blk_cell KA.out 2; replace kb2 := blk_cell KB.out 2; replace ka3 := blk_cell KA.out 3; replace kb3 := blk_cell KB.out 3; replace ka4 := blk_cell KA.out 4; replace kb4 := blk_cell KB.out 4; replace ka5 := blk_cell KA.out 5; replace kb5 := blk_cell KB.out 5; replace ka6 := blk_cell KA.out 6; replace kb6 := blk_cell KB.out 6; replace ka7 := blk_cell KA.out 7; replace kb7 := blk_cell KB.out 7; replace ka8 := blk_cell KA.out 8; replace kb8 := blk_cell KB.out 8; replace ka9 := blk_cell KA.out 9; replace kb9 := blk_cell KB.out 9; replace HW := Aside0.mk (below_step HW.out hb); clear hb) | (go_at_call 8; refine (eqByteS_calls A9 c9 B9 d9 x.f9 _ (Kd.C_below HA9.out HW.out) HCA9.out (Kd.C_below HB9.out HW.out) HCB9.out HFT.out.2.2).mono ?_; rintro e wd ⟨rfl, hb⟩; replace KA := Aside0.mk (blk_below KA.out hb); replace KB := Aside0.mk (blk_below KB.out hb); replace ka0 := blk_cell KA.out 0; replace kb0 := blk_cell KB.out 0; replace ka1 := blk_cell KA.out 1; replace kb1 := blk_cell KB.out 1; replace ka2 := blk_cell KA.out 2; replace kb2 := blk_cell KB.out 2; replace ka3 := blk_cell KA.out 3; replace kb3 := blk_cell KB.out 3; replace ka4 := blk_cell KA.out 4; replace kb4 := blk_cell KB.out 4; replace ka5 := blk_cell KA.out 5; replace kb5 := blk_cell KB.out 5; replace ka6 := blk_cell KA.out 6; replace kb6 := blk_cell KB.out 6; replace ka7 := blk_cell KA.out 7; replace kb7 := blk_cell KB.out 7; replace ka8 := blk_cell KA.out 8; replace kb8 := blk_cell KB.out 8; replace ka9 := blk_cell KA.out 9; replace kb9 := blk_cell KB.out 9; replace HW := Aside0.mk (below_step HW.out hb); clear hb))
 go_ret
 exact ⟨rfl, HW.out⟩
def laws_eqMessageS.T6 : Bool × List (List Nat × List Nat) := (true, [([], []), ([], []), ([0, 1], [0, 1]), ([2], [2]), ([], []), ([], []), ([4, 5], [4, 5]), ([6], [6]), ([3, 7], [3, 7]), ([8], [8])])
def laws_eqMessageS.B6 : List Nat := [0, 0, 3, 7, 0, 0, 48, 112, 255, 511]
theorem laws_eqMessageS.tab6 : rtab .any (opsOf Tryz.f64 6) = laws_eqMessageS.T6 := by kernel_rfl
theorem laws_eqMessageS.bits6 : waitsOk laws_eqMessageS.T6.2 laws_eqMessageS.B6 = true := by kernel_rfl
set_option maxHeartbeats 8000000 in
set_option maxRecDepth 100000 in
theorem eqMessageS_calls (A : Option Addr) (cA : Nat) (B : Option Addr) (cB : Nat) (l : List S129) (w : World) (hrA : Kd.C k129 w A l.length l) (hcA : l.length ≤ cA) (hrB : Kd.C k129 w B l.length l) (hcB : l.length ≤ cB) (hf : l.length ≤ 281474976710656 ∧ ∀ y ∈ l, MessageLim y) :
 Calls Tryz.prog 64 #[.slice A l.length cA, .slice B l.length cB] w fun e w' => e = .returned (.bool true) ∧ Below w.heap.size w w' := by
 have HU := Aside0.mk Tryz.underlying129
 have HRA := Aside0.mk hrA
 have HRB := Aside0.mk hrB
 have HFT := Aside0.mk hf
 clear hrA hcA hrB hcB hf
 go_enter Tryz.func64, Tryz.ntmps64
 go_wp2
 go_loopg [5] l.length (fun gk v5 w' => ∃ i : Nat, v5 = .int .i64 (i : Nat) ∧ Aside0 (gk + i = l.length) ∧ Aside0 (Below w.heap.size w w'))
 case atStart => exact ⟨0, rfl, ⟨by omega⟩, ⟨Below.refl _ _⟩⟩
 case round =>
  obtain ⟨i, rfl, HG, HB⟩ := hrel
  by_cases hlt : i < l.length
  ·as_aux_lemma =>
   obtain ⟨k1, hk1⟩ : ∃ m, gk = m + 1 := ⟨gk - 1, by have := HG.out; omega⟩
   subst hk1
   obtain ⟨adA, csA, haA, _, hKA, hclA0⟩ := Kd.C_get HRA.out z129 (i : Int) (by omega) (by omega)
   obtain ⟨adB, csB, haB, _, hKB, hclB0⟩ := Kd.C_get HRB.out z129 (i : Int) (by omega) (by omega)
   have hclA : ∀ j u, csA[j]? = some u → w.cell? (adA.add (i * 10 + j)) = some u := hclA0
   have hclB : ∀ j u, csB[j]? = some u → w.cell? (adB.add (i * 10 + j)) = some u := hclB0
   cases haA
   cases haB
   obtain ⟨x, hx⟩ : ∃ x, x = l.getD (i : Int).toNat z129 := ⟨_, rfl⟩
   rw [← hx] at hKA hKB
   have HLX := Aside0.mk (show MessageLim x from HFT.out.2 x (by rw [hx, Int.toNat_natCast]; simp [List.getD, hlt]))
   obtain ⟨A8, c8, A9, c9, hcsA, hla8, hCa8, hla9, hCa9⟩ := k129_open hKA
   obtain ⟨B8, d8, B9, d9, hcsB, hlb8, hCb8, hlb9, hCb9⟩ := k129_open hKB
   have HLA8 := Aside0.mk hla8
   have HCA8 := Aside0.mk hCa8
   have HLB8 := Aside0.mk hlb8
   have HCB8 := Aside0.mk hCb8
   have HLA9 := Aside0.mk hla9
   have HCA9 := Aside0.mk hCa9
   have HLB9 := Aside0.mk hlb9
   have HCB9 := Aside0.mk hCb9
   clear hla8 hCa8 hlb8 hCb8 hla9 hCa9 hlb9 hCb9
   have HSA := Aside0.mk hcsA
   have HSB := Aside0.mk hcsB
   have hA : ∀ j u, csA[j]? = some u → wr.cell? ((adA.add (i * 10)).add j) = some u := fun j u h => by rw [add_add]; exact (HB.out.cell (World.block_lt_of_cell? w _ (hclA j u h))).trans (hclA j u h)
   have hB : ∀ j u, csB[j]? = some u → wr.cell? ((adB.add (i * 10)).add j) = some u := fun j u h => by rw [add_add]; exact (HB.out.cell (World.block_lt_of_cell? w _ (hclB j u h))).trans (hclB j u h)
   have hsA : (Tryz.prog.info? 129).map (·.size) = some csA.length := by rw [hcsA]; exact isz_129
   have hsB : (Tryz.prog.info? 129).map (·.size) = some csB.length := by rw [hcsB]; exact isz_129
   have hLA : ∀ w', ((∀ j u, csA[j]? = some u → w'.cell? ((adA.add (i * 10)).add j) = some u) ∧ ∀ j u, csB[j]? = some u → w'.cell? ((adB.add (i * 10)).add j) = some u) → (Instr.loadAt 129 (.pointer (some (adA.add (i * 10))))).run Tryz.prog w' = .ok (.agg csA.toArray) w' := fun w' h => run_loadAt_at w' _ 129 csA _ h.1 HU.out rfl hsA
   have hLB : ∀ w', ((∀ j u, csA[j]? = some u → w'.cell? ((adA.add (i * 10)).add j) = some u) ∧ ∀ j u, csB[j]? = some u → w'.cell? ((adB.add (i * 10)).add j) = some u) → (Instr.loadAt 129 (.pointer (some (adB.add (i * 10))))).run Tryz.prog w' = .ok (.agg csB.toArray) w' := fun w' h => run_loadAt_at w' _ 129 csB _ h.2 HU.out rfl hsB
   have HAB := Aside0.mk (And.intro hA hB)
   have HLA := Aside0.mk hLA
   have HLB := Aside0.mk hLB
   clear hclA0 hclB0 hclA hclB hKA hKB hcsA hcsB hx hA hB hsA hsB hLA hLB
   go_upto_region 6 with fail
   refine start_ (n := 10) (S := fun w' => (∀ j u, csA[j]? = some u → w'.cell? ((adA.add (i * 10)).add j) = some u) ∧ ∀ j u, csB[j]? = some u → w'.cell? ((adB.add (i * 10)).add j) = some u) (ds := []) #[false, false, false, false, false, false, false, false, false, false] (by kernel_rfl) rfl rfl HAB.out (fun hHeld => ?_); refine with_tabW laws_eqMessageS.tab6 laws_eqMessageS.bits6 (fun HT_ HW_ => ?_)
   generalize hw9 : wr.drew = w9 at hHeld ⊢
   have HB9 := Aside0.mk (show Below w.heap.size w w9 by rw [← hw9]; exact below_drew1 HB.out)
   clear hw9
   refine pure_ (i := 0) (N := some 17) (v := ?_) (a' := ?_) #[true, false, false, false, false, false, false, false, false, false] rfl rfl (any_of HT_.out (by kernel_rfl)) (fun _ _ _ h => h) (Or.inl ⟨by rfl, ?_⟩) ?_ ?_
   rotate_left
   ·intro w'
    go_simp
    with_reducible rfl
   rotate_left
   ·simp only [Act.put, List.setIfInBounds_toArray, List.set_cons_zero, List.set_cons_succ, i64_w, i32_w]
    rfl
   refine pure_ (i := 1) (N := some 18) (v := ?_) (a' := ?_) #[true, true, false, false, false, false, false, false, false, false] rfl rfl (any_of HT_.out (by kernel_rfl)) (fun _ _ _ h => h) (Or.inl ⟨by rfl, ?_⟩) ?_ ?_
   rotate_left
   ·intro w'
    go_simp
    with_reducible rfl
   rotate_left
   ·simp only [Act.put, List.setIfInBounds_toArray, List.set_cons_zero, List.set_cons_succ, i64_w, i32_w]
    rfl
   refine pure_ (i := 2) (N := some 19) (v := ?_) (a' := ?_) #[true, true, true, false, false, false, false, false, false, false] rfl rfl (any_of HT_.out (by kernel_rfl)) (fun _ _ _ h => h) (Or.inl ⟨by rfl, ?_⟩) ?_ ?_
   rotate_left
   ·intro w'
    go_simp
    with_reducible rfl
   rotate_left
   ·simp only [Act.put, List.setIfInBounds_toArray, List.set_cons_zero, List.set_cons_succ, i64_w, i32_w]
    rfl
   refine pure_ (i := 4) (N := some 21) (v := ?_) (a' := ?_) #[true, true, true, false, true, false, false, false, false, false] rfl rfl (any_of HT_.out (by kernel_rfl)) (fun _ _ _ h => h) (Or.inl ⟨by rfl, ?_⟩) ?_ ?_
   rotate_left
   ·intro w'
    go_simp
    with_reducible rfl
   rotate_left
   ·simp only [Act.put, List.setIfInBounds_toArray, List.set_cons_zero, List.set_cons_succ, i64_w, i32_w]
    rfl
   refine pure_ (i := 5) (N := some 22) (v := ?_) (a' := ?_) #[true, true, true, false, true, true, false, false, false, false] rfl rfl (any_of HT_.out (by kernel_rfl)) (fun _ _ _ h => h) (Or.inl ⟨by rfl, ?_⟩) ?_ ?_
   rotate_left
   ·intro w'
    go_simp
    with_reducible rfl
   rotate_left
   ·simp only [Act.put, List.setIfInBounds_toArray, List.set_cons_zero, List.set_cons_succ, i64_w, i32_w]
    rfl
   refine pure_ (i := 6) (N := some 23) (v := ?_) (a' := ?_) #[true, true, true, false, true, true, true, false, false, false] rfl rfl (any_of HT_.out (by kernel_rfl)) (fun _ _ _ h => h) (Or.inl ⟨by rfl, ?_⟩) ?_ ?_
   rotate_left
   ·intro w'
    go_simp
    with_reducible rfl
   rotate_left
   ·simp only [Act.put, List.setIfInBounds_toArray, List.set_cons_zero, List.set_cons_succ, i64_w, i32_w]
    rfl
   refine take_ (i := 3) (N := some 20) (v := ?_) (a' := ?_) #[true, true, true, true, true, true, true, false, false, false] rfl rfl (take_ofW HT_.out HW_.out (by kernel_rfl)) (fun _ _ _ h => h) (Or.inl ⟨by rfl, ?_⟩) hHeld ?_ ?_
   rotate_left
   ·intro w' hs
    refine (run_load_of rfl rfl (HLA.out w' hs)).trans ?_
    with_reducible rfl
   rotate_left
   ·simp only [Act.put, List.setIfInBounds_toArray, List.set_cons_zero, List.set_cons_succ, i64_w, i32_w]
    rfl
   refine take_ (i := 7) (N := some 24) (v := ?_) (a' := ?_) #[true, true, true, true, true, true, true, true, false, false] rfl rfl (take_ofW HT_.out HW_.out (by kernel_rfl)) (fun _ _ _ h => h) (Or.inl ⟨by rfl, ?_⟩) hHeld ?_ ?_
   rotate_left
   ·intro w' hs
    refine (run_load_of rfl rfl (HLB.out w' hs)).trans ?_
    with_reducible rfl
   rotate_left
   ·simp only [Act.put, List.setIfInBounds_toArray, List.set_cons_zero, List.set_cons_succ, i64_w, i32_w]
    rfl
   refine one_ (i := 8) (N := some 25) #[true, true, true, true, true, true, true, true, true, false] rfl rfl (one_of HT_.out (by kernel_rfl)) (by decide) (fun K hK => ?_)
   refine goes_ Tryz.func90 (by kernel_rfl) rfl #[.agg csA.toArray, .agg csB.toArray] (by rfl) rfl rfl (by (try simp only [List.map_toArray, List.map_cons, List.map_nil]); first | done | rfl) ?_
   refine (show Calls Tryz.prog 90 #[.agg csA.toArray, .agg csB.toArray] w9 (fun e w' => e = .returned (.bool true) ∧ Below w9.heap.size w9 w') from by rw [HSA.out, HSB.out]; exact eqMessage_calls x A8 c8 B8 d8 A9 c9 B9 d9 _ (Kd.C_below HCA8.out HB9.out) HLA8.out (Kd.C_below HCB8.out HB9.out) HLB8.out (Kd.C_below HCA9.out HB9.out) HLA9.out (Kd.C_below HCB9.out HB9.out) HLB9.out HLX.out).mono ?_
   rintro e wd ⟨rfl, hb⟩
   refine ⟨_, rfl, ?_⟩
   have HB2 := Aside0.mk (below_step HB9.out hb)
   refine hK.out _ _ (And.intro (fun j u h => (hb.cell (World.block_lt_of_cell? _ _ (hHeld.1 j u h))).trans (hHeld.1 j u h)) (fun j u h => (hb.cell (World.block_lt_of_cell? _ _ (hHeld.2 j u h))).trans (hHeld.2 j u h))) (fun hHeld => ?_)
   clear hK K hb
   refine norm_ (a' := ?_) ?_ ?_
   rotate_left
   ·show Act.put _ (some 25) _ = _
    simp only [Act.put, List.setIfInBounds_toArray, List.set_cons_zero, List.set_cons_succ, i64_w, i32_w]
    rfl
   refine pure_ (i := 9) (N := some 26) (v := ?_) (a' := ?_) #[true, true, true, true, true, true, true, true, true, true] rfl rfl (any_of HT_.out (by kernel_rfl)) (fun _ _ _ h => h) (Or.inl ⟨by rfl, ?_⟩) ?_ ?_
   rotate_left
   ·intro w'
    go_simp
    with_reducible rfl
   rotate_left
   ·simp only [Act.put, List.setIfInBounds_toArray, List.set_cons_zero, List.set_cons_succ, i64_w, i32_w]
    rfl
   refine done_ (done_of HT_.out (by kernel_rfl)) ?_
   try go_wp2
   go_roundg k1
   case measure => omega
   case rel => exact ⟨i + 1, by rw [w64n (by have := HFT.out.1; omega)], ⟨by have := HG.out; omega⟩, HB2⟩
  ·as_aux_lemma =>
   have tlt : decide (i < l.length) = false := decide_eq_false hlt
   clear hlt
   go_wp2
   go_ret
   exact ⟨rfl, HB.out⟩
def ViewLim (x : S48) : Prop := True
theorem isz_48 : (Tryz.prog.info? 48).map (·.size) = some 8 := by kernel_rfl
set_option maxHeartbeats 8000000 in
set_option maxRecDepth 100000 in
theorem eqView_calls (x : S48) (w : World) (hf : ViewLim x) :
 Calls Tryz.prog 65 #[.agg #[.int .i64 x.f0, .int .i64 x.f1, .int .i64 x.f2, .int .i64 x.f3, .int .i64 x.f4, .int .i64 x.f5, .int .i64 x.f6, .int .i64 x.f7], .agg #[.int .i64 x.f0, .int .i64 x.f1, .int .i64 x.f2, .int .i64 x.f3, .int .i64 x.f4, .int .i64 x.f5, .int .i64 x.f6, .int .i64 x.f7]] w fun e w' => e = .returned (.bool true) ∧ Below w.heap.size w w' := by
 have hu := Tryz.underlying48
 have HFT := Aside0.mk hf
 clear hf
 go_enter Tryz.func65, Tryz.ntmps65
 go_wp2_with (first | ((with_reducible refine gate_dst (N := 2) rfl ?_); refine box_event ?hg (N := 2) ?hd (cs := #[.int .i64 x.f0, .int .i64 x.f1, .int .i64 x.f2, .int .i64 x.f3, .int .i64 x.f4, .int .i64 x.f5, .int .i64 x.f6, .int .i64 x.f7]) (t := 48) ?hr ?_; (case hd => rfl); (case hg => rfl); (case hr => first | (go_simp; done) | (go_simp; rfl)); intro gA hg wb2 hbox hb; have HW := Aside0.mk hb; have KA := Aside0.mk hbox; clear hb hbox hg) | ((with_reducible refine gate_dst (N := 3) rfl ?_); refine box_event ?hg (N := 3) ?hd (cs := #[.int .i64 x.f0, .int .i64 x.f1, .int .i64 x.f2, .int .i64 x.f3, .int .i64 x.f4, .int .i64 x.f5, .int .i64 x.f6, .int .i64 x.f7]) (t := 48) ?hr ?_; (case hd => rfl); (case hg => rfl); (case hr => first | (go_simp; done) | (go_simp; rfl)); intro gB hg wb3 hbox hb; replace HW := Aside0.mk (below_step HW.out hb); replace KA := Aside0.mk (blk_below KA.out hb); have KB := Aside0.mk hbox; have ka0 := blk_cell KA.out 0; have kb0 := blk_cell hbox 0; have ka1 := blk_cell KA.out 1; have kb1 := blk_cell hbox 1; have ka2 := blk_cell KA.out 2; have kb2 := blk_cell hbox 2; have ka3 := blk_cell KA.out 3; have kb3 := blk_cell hbox 3; have ka4 := blk_cell KA.out 4; have kb4 := blk_cell hbox 4; have ka5 := blk_cell KA.out 5; have kb5 := blk_cell hbox 5; have ka6 := blk_cell KA.out 6; have kb6 := blk_cell hbox 6; have ka7 := blk_cell KA.out 7; have kb7 := blk_cell hbox 7; clear hb hbox hg))
 go_ret
 exact ⟨rfl, HW.out⟩
def ObsLim (x : S50) : Prop := True ∧ x.f2.f2.length ≤ 281474976710656 ∧ (x.f3.f1.length ≤ 281474976710656 ∧ ∀ y ∈ x.f3.f1, ItemLim y) ∧ (x.f3.f2.length ≤ 281474976710656 ∧ ∀ y ∈ x.f3.f2, SessionLim y) ∧ (x.f4.length ≤ 281474976710656 ∧ ∀ y ∈ x.f4, AckLim y) ∧ (x.f5.length ≤ 281474976710656 ∧ ∀ y ∈ x.f5, MessageLim y)
theorem isz_50 : (Tryz.prog.info? 50).map (·.size) = some 18 := by kernel_rfl
set_option maxHeartbeats 8000000 in
set_option maxRecDepth 100000 in
theorem eqObs_calls (x : S50) (A4 : Option Addr) (c4 : Nat) (B4 : Option Addr) (d4 : Nat) (A6 : Option Addr) (c6 : Nat) (B6 : Option Addr) (d6 : Nat) (A7 : Option Addr) (c7 : Nat) (B7 : Option Addr) (d7 : Nat) (A8 : Option Addr) (c8 : Nat) (B8 : Option Addr) (d8 : Nat) (A9 : Option Addr) (c9 : Nat) (B9 : Option Addr) (d9 : Nat) (w : World) (ha4 : Kd.C (Kd.int .u8) w A4 x.f2.f2.length x.f2.f2) (hca4 : x.f2.f2.length ≤ c4) (hb4 : Kd.C (Kd.int .u8) w B4 x.f2.f2.length x.f2.f2) (hcb4 : x.f2.f2.length ≤ d4) (ha6 : Kd.C k40 w A6 x.f3.f1.length x.f3.f1) (hca6 : x.f3.f1.length ≤ c6) (hb6 : Kd.C k40 w B6 x.f3.f1.length x.f3.f1) (hcb6 : x.f3.f1.length ≤ d6) (ha7 : Kd.C k126 w A7 x.f3.f2.length x.f3.f2) (hca7 : x.f3.f2.length ≤ c7) (hb7 : Kd.C k126 w B7 x.f3.f2.length x.f3.f2) (hcb7 : x.f3.f2.length ≤ d7) (ha8 : Kd.C k53 w A8 x.f4.length x.f4) (hca8 : x.f4.length ≤ c8) (hb8 : Kd.C k53 w B8 x.f4.length x.f4) (hcb8 : x.f4.length ≤ d8) (ha9 : Kd.C k129 w A9 x.f5.length x.f5) (hca9 : x.f5.length ≤ c9) (hb9 : Kd.C k129 w B9 x.f5.length x.f5) (hcb9 : x.f5.length ≤ d9) (hf : ObsLim x) :
 Calls Tryz.prog 37 #[.agg #[.int .i64 x.f0, .int .i64 x.f1, .int .i64 x.f2.f0, .int .i64 x.f2.f1, .slice A4 x.f2.f2.length c4, .int .i64 x.f3.f0, .slice A6 x.f3.f1.length c6, .slice A7 x.f3.f2.length c7, .slice A8 x.f4.length c8, .slice A9 x.f5.length c9, .int .i64 x.f6.f0, .int .i64 x.f6.f1, .int .i64 x.f6.f2, .int .i64 x.f6.f3, .int .i64 x.f6.f4, .int .i64 x.f6.f5, .int .i64 x.f6.f6, .int .i64 x.f6.f7], .agg #[.int .i64 x.f0, .int .i64 x.f1, .int .i64 x.f2.f0, .int .i64 x.f2.f1, .slice B4 x.f2.f2.length d4, .int .i64 x.f3.f0, .slice B6 x.f3.f1.length d6, .slice B7 x.f3.f2.length d7, .slice B8 x.f4.length d8, .slice B9 x.f5.length d9, .int .i64 x.f6.f0, .int .i64 x.f6.f1, .int .i64 x.f6.f2, .int .i64 x.f6.f3, .int .i64 x.f6.f4, .int .i64 x.f6.f5, .int .i64 x.f6.f6, .int .i64 x.f6.f7]] w fun e w' => e = .returned (.bool true) ∧ Below w.heap.size w w' := by
 have hu := Tryz.underlying50
 have hu40 := Tryz.underlying40
 have hu44 := Tryz.underlying44
 have hu48 := Tryz.underlying48
 have HA4 := Aside0.mk ha4
 have HCA4 := Aside0.mk hca4
 have HB4 := Aside0.mk hb4
 have HCB4 := Aside0.mk hcb4
 have HA6 := Aside0.mk ha6
 have HCA6 := Aside0.mk hca6
 have HB6 := Aside0.mk hb6
 have HCB6 := Aside0.mk hcb6
 have HA7 := Aside0.mk ha7
 have HCA7 := Aside0.mk hca7
 have HB7 := Aside0.mk hb7
 have HCB7 := Aside0.mk hcb7
 have HA8 := Aside0.mk ha8
 have HCA8 := Aside0.mk hca8
 have HB8 := Aside0.mk hb8
 have HCB8 := Aside0.mk hcb8
 have HA9 := Aside0.mk ha9
 have HCA9 := Aside0.mk hca9
 have HB9 := Aside0.mk hb9
 have HCB9 := Aside0.mk hcb9
 have HFT := Aside0.mk hf
 clear hf ha4 hca4 hb4 hcb4 ha6 hca6 hb6 hcb6 ha7 hca7 hb7 hcb7 ha8 hca8 hb8 hcb8 ha9 hca9 hb9 hcb9
 go_enter Tryz.func37, Tryz.ntmps37
 go_wp2_with (first | ((with_reducible refine gate_dst (N := 2) rfl ?_); refine box_event ?hg (N := 2) ?hd (cs := #[.int .i64 x.f0, .int .i64 x.f1, .int .i64 x.f2.f0, .int .i64 x.f2.f1, .slice A4 x.f2.f2.length c4, .int .i64 x.f3.f0, .slice A6 x.f3.f1.length c6, .slice A7 x.f3.f2.length c7, .slice A8 x.f4.length c8, .slice A9 x.f5.length c9, .int .i64 x.f6.f0, .int .i64 x.f6.f1, .int .i64 x.f6.f2, .int .i64 x.f6.f3, .int .i64 x.f6.f4, .int .i64 x.f6.f5, .int .i64 x.f6.f6, .int .i64 x.f6.f7]) (t := 50) ?hr ?_; (case hd => rfl); (case hg => rfl); (case hr => first | (go_simp; done) | (go_simp; rfl)); intro gA hg wb2 hbox hb; have HW := Aside0.mk hb; have KA := Aside0.mk hbox; clear hb hbox hg) | ((with_reducible refine gate_dst (N := 3) rfl ?_); refine box_event ?hg (N := 3) ?hd (cs := #[.int .i64 x.f0, .int .i64 x.f1, .int .i64 x.f2.f0, .int .i64 x.f2.f1, .slice B4 x.f2.f2.length d4, .int .i64 x.f3.f0, .slice B6 x.f3.f1.length d6, .slice B7 x.f3.f2.length d7, .slice B8 x.f4.length d8, .slice B9 x.f5.length d9, .int .i64 x.f6.f0, .int .i64 x.f6.f1, .int .i64 x.f6.f2, .int .i64 x.f6.f3, .int .i64 x.f6.f4, .int .i64 x.f6.f5, .int .i64 x.f6.f6, .int .i64 x.f6.f7]) (t := 50) ?hr ?_; (case hd => rfl); (case hg => rfl); (case hr => first | (go_simp; done) | (go_simp; rfl)); intro gB hg wb3 hbox hb; replace HW := Aside0.mk (below_step HW.out hb); replace KA := Aside0.mk (blk_below KA.out hb); have KB := Aside0.mk hbox; have ka0 := blk_cell KA.out 0; have kb0 := blk_cell hbox 0; have ka1 := blk_cell KA.out 1; have kb1 := blk_cell hbox 1; have ka2 := blk_cell KA.out 2; have kb2 := blk_cell hbox 2; have ka3 := blk_cell KA.out 3; have kb3 := blk_cell hbox 3; have ka4 := blk_cell KA.out 4; have kb4 := blk_cell hbox 4; have ka5 := blk_cell KA.out 5; have kb5 := blk_cell hbox 5; have ka6 := blk_cell KA.out 6; have kb6 := blk_cell hbox 6; have ka7 := blk_cell KA.out 7; have kb7 := blk_cell hbox 7; have ka8 := blk_cell KA.out 8; have kb8 := blk_cell hbox 8; have ka9 := blk_cell KA.out 9; have kb9 := blk_cell hbox 9; have ka10 := blk_cell KA.out 10; have kb10 := blk_cell hbox 10; have ka11 := blk_cell KA.out 11; have kb11 := blk_cell hbox 11; have ka12 := blk_cell KA.out 12; have kb12 := blk_cell hbox 12; have ka13 := blk_cell KA.out 13; have kb13 := blk_cell hbox 13; have ka14 := blk_cell KA.out 14; have kb14 := blk_cell hbox 14; have ka15 := blk_cell KA.out 15; have kb15 := blk_cell hbox 15; have ka16 := blk_cell KA.out 16; have kb16 := blk_cell hbox 16; have ka17 := blk_cell KA.out 17; have kb17 := blk_cell hbox 17; clear hb hbox hg) | (go_at_call 61; refine (eqItem_calls x.f2 A4 c4 B4 d4 _ (Kd.C_below HA4.out HW.out) HCA4.out (Kd.C_below HB4.out HW.out) HCB4.out ⟨trivial, HFT.out.2.1⟩).mono ?_; rintro e wd ⟨rfl, hb⟩; replace KA := Aside0.mk (blk_below KA.out hb); replace KB := Aside0.mk (blk_below KB.out hb); replace ka0 := blk_cell KA.out 0; replace kb0 := blk_cell KB.out 0; replace ka1 := blk_cell KA.out 1; replace kb1 := blk_cell KB.out 1; replace ka2 := blk_cell KA.out 2; replace kb2 := blk_cell KB.out 2; replace ka3 := blk_cell KA.out 3; replace kb3 := blk_cell KB.out 3; replace ka4 := blk_cell KA.out 4; replace kb4 := blk_cell KB.out 4; replace ka5 := blk_cell KA.out 5; replace kb5 := blk_cell KB.out 5; replace ka6 := blk_cell KA.out 6; replace kb6 := blk_cell KB.out 6; replace ka7 := blk_cell KA.out 7; replace kb7 := blk_cell KB.out 7; replace ka8 := blk_cell KA.out 8; replace kb8 := blk_cell KB.out 8; replace ka9 := blk_cell KA.out 9; replace kb9 := blk_cell KB.out 9; replace ka10 := blk_cell KA.out 10; replace kb10 := blk_cell KB.out 10; replace ka11 := blk_cell KA.out 11; replace kb11 := blk_cell KB.out 11; replace ka12 := blk_cell KA.out 12; replace kb12 := blk_cell KB.out 12; replace ka13 := blk_cell KA.out 13; replace kb13 := blk_cell KB.out 13; replace ka14 := blk_cell KA.out 14; replace kb14 := blk_cell KB.out 14; replace ka15 := blk_cell KA.out 15; replace kb15 := blk_cell KB.out 15; replace ka16 := blk_cell KA.out 16; replace kb16 := blk_cell KB.out 16; replace ka17 := blk_cell KA.out 17; replace kb17 := blk_cell KB.out 17; replace HW := Aside0.mk (below_step HW.out hb); clear hb) | (go_at_call 62; refine (eqService_calls x.f3 A6 c6 B6 d6 A7 c7 B7 d7 _ (Kd.C_below HA6.out HW.out) HCA6.out (Kd.C_below HB6.out HW.out) HCB6.out (Kd.C_below HA7.out HW.out) HCA7.out (Kd.C_below HB7.out HW.out) HCB7.out ⟨trivial, HFT.out.2.2.1, HFT.out.2.2.2.1⟩).mono ?_; rintro e wd ⟨rfl, hb⟩; replace KA := Aside0.mk (blk_below KA.out hb); replace KB := Aside0.mk (blk_below KB.out hb); replace ka0 := blk_cell KA.out 0; replace kb0 := blk_cell KB.out 0; replace ka1 := blk_cell KA.out 1; replace kb1 := blk_cell KB.out 1; replace ka2 := blk_cell KA.out 2; replace kb2 := blk_cell KB.out 2; replace ka3 := blk_cell KA.out 3; replace kb3 := blk_cell KB.out 3; replace ka4 := blk_cell KA.out 4; replace kb4 := blk_cell KB.out 4; replace ka5 := blk_cell KA.out 5; replace kb5 := blk_cell KB.out 5; replace ka6 := blk_cell KA.out 6; replace kb6 := blk_cell KB.out 6; replace ka7 := blk_cell KA.out 7; replace kb7 := blk_cell KB.out 7; replace ka8 := blk_cell KA.out 8; replace kb8 := blk_cell KB.out 8; replace ka9 := blk_cell KA.out 9; replace kb9 := blk_cell KB.out 9; replace ka10 := blk_cell KA.out 10; replace kb10 := blk_cell KB.out 10; replace ka11 := blk_cell KA.out 11; replace kb11 := blk_cell KB.out 11; replace ka12 := blk_cell KA.out 12; replace kb12 := blk_cell KB.out 12; replace ka13 := blk_cell KA.out 13; replace kb13 := blk_cell KB.out 13; replace ka14 := blk_cell KA.out 14; replace kb14 := blk_cell KB.out 14; replace ka15 := blk_cell KA.out 15; replace kb15 := blk_cell KB.out 15; replace ka16 := blk_cell KA.out 16; replace kb16 := blk_cell KB.out 16; replace ka17 := blk_cell KA.out 17; replace kb17 := blk_cell KB.out 17; replace HW := Aside0.mk (below_step HW.out hb); clear hb) | (go_at_call 63; refine (eqAckS_calls A8 c8 B8 d8 x.f4 _ (Kd.C_below HA8.out HW.out) HCA8.out (Kd.C_below HB8.out HW.out) HCB8.out HFT.out.2.2.2.2.1).mono ?_; rintro e wd ⟨rfl, hb⟩; replace KA := Aside0.mk (blk_below KA.out hb); replace KB := Aside0.mk (blk_below KB.out hb); replace ka0 := blk_cell KA.out 0; replace kb0 := blk_cell KB.out 0; replace ka1 := blk_cell KA.out 1; replace kb1 := blk_cell KB.out 1; replace ka2 := blk_cell KA.out 2; replace kb2 := blk_cell KB.out 2; replace ka3 := blk_cell KA.out 3; replace kb3 := blk_cell KB.out 3; replace ka4 := blk_cell KA.out 4; replace kb4 := blk_cell KB.out 4; replace ka5 := blk_cell KA.out 5; replace kb5 := blk_cell KB.out 5; replace ka6 := blk_cell KA.out 6; replace kb6 := blk_cell KB.out 6; replace ka7 := blk_cell KA.out 7; replace kb7 := blk_cell KB.out 7; replace ka8 := blk_cell KA.out 8; replace kb8 := blk_cell KB.out 8; replace ka9 := blk_cell KA.out 9; replace kb9 := blk_cell KB.out 9; replace ka10 := blk_cell KA.out 10; replace kb10 := blk_cell KB.out 10; replace ka11 := blk_cell KA.out 11; replace kb11 := blk_cell KB.out 11; replace ka12 := blk_cell KA.out 12; replace kb12 := blk_cell KB.out 12; replace ka13 := blk_cell KA.out 13; replace kb13 := blk_cell KB.out 13; replace ka14 := blk_cell KA.out 14; replace kb14 := blk_cell KB.out 14; replace ka15 := blk_cell KA.out 15; replace kb15 := blk_cell KB.out 15; replace ka16 := blk_cell KA.out 16; replace kb16 := blk_cell KB.out 16; replace ka17 := blk_cell KA.out 17; replace kb17 := blk_cell KB.out 17; replace HW := Aside0.mk (below_step HW.out hb); clear hb) | (go_at_call 64; refine (eqMessageS_calls A9 c9 B9 d9 x.f5 _ (Kd.C_below HA9.out HW.out) HCA9.out (Kd.C_below HB9.out HW.out) HCB9.out HFT.out.2.2.2.2.2).mono ?_; rintro e wd ⟨rfl, hb⟩; replace KA := Aside0.mk (blk_below KA.out hb); replace KB := Aside0.mk (blk_below KB.out hb); replace ka0 := blk_cell KA.out 0; replace kb0 := blk_cell KB.out 0; replace ka1 := blk_cell KA.out 1; replace kb1 := blk_cell KB.out 1; replace ka2 := blk_cell KA.out 2; replace kb2 := blk_cell KB.out 2; replace ka3 := blk_cell KA.out 3; replace kb3 := blk_cell KB.out 3; replace ka4 := blk_cell KA.out 4; replace kb4 := blk_cell KB.out 4; replace ka5 := blk_cell KA.out 5; replace kb5 := blk_cell KB.out 5; replace ka6 := blk_cell KA.out 6; replace kb6 := blk_cell KB.out 6; replace ka7 := blk_cell KA.out 7; replace kb7 := blk_cell KB.out 7; replace ka8 := blk_cell KA.out 8; replace kb8 := blk_cell KB.out 8; replace ka9 := blk_cell KA.out 9; replace kb9 := blk_cell KB.out 9; replace ka10 := blk_cell KA.out 10; replace kb10 := blk_cell KB.out 10; replace ka11 := blk_cell KA.out 11; replace kb11 := blk_cell KB.out 11; replace ka12 := blk_cell KA.out 12; replace kb12 := blk_cell KB.out 12; replace ka13 := blk_cell KA.out 13; replace kb13 := blk_cell KB.out 13; replace ka14 := blk_cell KA.out 14; replace kb14 := blk_cell KB.out 14; replace ka15 := blk_cell KA.out 15; replace kb15 := blk_cell KB.out 15; replace ka16 := blk_cell KA.out 16; replace kb16 := blk_cell KB.out 16; replace ka17 := blk_cell KA.out 17; replace kb17 := blk_cell KB.out 17; replace HW := Aside0.mk (below_step HW.out hb); clear hb) | (go_at_call 65; refine (eqView_calls x.f6 _  trivial).mono ?_; rintro e wd ⟨rfl, hb⟩; replace KA := Aside0.mk (blk_below KA.out hb); replace KB := Aside0.mk (blk_below KB.out hb); replace ka0 := blk_cell KA.out 0; replace kb0 := blk_cell KB.out 0; replace ka1 := blk_cell KA.out 1; replace kb1 := blk_cell KB.out 1; replace ka2 := blk_cell KA.out 2; replace kb2 := blk_cell KB.out 2; replace ka3 := blk_cell KA.out 3; replace kb3 := blk_cell KB.out 3; replace ka4 := blk_cell KA.out 4; replace kb4 := blk_cell KB.out 4; replace ka5 := blk_cell KA.out 5; replace kb5 := blk_cell KB.out 5; replace ka6 := blk_cell KA.out 6; replace kb6 := blk_cell KB.out 6; replace ka7 := blk_cell KA.out 7; replace kb7 := blk_cell KB.out 7; replace ka8 := blk_cell KA.out 8; replace kb8 := blk_cell KB.out 8; replace ka9 := blk_cell KA.out 9; replace kb9 := blk_cell KB.out 9; replace ka10 := blk_cell KA.out 10; replace kb10 := blk_cell KB.out 10; replace ka11 := blk_cell KA.out 11; replace kb11 := blk_cell KB.out 11; replace ka12 := blk_cell KA.out 12; replace kb12 := blk_cell KB.out 12; replace ka13 := blk_cell KA.out 13; replace kb13 := blk_cell KB.out 13; replace ka14 := blk_cell KA.out 14; replace kb14 := blk_cell KB.out 14; replace ka15 := blk_cell KA.out 15; replace kb15 := blk_cell KB.out 15; replace ka16 := blk_cell KA.out 16; replace kb16 := blk_cell KB.out 16; replace ka17 := blk_cell KA.out 17; replace kb17 := blk_cell KB.out 17; replace HW := Aside0.mk (below_step HW.out hb); clear hb))
 go_ret
 exact ⟨rfl, HW.out⟩
def laws_eqObsS.T6 : Bool × List (List Nat × List Nat) := (true, [([], []), ([], []), ([0, 1], [0, 1]), ([2], [2]), ([], []), ([], []), ([4, 5], [4, 5]), ([6], [6]), ([3, 7], [3, 7]), ([8], [8])])
def laws_eqObsS.B6 : List Nat := [0, 0, 3, 7, 0, 0, 48, 112, 255, 511]
theorem laws_eqObsS.tab6 : rtab .any (opsOf Tryz.f25 6) = laws_eqObsS.T6 := by kernel_rfl
theorem laws_eqObsS.bits6 : waitsOk laws_eqObsS.T6.2 laws_eqObsS.B6 = true := by kernel_rfl
set_option maxHeartbeats 8000000 in
set_option maxRecDepth 100000 in
theorem eqObsS_calls (A : Option Addr) (cA : Nat) (B : Option Addr) (cB : Nat) (l : List S50) (w : World) (hrA : Kd.C k50 w A l.length l) (hcA : l.length ≤ cA) (hrB : Kd.C k50 w B l.length l) (hcB : l.length ≤ cB) (hf : l.length ≤ 281474976710656 ∧ ∀ y ∈ l, ObsLim y) :
 Calls Tryz.prog 25 #[.slice A l.length cA, .slice B l.length cB] w fun e w' => e = .returned (.bool true) ∧ Below w.heap.size w w' := by
 have HU := Aside0.mk Tryz.underlying50
 have HRA := Aside0.mk hrA
 have HRB := Aside0.mk hrB
 have HFT := Aside0.mk hf
 clear hrA hcA hrB hcB hf
 go_enter Tryz.func25, Tryz.ntmps25
 go_wp2
 go_loopg [5] l.length (fun gk v5 w' => ∃ i : Nat, v5 = .int .i64 (i : Nat) ∧ Aside0 (gk + i = l.length) ∧ Aside0 (Below w.heap.size w w'))
 case atStart => exact ⟨0, rfl, ⟨by omega⟩, ⟨Below.refl _ _⟩⟩
 case round =>
  obtain ⟨i, rfl, HG, HB⟩ := hrel
  by_cases hlt : i < l.length
  ·as_aux_lemma =>
   obtain ⟨k1, hk1⟩ : ∃ m, gk = m + 1 := ⟨gk - 1, by have := HG.out; omega⟩
   subst hk1
   obtain ⟨adA, csA, haA, _, hKA, hclA0⟩ := Kd.C_get HRA.out z50 (i : Int) (by omega) (by omega)
   obtain ⟨adB, csB, haB, _, hKB, hclB0⟩ := Kd.C_get HRB.out z50 (i : Int) (by omega) (by omega)
   have hclA : ∀ j u, csA[j]? = some u → w.cell? (adA.add (i * 18 + j)) = some u := hclA0
   have hclB : ∀ j u, csB[j]? = some u → w.cell? (adB.add (i * 18 + j)) = some u := hclB0
   cases haA
   cases haB
   obtain ⟨x, hx⟩ : ∃ x, x = l.getD (i : Int).toNat z50 := ⟨_, rfl⟩
   rw [← hx] at hKA hKB
   have HLX := Aside0.mk (show ObsLim x from HFT.out.2 x (by rw [hx, Int.toNat_natCast]; simp [List.getD, hlt]))
   obtain ⟨A4, c4, A6, c6, A7, c7, A8, c8, A9, c9, hcsA, hla4, hCa4, hla6, hCa6, hla7, hCa7, hla8, hCa8, hla9, hCa9⟩ := k50_open hKA
   obtain ⟨B4, d4, B6, d6, B7, d7, B8, d8, B9, d9, hcsB, hlb4, hCb4, hlb6, hCb6, hlb7, hCb7, hlb8, hCb8, hlb9, hCb9⟩ := k50_open hKB
   have HLA4 := Aside0.mk hla4
   have HCA4 := Aside0.mk hCa4
   have HLB4 := Aside0.mk hlb4
   have HCB4 := Aside0.mk hCb4
   have HLA6 := Aside0.mk hla6
   have HCA6 := Aside0.mk hCa6
   have HLB6 := Aside0.mk hlb6
   have HCB6 := Aside0.mk hCb6
   have HLA7 := Aside0.mk hla7
   have HCA7 := Aside0.mk hCa7
   have HLB7 := Aside0.mk hlb7
   have HCB7 := Aside0.mk hCb7
   have HLA8 := Aside0.mk hla8
   have HCA8 := Aside0.mk hCa8
   have HLB8 := Aside0.mk hlb8
   have HCB8 := Aside0.mk hCb8
   have HLA9 := Aside0.mk hla9
   have HCA9 := Aside0.mk hCa9
   have HLB9 := Aside0.mk hlb9
   have HCB9 := Aside0.mk hCb9
   clear hla4 hCa4 hlb4 hCb4 hla6 hCa6 hlb6 hCb6 hla7 hCa7 hlb7 hCb7 hla8 hCa8 hlb8 hCb8 hla9 hCa9 hlb9 hCb9
   have HSA := Aside0.mk hcsA
   have HSB := Aside0.mk hcsB
   have hA : ∀ j u, csA[j]? = some u → wr.cell? ((adA.add (i * 18)).add j) = some u := fun j u h => by rw [add_add]; exact (HB.out.cell (World.block_lt_of_cell? w _ (hclA j u h))).trans (hclA j u h)
   have hB : ∀ j u, csB[j]? = some u → wr.cell? ((adB.add (i * 18)).add j) = some u := fun j u h => by rw [add_add]; exact (HB.out.cell (World.block_lt_of_cell? w _ (hclB j u h))).trans (hclB j u h)
   have hsA : (Tryz.prog.info? 50).map (·.size) = some csA.length := by rw [hcsA]; exact isz_50
   have hsB : (Tryz.prog.info? 50).map (·.size) = some csB.length := by rw [hcsB]; exact isz_50
   have hLA : ∀ w', ((∀ j u, csA[j]? = some u → w'.cell? ((adA.add (i * 18)).add j) = some u) ∧ ∀ j u, csB[j]? = some u → w'.cell? ((adB.add (i * 18)).add j) = some u) → (Instr.loadAt 50 (.pointer (some (adA.add (i * 18))))).run Tryz.prog w' = .ok (.agg csA.toArray) w' := fun w' h => run_loadAt_at w' _ 50 csA _ h.1 HU.out rfl hsA
   have hLB : ∀ w', ((∀ j u, csA[j]? = some u → w'.cell? ((adA.add (i * 18)).add j) = some u) ∧ ∀ j u, csB[j]? = some u → w'.cell? ((adB.add (i * 18)).add j) = some u) → (Instr.loadAt 50 (.pointer (some (adB.add (i * 18))))).run Tryz.prog w' = .ok (.agg csB.toArray) w' := fun w' h => run_loadAt_at w' _ 50 csB _ h.2 HU.out rfl hsB
   have HAB := Aside0.mk (And.intro hA hB)
   have HLA := Aside0.mk hLA
   have HLB := Aside0.mk hLB
   clear hclA0 hclB0 hclA hclB hKA hKB hcsA hcsB hx hA hB hsA hsB hLA hLB
   go_upto_region 6 with fail
   refine start_ (n := 10) (S := fun w' => (∀ j u, csA[j]? = some u → w'.cell? ((adA.add (i * 18)).add j) = some u) ∧ ∀ j u, csB[j]? = some u → w'.cell? ((adB.add (i * 18)).add j) = some u) (ds := []) #[false, false, false, false, false, false, false, false, false, false] (by kernel_rfl) rfl rfl HAB.out (fun hHeld => ?_); refine with_tabW laws_eqObsS.tab6 laws_eqObsS.bits6 (fun HT_ HW_ => ?_)
   generalize hw9 : wr.drew = w9 at hHeld ⊢
   have HB9 := Aside0.mk (show Below w.heap.size w w9 by rw [← hw9]; exact below_drew1 HB.out)
   clear hw9
   refine pure_ (i := 0) (N := some 17) (v := ?_) (a' := ?_) #[true, false, false, false, false, false, false, false, false, false] rfl rfl (any_of HT_.out (by kernel_rfl)) (fun _ _ _ h => h) (Or.inl ⟨by rfl, ?_⟩) ?_ ?_
   rotate_left
   ·intro w'
    go_simp
    with_reducible rfl
   rotate_left
   ·simp only [Act.put, List.setIfInBounds_toArray, List.set_cons_zero, List.set_cons_succ, i64_w, i32_w]
    rfl
   refine pure_ (i := 1) (N := some 18) (v := ?_) (a' := ?_) #[true, true, false, false, false, false, false, false, false, false] rfl rfl (any_of HT_.out (by kernel_rfl)) (fun _ _ _ h => h) (Or.inl ⟨by rfl, ?_⟩) ?_ ?_
   rotate_left
   ·intro w'
    go_simp
    with_reducible rfl
   rotate_left
   ·simp only [Act.put, List.setIfInBounds_toArray, List.set_cons_zero, List.set_cons_succ, i64_w, i32_w]
    rfl
   refine pure_ (i := 2) (N := some 19) (v := ?_) (a' := ?_) #[true, true, true, false, false, false, false, false, false, false] rfl rfl (any_of HT_.out (by kernel_rfl)) (fun _ _ _ h => h) (Or.inl ⟨by rfl, ?_⟩) ?_ ?_
   rotate_left
   ·intro w'
    go_simp
    with_reducible rfl
   rotate_left
   ·simp only [Act.put, List.setIfInBounds_toArray, List.set_cons_zero, List.set_cons_succ, i64_w, i32_w]
    rfl
   refine pure_ (i := 4) (N := some 21) (v := ?_) (a' := ?_) #[true, true, true, false, true, false, false, false, false, false] rfl rfl (any_of HT_.out (by kernel_rfl)) (fun _ _ _ h => h) (Or.inl ⟨by rfl, ?_⟩) ?_ ?_
   rotate_left
   ·intro w'
    go_simp
    with_reducible rfl
   rotate_left
   ·simp only [Act.put, List.setIfInBounds_toArray, List.set_cons_zero, List.set_cons_succ, i64_w, i32_w]
    rfl
   refine pure_ (i := 5) (N := some 22) (v := ?_) (a' := ?_) #[true, true, true, false, true, true, false, false, false, false] rfl rfl (any_of HT_.out (by kernel_rfl)) (fun _ _ _ h => h) (Or.inl ⟨by rfl, ?_⟩) ?_ ?_
   rotate_left
   ·intro w'
    go_simp
    with_reducible rfl
   rotate_left
   ·simp only [Act.put, List.setIfInBounds_toArray, List.set_cons_zero, List.set_cons_succ, i64_w, i32_w]
    rfl
   refine pure_ (i := 6) (N := some 23) (v := ?_) (a' := ?_) #[true, true, true, false, true, true, true, false, false, false] rfl rfl (any_of HT_.out (by kernel_rfl)) (fun _ _ _ h => h) (Or.inl ⟨by rfl, ?_⟩) ?_ ?_
   rotate_left
   ·intro w'
    go_simp
    with_reducible rfl
   rotate_left
   ·simp only [Act.put, List.setIfInBounds_toArray, List.set_cons_zero, List.set_cons_succ, i64_w, i32_w]
    rfl
   refine take_ (i := 3) (N := some 20) (v := ?_) (a' := ?_) #[true, true, true, true, true, true, true, false, false, false] rfl rfl (take_ofW HT_.out HW_.out (by kernel_rfl)) (fun _ _ _ h => h) (Or.inl ⟨by rfl, ?_⟩) hHeld ?_ ?_
   rotate_left
   ·intro w' hs
    refine (run_load_of rfl rfl (HLA.out w' hs)).trans ?_
    with_reducible rfl
   rotate_left
   ·simp only [Act.put, List.setIfInBounds_toArray, List.set_cons_zero, List.set_cons_succ, i64_w, i32_w]
    rfl
   refine take_ (i := 7) (N := some 24) (v := ?_) (a' := ?_) #[true, true, true, true, true, true, true, true, false, false] rfl rfl (take_ofW HT_.out HW_.out (by kernel_rfl)) (fun _ _ _ h => h) (Or.inl ⟨by rfl, ?_⟩) hHeld ?_ ?_
   rotate_left
   ·intro w' hs
    refine (run_load_of rfl rfl (HLB.out w' hs)).trans ?_
    with_reducible rfl
   rotate_left
   ·simp only [Act.put, List.setIfInBounds_toArray, List.set_cons_zero, List.set_cons_succ, i64_w, i32_w]
    rfl
   refine one_ (i := 8) (N := some 25) #[true, true, true, true, true, true, true, true, true, false] rfl rfl (one_of HT_.out (by kernel_rfl)) (by decide) (fun K hK => ?_)
   refine goes_ Tryz.func37 (by kernel_rfl) rfl #[.agg csA.toArray, .agg csB.toArray] (by rfl) rfl rfl (by (try simp only [List.map_toArray, List.map_cons, List.map_nil]); first | done | rfl) ?_
   refine (show Calls Tryz.prog 37 #[.agg csA.toArray, .agg csB.toArray] w9 (fun e w' => e = .returned (.bool true) ∧ Below w9.heap.size w9 w') from by rw [HSA.out, HSB.out]; exact eqObs_calls x A4 c4 B4 d4 A6 c6 B6 d6 A7 c7 B7 d7 A8 c8 B8 d8 A9 c9 B9 d9 _ (Kd.C_below HCA4.out HB9.out) HLA4.out (Kd.C_below HCB4.out HB9.out) HLB4.out (Kd.C_below HCA6.out HB9.out) HLA6.out (Kd.C_below HCB6.out HB9.out) HLB6.out (Kd.C_below HCA7.out HB9.out) HLA7.out (Kd.C_below HCB7.out HB9.out) HLB7.out (Kd.C_below HCA8.out HB9.out) HLA8.out (Kd.C_below HCB8.out HB9.out) HLB8.out (Kd.C_below HCA9.out HB9.out) HLA9.out (Kd.C_below HCB9.out HB9.out) HLB9.out HLX.out).mono ?_
   rintro e wd ⟨rfl, hb⟩
   refine ⟨_, rfl, ?_⟩
   have HB2 := Aside0.mk (below_step HB9.out hb)
   refine hK.out _ _ (And.intro (fun j u h => (hb.cell (World.block_lt_of_cell? _ _ (hHeld.1 j u h))).trans (hHeld.1 j u h)) (fun j u h => (hb.cell (World.block_lt_of_cell? _ _ (hHeld.2 j u h))).trans (hHeld.2 j u h))) (fun hHeld => ?_)
   clear hK K hb
   refine norm_ (a' := ?_) ?_ ?_
   rotate_left
   ·show Act.put _ (some 25) _ = _
    simp only [Act.put, List.setIfInBounds_toArray, List.set_cons_zero, List.set_cons_succ, i64_w, i32_w]
    rfl
   refine pure_ (i := 9) (N := some 26) (v := ?_) (a' := ?_) #[true, true, true, true, true, true, true, true, true, true] rfl rfl (any_of HT_.out (by kernel_rfl)) (fun _ _ _ h => h) (Or.inl ⟨by rfl, ?_⟩) ?_ ?_
   rotate_left
   ·intro w'
    go_simp
    with_reducible rfl
   rotate_left
   ·simp only [Act.put, List.setIfInBounds_toArray, List.set_cons_zero, List.set_cons_succ, i64_w, i32_w]
    rfl
   refine done_ (done_of HT_.out (by kernel_rfl)) ?_
   try go_wp2
   go_roundg k1
   case measure => omega
   case rel => exact ⟨i + 1, by rw [w64n (by have := HFT.out.1; omega)], ⟨by have := HG.out; omega⟩, HB2⟩
  ·as_aux_lemma =>
   have tlt : decide (i < l.length) = false := decide_eq_false hlt
   clear hlt
   go_wp2
   go_ret
   exact ⟨rfl, HB.out⟩
def ReportLim (x : S30) : Prop := True ∧ (x.f1.length ≤ 281474976710656 ∧ ∀ y ∈ x.f1, ObsLim y)
theorem isz_30 : (Tryz.prog.info? 30).map (·.size) = some 2 := by kernel_rfl
set_option maxHeartbeats 8000000 in
set_option maxRecDepth 100000 in
theorem eqReport_calls (x : S30) (A1 : Option Addr) (c1 : Nat) (B1 : Option Addr) (d1 : Nat) (w : World) (ha1 : Kd.C k50 w A1 x.f1.length x.f1) (hca1 : x.f1.length ≤ c1) (hb1 : Kd.C k50 w B1 x.f1.length x.f1) (hcb1 : x.f1.length ≤ d1) (hf : ReportLim x) :
 Calls Tryz.prog 9 #[.agg #[.int .i64 x.f0, .slice A1 x.f1.length c1], .agg #[.int .i64 x.f0, .slice B1 x.f1.length d1]] w fun e w' => e = .returned (.bool true) ∧ Below w.heap.size w w' := by
 have hu := Tryz.underlying30
 have HA1 := Aside0.mk ha1
 have HCA1 := Aside0.mk hca1
 have HB1 := Aside0.mk hb1
 have HCB1 := Aside0.mk hcb1
 have HFT := Aside0.mk hf
 clear hf ha1 hca1 hb1 hcb1
 go_enter Tryz.func9, Tryz.ntmps9
 go_wp2_with (first | ((with_reducible refine gate_dst (N := 2) rfl ?_); refine box_event ?hg (N := 2) ?hd (cs := #[.int .i64 x.f0, .slice A1 x.f1.length c1]) (t := 30) ?hr ?_; (case hd => rfl); (case hg => rfl); (case hr => first | (go_simp; done) | (go_simp; rfl)); intro gA hg wb2 hbox hb; have HW := Aside0.mk hb; have KA := Aside0.mk hbox; clear hb hbox hg) | ((with_reducible refine gate_dst (N := 3) rfl ?_); refine box_event ?hg (N := 3) ?hd (cs := #[.int .i64 x.f0, .slice B1 x.f1.length d1]) (t := 30) ?hr ?_; (case hd => rfl); (case hg => rfl); (case hr => first | (go_simp; done) | (go_simp; rfl)); intro gB hg wb3 hbox hb; replace HW := Aside0.mk (below_step HW.out hb); replace KA := Aside0.mk (blk_below KA.out hb); have KB := Aside0.mk hbox; have ka0 := blk_cell KA.out 0; have kb0 := blk_cell hbox 0; have ka1 := blk_cell KA.out 1; have kb1 := blk_cell hbox 1; clear hb hbox hg) | (go_at_call 25; refine (eqObsS_calls A1 c1 B1 d1 x.f1 _ (Kd.C_below HA1.out HW.out) HCA1.out (Kd.C_below HB1.out HW.out) HCB1.out HFT.out.2).mono ?_; rintro e wd ⟨rfl, hb⟩; replace KA := Aside0.mk (blk_below KA.out hb); replace KB := Aside0.mk (blk_below KB.out hb); replace ka0 := blk_cell KA.out 0; replace kb0 := blk_cell KB.out 0; replace ka1 := blk_cell KA.out 1; replace kb1 := blk_cell KB.out 1; replace HW := Aside0.mk (below_step HW.out hb); clear hb))
 go_ret
 exact ⟨rfl, HW.out⟩

end Go.Proofs.YtibhaklgajkalaaGreatDoor.YTell
