/- A5 -/
import Derived.Test.YtladodfapnigfaaYSesx0
import Derived.Shelf.Spec.SlicesInsertGrow
import Derived.Laws.CopyRow
import Derived.Lib.SliceRun
import Derived.Lib.Hide
namespace Go.Proofs.Ytladodfapnigfaa.YSes
open Go.RowKit Go.Proofs.YtladodfapnigfaaW.PrintWords Go.Proofs.YtladodfapnigfaaW.PrintLast Go.Proofs.YtladodfapnigfaaW.PrintMore
attribute [local go_sem] max2_int min2_int max_two min_two max_three min_three max_four min_four
set_option linter.unusedVariables false
set_option linter.unusedSimpArgs false
theorem setRow_far {w : World} {g k : Nat} (cs : Array Value) (h : k ≠ g) : (w.setRow g cs).heap[k]? = w.heap[k]? := by
 unfold World.setRow
 show (w.heap.modify g _)[k]? = _
 rw [Array.getElem?_modify, if_neg (fun e => h e.symm)]
theorem run_copy_rowN {P : Program} (w : World) (dT sT ty elem : TypeId) (sz g o dLen dCap : Nat) (a : Addr) (sLen sCap : Nat) (cur : Array Value) (t : TypeId) (cs : List Value)
 (hu : P.underlying dT = some (.slice elem)) (hs : (P.info? elem).map (·.size) = some sz)
 (hg : w.heap[g]? = some (.cells cur t (0, 0))) (hn : cs.length = Nat.min sLen dLen * sz)
 (hsrc : ∀ j v, cs[j]? = some v → w.cell? (a.add j) = some v) (hfit : o + cs.length ≤ cur.size) (h1 : ∀ v ∈ cs, v.oneCell' = true) :
 (Builtin.copy_ #[dT, sT] ty #[.slice (some ⟨g, o, none⟩) dLen dCap, .slice (some a) sLen sCap]).run P w =
  .ok (goInt (Nat.min sLen dLen)) (w.setRow g (cur.toList.take o ++ cs ++ cur.toList.drop (o + cs.length)).toArray) := by
 have hl := run_loadCells_list (P := P) w a cs hsrc
 have hst := run_storeCells_at P g o t cs 0 cur w hg (by simpa using hfit) h1
 cases hq : P.info? elem with
 | none => simp [hq] at hs
 | some i =>
  have hi : i.size = sz := by simpa [hq] using hs
  simp [Builtin.copy_, run_underlying hu, Builtin.lenOf, Builtin.firstCells, sizeOf, typeInfo, hq, hi, ← hn, hl, hst]
set_option maxHeartbeats 8000000 in
set_option maxRecDepth 100000 in
/-- slices.Insert of one session at the end. -/
theorem insertEnd.calls (W : World) (base : Nat) (V : Value) (n : Nat) (xs seg : List Value) (vb : Nat) (hown : W.ownsRow base 74 4 V n xs) (hbase : base ≤ W.heap.size) (hn : n ≤ 1048576)
 (hv : W.heap[vb]? = some (.cells seg.toArray 74 (0, 0))) (hsl : seg.length = 4) (h1s : ∀ u ∈ seg, u.oneCell' = true) :
 Calls Try.prog 82 #[V, .int .i64 (n : Int), .slice (some ⟨vb, 0, none⟩) 1 1] W fun e w' => ∃ V', e = .returned V' ∧ w'.ownsRow base 74 4 V' (n + 1) (xs ++ seg) ∧ W.grownBy w' V.ownBlock ∧ (V'.ownBlock = V.ownBlock ∨ V'.ownBlock = some W.heap.size) := by
 obtain ⟨i0, hi, hz0, hz1, hz2⟩ := info_parts info74
 have hu := Try.underlying46
 have HO := Aside0.mk hown
 have HBa := Aside0.mk hbase
 have HN := Aside0.mk hn
 have HV := Aside0.mk hv
 have HL := Aside0.mk hsl
 have H1 := Aside0.mk h1s
 clear hbase hn hv hsl h1s
 have hform : ∃ A c, V = .slice A n c ∧ n ≤ c ∧ (A = none → n = 0 ∧ c = 0) := by
  rcases hown.2 with ⟨rfl, rfl⟩ | ⟨g, cap, cur, rfl, h1, h2, h3, h4, h5, h6⟩
  ·exact ⟨none, 0, rfl, Nat.le_refl _, fun _ => ⟨rfl, rfl⟩⟩
  ·exact ⟨_, _, rfl, h3, fun h => by cases h⟩
 obtain ⟨A, c, rfl, hc, hA⟩ := hform
 have HC := Aside0.mk hc
 have HAn := Aside0.mk hA
 clear hown hA
 by_cases hcn : c = n
 ·subst hcn
  go_enter Try.func82, Try.ntmps82
  go_wp2_with ((with_reducible refine gate_builtin (b := .append) (xs := #[.tmp 23, .tmp 24]) rfl ?_); at_builtin; refine Hid.out ?_)
  refine Lib.hid ?_
  refine wpList_append_own_at _ rfl _ _ 46 rfl base 74 i0 (.agg #[(.int .i64 0), (.int .i64 0), (.int .i64 0), (.slice none 0 0)]) 4 48 hu hi hz0 hz1 hz2 rfl (by decide) _ c xs rfl HO.out ⟨vb, 0, none⟩ 1 1 seg rfl HL.out (fun j u hj => ?_) H1.out (by have := HN.out; simp only [maxLen]; omega) (by have := HN.out; omega) HBa.out ?_
  ·have := blk_cell HV.out j
   rw [show (⟨vb, 0, none⟩ : Addr).add j = ⟨vb, j, none⟩ by unfold Addr.add; split <;> simp_all, this]
   simpa using hj
  ·intro v1 w1 hown hg _ hat
   have HP := Aside0.mk (And.intro hown (And.intro hg hat))
   clear hown hg hat
   go_wp2
   go_ret
   exact ⟨_, rfl, HP.out.1, HP.out.2.1, HP.out.2.2⟩
 ·go_enter Try.func82, Try.ntmps82
  go_wp2_with ((with_reducible refine gate_builtin (b := .append) (xs := #[.tmp 23, .tmp 24]) rfl ?_); at_builtin; refine Hid.out ?_)
  refine Lib.hid ?_
  refine wpList_append_own_at _ rfl _ _ 46 rfl base 74 i0 (.agg #[(.int .i64 0), (.int .i64 0), (.int .i64 0), (.slice none 0 0)]) 4 48 hu hi hz0 hz1 hz2 rfl (by decide) _ n xs rfl HO.out ⟨vb, 0, none⟩ 1 1 seg rfl HL.out (fun j u hj => ?_) H1.out (by have := HN.out; simp only [maxLen]; omega) (by have := HN.out; omega) HBa.out ?_
  ·have := blk_cell HV.out j
   rw [show (⟨vb, 0, none⟩ : Addr).add j = ⟨vb, j, none⟩ by unfold Addr.add; split <;> simp_all, this]
   simpa using hj
  ·intro v1 w1 hown hg _ hat
   have HP := Aside0.mk (And.intro hown (And.intro hg hat))
   clear hown hg hat
   go_wp2
   go_ret
   exact ⟨_, rfl, HP.out.1, HP.out.2.1, HP.out.2.2⟩
set_option maxHeartbeats 8000000 in
set_option maxRecDepth 100000 in
/-- slices.Insert of one session, in place. -/
theorem insertShift.calls (W : World) (base : Nat) (n i g cap : Nat) (xs seg : List Value) (vb : Nat) (hown : W.ownsRow base 74 4 (.slice (some ⟨g, 0, none⟩) n cap) n xs) (hi : i < n) (hroom : n + 1 ≤ cap) (hn : n ≤ 1048576)
 (hv : W.heap[vb]? = some (.cells seg.toArray 74 (0, 0))) (hsl : seg.length = 4) (hne : vb ≠ g) (h1x : ∀ u ∈ xs, u.oneCell' = true) (h1s : ∀ u ∈ seg, u.oneCell' = true) :
 Calls Try.prog 82 #[.slice (some ⟨g, 0, none⟩) n cap, .int .i64 (i : Int), .slice (some ⟨vb, 0, none⟩) 1 1] W fun e w' => ∃ V', e = .returned V' ∧ w'.ownsRow base 74 4 V' (n + 1) (xs.take (i * 4) ++ seg ++ xs.drop (i * 4)) ∧ W.grownBy w' (some g) ∧ (V'.ownBlock = some g ∨ V'.ownBlock = some W.heap.size) := by
 obtain ⟨i0, hii, hz0, hz1, hz2⟩ := info_parts info74
 have hu := Try.underlying46
 have hsz : (Try.prog.info? 74).map (·.size) = some 4 := by rw [hii]; simp [hz1]
 have hadd : ∀ b q j, (⟨b, q, none⟩ : Addr).add j = ⟨b, q + j, none⟩ := fun b q j => by unfold Addr.add; split <;> simp_all
 obtain ⟨cur, hgb, hg0, hcm, hcs, hct⟩ : ∃ cur, W.heap[g]? = some (.cells cur 74 (0, 0)) ∧ base ≤ g ∧ cap ≤ maxLen ∧ cur.size = cap * 4 ∧ cur.toList.take (n * 4) = xs := by
  rcases hown.2 with ⟨e, _⟩ | ⟨g', cap', cur, e, h1, h2, h3, h4, h5, h6⟩
  ·cases e
  ·cases e
   exact ⟨cur, h2, h1, h4, h5, h6⟩
 have hxl := hown.1
 have hzs : ∀ w, (Go.sizeOf 74).run Try.prog w = .ok 4 w := fun w => by simp [sizeOf, typeInfo, hii, hz1]
 have hov : ∀ lb cb, (callFunc 86 #[.slice (some ⟨vb, 0, none⟩) 1 1, .slice (some ⟨g, (i + 1) * 4, none⟩) lb cb]).run Try.prog W = .ok (.value (.bool false)) W := fun lb cb => by
  rw [run_callFunc_extern Try.func86 (by kernel_rfl) (by kernel_rfl) (by kernel_rfl) (e := Extern.SlicesOverlaps.overlaps #[46, 46] #[4]) (by kernel_rfl),
   Lib.run_overlaps_apart W 46 4 74 hu 4 hzs ⟨vb, 0, none⟩ ⟨g, (i + 1) * 4, none⟩ 1 1 lb cb hne 74 74 4 (cap * 4) (by simp [World.shape?, hv, hsl]) (by simp [World.shape?, hgb, hcs]) (by omega) (blk_frozen hv 0) (blk_frozen hv 4)]
  rfl
 obtain ⟨D, hD⟩ : ∃ D, D = xs.drop (i * 4) := ⟨_, rfl⟩
 have hdl : D.length = (n - i) * 4 := by rw [hD, List.length_drop, hxl]; omega
 obtain ⟨cur1, hcur1⟩ : ∃ c1 : Array Value, c1 = (cur.toList.take ((i + 1) * 4) ++ D ++ cur.toList.drop ((i + 1) * 4 + D.length)).toArray := ⟨_, rfl⟩
 have hc1s : cur1.size = cap * 4 := by rw [hcur1]; simp [hcs]; omega
 have hcp1 : ∀ ty dc sc, (Builtin.copy_ #[46, 46] ty #[.slice (some ⟨g, (i + 1) * 4, none⟩) (n - i) dc, .slice (some ⟨g, i * 4, none⟩) (n + 1 - i) sc]).run Try.prog W.drew = .ok (goInt ((n - i : Nat) : Int)) (W.drew.setRow g cur1) := fun ty dc sc => by
  have h := run_copy_rowN (P := Try.prog) W.drew 46 46 ty 74 4 g ((i + 1) * 4) (n - i) dc ⟨g, i * 4, none⟩ (n + 1 - i) sc cur 74 D hu hsz hgb (by rw [hdl, show Nat.min (n + 1 - i) (n - i) = n - i by simp only [Nat.min_def]; split <;> omega])
   (fun j v hj => by
    rw [hadd]
    have := blk_cell (w := W.drew) hgb (i * 4 + j)
    rw [this]
    rw [hD, List.getElem?_drop, ← hct, List.getElem?_take] at hj
    split at hj
    ·simpa using hj
    ·cases hj)
   (by rw [hdl, hcs]; omega) (fun v hv' => h1x v (by rw [hD] at hv'; exact List.mem_of_mem_drop hv'))
  rw [show Nat.min (n + 1 - i) (n - i) = n - i by simp only [Nat.min_def]; split <;> omega, ← hcur1] at h
  exact h
 obtain ⟨cur2, hcur2⟩ : ∃ c2 : Array Value, c2 = (cur1.toList.take (i * 4) ++ seg ++ cur1.toList.drop (i * 4 + seg.length)).toArray := ⟨_, rfl⟩
 have hW1 : (W.drew.setRow g cur1).heap[g]? = some (.cells cur1 74 (0, 0)) := setRow_heap W.drew g cur cur1 74 (0, 0) hgb
 have hvW1 : (W.drew.setRow g cur1).heap[vb]? = some (.cells seg.toArray 74 (0, 0)) := by
  rw [show (W.drew.setRow g cur1).heap[vb]? = W.heap[vb]? by unfold World.setRow; show (W.heap.modify g _)[vb]? = _; rw [Array.getElem?_modify]; simp [hne.symm]]
  exact hv
 have hcp2 : ∀ ty dc, (Builtin.copy_ #[46, 46] ty #[.slice (some ⟨g, i * 4, none⟩) (n + 1 - i) dc, .slice (some ⟨vb, 0, none⟩) 1 1]).run Try.prog (W.drew.setRow g cur1) = .ok (goInt 1) (W.drew.setRow g cur2) := fun ty dc => by
  have h := run_copy_rowN (P := Try.prog) (W.drew.setRow g cur1) 46 46 ty 74 4 g (i * 4) (n + 1 - i) dc ⟨vb, 0, none⟩ 1 1 cur1 74 seg hu hsz hW1 (by rw [hsl, show Nat.min 1 (n + 1 - i) = 1 by simp only [Nat.min_def]; split <;> omega])
   (fun j v hj => by
    rw [hadd, Nat.zero_add, blk_cell hvW1 j]
    simpa using hj)
   (by rw [hsl, hc1s]; omega) h1s
  rw [show Nat.min 1 (n + 1 - i) = 1 by simp only [Nat.min_def]; split <;> omega, ← hcur2, setRow_setRow] at h
  exact h
 have hfin : (W.drew.setRow g cur2).ownsRow base 74 4 (.slice (some ⟨g, 0, none⟩) (n + 1) cap) (n + 1) (xs.take (i * 4) ++ seg ++ xs.drop (i * 4)) := by
  have hil : i * 4 ≤ xs.length := by omega
  refine ⟨by simp only [List.length_append, List.length_take, List.length_drop, hxl, hsl]; omega, .inr ⟨g, cap, cur2, rfl, hg0, setRow_heap W.drew g cur cur2 74 (0, 0) hgb, hroom, hcm, ?_, ?_⟩⟩
  ·rw [hcur2]; simp only [List.size_toArray, List.length_append, List.length_take, List.length_drop, Array.length_toList, hc1s, hsl]; omega
  ·have e1 : cur1.toList.take (i * 4) = xs.take (i * 4) := by
    rw [hcur1, ← hct]
    apply List.ext_getElem?
    intro j
    simp only [List.getElem?_take, List.append_assoc]
    by_cases hj : j < i * 4
    ·rw [if_pos hj, if_pos hj, if_pos (by omega), List.getElem?_append_left (by simp [hcs]; omega), List.getElem?_take, if_pos (by omega)]
    ·rw [if_neg hj, if_neg hj]
   have e2 : (cur1.toList.drop (i * 4 + seg.length)).take ((n - i) * 4) = xs.drop (i * 4) := by
    rw [← hD, hcur1, hsl, show i * 4 + 4 = (i + 1) * 4 by omega]
    show (List.drop ((i + 1) * 4) (cur.toList.take ((i + 1) * 4) ++ D ++ cur.toList.drop ((i + 1) * 4 + D.length))).take ((n - i) * 4) = D
    have hlt : (cur.toList.take ((i + 1) * 4)).length = (i + 1) * 4 := by simp [hcs]; omega
    rw [List.append_assoc, List.drop_left' hlt, ← hdl, List.take_left]
   rw [hcur2]
   show ((cur1.toList.take (i * 4) ++ seg ++ cur1.toList.drop (i * 4 + seg.length))).take ((n + 1) * 4) = _
   rw [e1]
   have hla : (xs.take (i * 4) ++ seg).length = (i + 1) * 4 := by simp only [List.length_append, List.length_take, hxl, hsl]; omega
   rw [List.take_append, List.take_of_length_le (by omega), hla, show (n + 1) * 4 - (i + 1) * 4 = (n - i) * 4 by omega, e2]
 have hgr : W.grownBy (W.drew.setRow g cur2) (some g) := by
  refine ⟨rfl, rfl, rfl, by simp [World.setRow], fun k _ hk => ?_⟩
  unfold World.setRow
  show (W.heap.modify g _)[k]? = _
  rw [Array.getElem?_modify, if_neg (fun e => hk (by rw [e]))]
 have HFin := Aside0.mk (And.intro hfin hgr)
 have HV := Aside0.mk hv
 have mixed : Try.prog.follows Departure.mixedOrders = true := by kernel_rfl
 have hz : ¬ ((i : Int) = (n : Int)) := by omega
 have hb2 : ¬ (cap = i + 1) := by omega
 have hb4 : ¬ (cap = i) := by omega
 have hin : i ≤ n := by omega
 have hw1 : IntKind.i64.wrap ((i : Int) + 1) = (i : Int) + 1 := by rw [IntKind.wrap_i64]; omega
 have hb1 : (0 : Int) ≤ (i : Int) + 1 := by omega
 have htn : ((i : Int) + 1).toNat = i + 1 := by omega
 have hb3 : (i : Int) ≤ (n : Int) := by omega
 have hb5 : (i : Int) ≤ (n : Int) + 1 := by omega
 clear hfin hgr hcur1 hcur2 hD hv hown hgb hct hcs hxl hsl h1x h1s hdl hc1s hW1 hvW1 hzs hadd
 go_enter Try.func82, Try.ntmps82
 go_wp2_with (simp only [hov])
 go_region_law_o (refine step_copy_runI rfl _ _ 46 46 rfl _ _ (by simp [Act.eval, Act.put]) (by simp [Act.eval, Act.put]) (hcp1 _ _ _) ?_)
 go_wp2_with (at_builtin; refine wpList_copy_runI _ rfl _ _ 46 46 rfl _ _ rfl rfl (hcp2 _ _) ?_)
 go_ret
 exact ⟨_, rfl, HFin.out.1, HFin.out.2, .inl rfl⟩
set_option maxHeartbeats 8000000 in
set_option maxRecDepth 100000 in
/-- slices.Insert of one session where there is no room: a new row. -/
theorem insertGrow.calls (W : World) (base : Nat) (n i g cap : Nat) (xs seg : List Value) (vb : Nat) (hown : W.ownsRow base 74 4 (.slice (some ⟨g, 0, none⟩) n cap) n xs) (hbase : base ≤ W.heap.size) (hi : i < n) (hroom : cap < n + 1) (hn : n ≤ 1048576)
 (hv : W.heap[vb]? = some (.cells seg.toArray 74 (0, 0))) (hsl : seg.length = 4) (h1x : ∀ u ∈ xs, u.oneCell' = true) (h1s : ∀ u ∈ seg, u.oneCell' = true) :
 Calls Try.prog 82 #[.slice (some ⟨g, 0, none⟩) n cap, .int .i64 (i : Int), .slice (some ⟨vb, 0, none⟩) 1 1] W fun e w' => ∃ V', e = .returned V' ∧ w'.ownsRow base 74 4 V' (n + 1) (xs.take (i * 4) ++ seg ++ xs.drop (i * 4)) ∧ W.grownBy w' (some g) ∧ (V'.ownBlock = some g ∨ V'.ownBlock = some W.heap.size) := by
 obtain ⟨i0, hii, hz0, hz1, hz2⟩ := info_parts info74
 have hu := Try.underlying46
 have hu3 := Try.underlying3
 have hsz : (Try.prog.info? 74).map (·.size) = some 4 := by rw [hii]; simp [hz1]
 have hadd : ∀ b q j, (⟨b, q, none⟩ : Addr).add j = ⟨b, q + j, none⟩ := fun b q j => by unfold Addr.add; split <;> simp_all
 obtain ⟨cur, hgb, hg0, hnc, hcm, hcs, hct⟩ : ∃ cur, W.heap[g]? = some (.cells cur 74 (0, 0)) ∧ base ≤ g ∧ n ≤ cap ∧ cap ≤ maxLen ∧ cur.size = cap * 4 ∧ cur.toList.take (n * 4) = xs := by
  rcases hown.2 with ⟨e, _⟩ | ⟨g', cap', cur, e, h1, h2, h3, h4, h5, h6⟩
  ·cases e
  ·cases e
   exact ⟨cur, h2, h1, h3, h4, h5, h6⟩
 have hxl := hown.1
 have hgw := blk_lt hgb
 have hvw := blk_lt hv
 obtain ⟨z, hz⟩ : ∃ z : Value, z = .agg #[(.int .i64 0), (.int .i64 0), (.int .i64 0), (.slice none 0 0)] := ⟨_, rfl⟩
 have hzc : z.cells.size = 4 := by rw [hz]; rfl
 rw [← hz] at hz0
 have hcell : ∀ (W' : World), W'.heap[g]? = some (.cells cur 74 (0, 0)) → ∀ j v, xs[j]? = some v → W'.cell? ⟨g, j, none⟩ = some v := fun W' h j v hj => by
  rw [blk_cell h j]
  rw [← hct, List.getElem?_take] at hj
  split at hj
  ·simpa using hj
  ·cases hj
 have hold : (Builtin.firstCells i0.size i (.slice (some ⟨g, 0, none⟩) i cap)).run Try.prog W.drew = .ok (xs.take (i * 4)).toArray W.drew := by
  rw [hz1]
  refine run_firstCells_some W.drew 4 i ⟨g, 0, none⟩ i cap (xs.take (i * 4)) (by rw [List.length_take]; omega) (fun j v hj => ?_)
  rw [hadd, Nat.zero_add]
  rw [List.getElem?_take] at hj
  split at hj
  ·exact hcell W.drew hgb j v hj
  ·cases hj
 obtain ⟨G, hG⟩ : ∃ G, G = grownCap W (n + 1) cap 74 := ⟨_, rfl⟩
 have hGn : n + 1 ≤ G := by rw [hG]; exact grownCap_ge W _ _ _
 have hGm : G ≤ maxLen := by rw [hG]; exact grownCap_le_maxLen W (n + 1) cap 74 (by unfold maxLen; omega)
 obtain ⟨ROW, hROW⟩ : ∃ ROW : Array Value, ROW = (xs.take (i * 4)).toArray ++ Builtin.zeroCells z.cells (n + 1 - i) ++ Builtin.zeroCells z.cells (G - (n + 1)) := ⟨_, rfl⟩
 have hRs : ROW.size = G * 4 := by
  rw [hROW]
  simp only [Array.size_append, List.size_toArray, List.length_take, Builtin.zeroCells, Array.size_map, Array.size_range, hzc, hxl]
  omega
 have hrz : ∀ ty, (Builtin.append_ #[46, 3] ty #[.slice (some ⟨g, 0, none⟩) i cap, .int .i64 ((n : Int) + 1 - (i : Int))]).run Try.prog W =
  .ok (.slice (some ⟨W.heap.size, 0, none⟩) (n + 1) G) (W.drew.alloc (.cells ROW 74)) := fun ty => by
  have h := Lib.run_append_grow_zeros W 46 3 ty 74 i0 z .i64 .i64 hu hu3 hii hz0 (some ⟨g, 0, none⟩) i cap (xs.take (i * 4)) hold (n + 1 - i) (by omega) (by omega) (by omega) (by omega) (by rw [hz2]; omega) (by rw [hz2, show i + (n + 1 - i) = n + 1 by omega]; exact growslice_fits hroom (by omega))
  rw [show i + (n + 1 - i) = n + 1 by omega, ← hG, ← hROW] at h
  rw [show (n : Int) + 1 - (i : Int) = ((n + 1 - i : Nat) : Int) by omega]
  exact h
 obtain ⟨D, hD⟩ : ∃ D, D = xs.drop (i * 4) := ⟨_, rfl⟩
 have hdl : D.length = (n - i) * 4 := by rw [hD, List.length_drop, hxl]; omega
 obtain ⟨h, hh⟩ : ∃ h, h = W.heap.size := ⟨_, rfl⟩
 rw [← hh] at hrz ⊢
 obtain ⟨row1, hrow1⟩ : ∃ c1 : Array Value, c1 = (ROW.toList.take (i * 4) ++ seg ++ ROW.toList.drop (i * 4 + seg.length)).toArray := ⟨_, rfl⟩
 have hr1s : row1.size = G * 4 := by rw [hrow1]; simp only [List.size_toArray, List.length_append, List.length_take, List.length_drop, Array.length_toList, hRs, hsl]; omega
 obtain ⟨row2, hrow2⟩ : ∃ c1 : Array Value, c1 = (row1.toList.take ((i + 1) * 4) ++ D ++ row1.toList.drop ((i + 1) * 4 + D.length)).toArray := ⟨_, rfl⟩
 have hcpA : ∀ (W' : World), W'.heap[h]? = some (.cells ROW 74 (0, 0)) → W'.heap[vb]? = some (.cells seg.toArray 74 (0, 0)) → ∀ ty dc, (Builtin.copy_ #[46, 46] ty #[.slice (some ⟨h, i * 4, none⟩) (n + 1 - i) dc, .slice (some ⟨vb, 0, none⟩) 1 1]).run Try.prog W' = .ok (goInt 1) (W'.setRow h row1) := fun W' e1 e2 ty dc => by
  have hq := run_copy_rowN (P := Try.prog) W' 46 46 ty 74 4 h (i * 4) (n + 1 - i) dc ⟨vb, 0, none⟩ 1 1 ROW 74 seg hu hsz e1 (by rw [hsl, show Nat.min 1 (n + 1 - i) = 1 by simp only [Nat.min_def]; split <;> omega])
   (fun j v hj => by
    rw [hadd, Nat.zero_add, blk_cell e2 j]
    simpa using hj)
   (by rw [hsl, hRs]; omega) h1s
  rw [show Nat.min 1 (n + 1 - i) = 1 by simp only [Nat.min_def]; split <;> omega, ← hrow1] at hq
  exact hq
 have hcpB : ∀ (W' : World), W'.heap[h]? = some (.cells row1 74 (0, 0)) → W'.heap[g]? = some (.cells cur 74 (0, 0)) → ∀ ty dc sc, (Builtin.copy_ #[46, 46] ty #[.slice (some ⟨h, (i + 1) * 4, none⟩) (n - i) dc, .slice (some ⟨g, i * 4, none⟩) (n - i) sc]).run Try.prog W' = .ok (goInt ((n - i : Nat) : Int)) (W'.setRow h row2) := fun W' e1 e2 ty dc sc => by
  have hq := run_copy_rowN (P := Try.prog) W' 46 46 ty 74 4 h ((i + 1) * 4) (n - i) dc ⟨g, i * 4, none⟩ (n - i) sc row1 74 D hu hsz e1 (by rw [hdl, show (n - i).min (n - i) = n - i from Nat.min_self _])
   (fun j v hj => by
    rw [hadd]
    rw [hD, List.getElem?_drop] at hj
    exact hcell W' e2 _ v hj)
   (by rw [hdl, hr1s]; omega) (fun v hv' => h1x v (by rw [hD] at hv'; exact List.mem_of_mem_drop hv'))
  rw [show (n - i).min (n - i) = n - i from Nat.min_self _, ← hrow2] at hq
  exact hq
 have hE1 : (W.drew.alloc (.cells ROW 74)).heap[h]? = some (.cells ROW 74 (0, 0)) := by rw [hh]; exact heap_alloc_new W.drew _
 have hE2 : (W.drew.alloc (.cells ROW 74)).heap[vb]? = some (.cells seg.toArray 74 (0, 0)) := blk_alloc (w := W.drew) hv _
 have hE3 : (W.drew.alloc (.cells ROW 74)).heap[g]? = some (.cells cur 74 (0, 0)) := blk_alloc (w := W.drew) hgb _
 have hF1 : ((W.drew.alloc (.cells ROW 74)).setRow h row1).heap[h]? = some (.cells row1 74 (0, 0)) := setRow_heap _ h ROW row1 74 (0, 0) hE1
 have hF2 : ((W.drew.alloc (.cells ROW 74)).setRow h row1).heap[g]? = some (.cells cur 74 (0, 0)) := by
  rw [setRow_far _ (by omega)]
  exact hE3
 have hfin : (((W.drew.alloc (.cells ROW 74)).setRow h row1).setRow h row2).ownsRow base 74 4 (.slice (some ⟨h, 0, none⟩) (n + 1) G) (n + 1) (xs.take (i * 4) ++ seg ++ xs.drop (i * 4)) := by
  have hil : i * 4 ≤ xs.length := by omega
  refine ⟨by simp only [List.length_append, List.length_take, List.length_drop, hxl, hsl]; omega, .inr ⟨h, G, row2, rfl, by omega, setRow_heap _ h row1 row2 74 (0, 0) hF1, hGn, hGm, ?_, ?_⟩⟩
  ·rw [hrow2]; simp only [List.size_toArray, List.length_append, List.length_take, List.length_drop, Array.length_toList, hr1s, hdl]; omega
  ·have e0 : ROW.toList.take (i * 4) = xs.take (i * 4) := by
    rw [hROW]
    simp only [Array.toList_append]
    have hlt : (xs.take (i * 4)).length = i * 4 := by rw [List.length_take]; omega
    rw [List.append_assoc, List.take_left' hlt]
   have e1 : row1.toList.take ((i + 1) * 4) = xs.take (i * 4) ++ seg := by
    rw [hrow1, e0]
    show ((xs.take (i * 4) ++ seg) ++ _).take ((i + 1) * 4) = _
    exact List.take_left' (by simp only [List.length_append, List.length_take, hxl, hsl]; omega)
   rw [hrow2, e1, hD]
   show ((xs.take (i * 4) ++ seg ++ xs.drop (i * 4)) ++ _).take ((n + 1) * 4) = _
   exact List.take_left' (by simp only [List.length_append, List.length_take, List.length_drop, hxl, hsl]; omega)
 have hgr : W.grownBy (((W.drew.alloc (.cells ROW 74)).setRow h row1).setRow h row2) (some g) := by
  refine ⟨rfl, rfl, rfl, by simp [World.setRow, World.alloc], fun k hk _ => ?_⟩
  rw [setRow_far _ (by omega), setRow_far _ (by omega)]
  exact Below.heap_alloc W.drew _ k hk
 have HFin := Aside0.mk (And.intro hfin hgr)
 have hG1 : ((W.alloc (.cells ROW 74)).drew).heap[h]? = some (.cells ROW 74 (0, 0)) := hE1
 have hG2 : ((W.alloc (.cells ROW 74)).drew).heap[vb]? = some (.cells seg.toArray 74 (0, 0)) := hE2
 have hG3 : (((W.alloc (.cells ROW 74)).drew.setRow h row1).drew).heap[h]? = some (.cells row1 74 (0, 0)) := hF1
 have hG4 : (((W.alloc (.cells ROW 74)).drew.setRow h row1).drew).heap[g]? = some (.cells cur 74 (0, 0)) := hF2
 have HG1 := Aside0.mk hG1
 have HG2 := Aside0.mk hG2
 have HG3 := Aside0.mk hG3
 have HG4 := Aside0.mk hG4
 have mixed : Try.prog.follows Departure.mixedOrders = true := by kernel_rfl
 have hze : ¬ ((i : Int) = (n : Int)) := by omega
 have hz3 : (cap : Int) < (n : Int) + 1 := by omega
 have hGi : ¬ (G = i) := by omega
 have hGim : ¬ (G = i + 1) := by omega
 have hci : ¬ (cap = i) := by omega
 have hw1 : IntKind.i64.wrap ((i : Int) + 1) = (i : Int) + 1 := by rw [IntKind.wrap_i64]; omega
 have hb1 : (0 : Int) ≤ (i : Int) + 1 := by omega
 have htn : ((i : Int) + 1).toNat = i + 1 := by omega
 have hin : i ≤ n := by omega
 have hb3 : (i : Int) ≤ (n : Int) := by omega
 have hb5 : (i : Int) ≤ (n : Int) + 1 := by omega
 have hb6 : (i : Int) ≤ (cap : Int) := by omega
 have hn64 : (n : Int) ≤ 1048576 := by omega
 clear hE1 hE2 hE3 hF1 hF2 hG1 hG2 hG3 hG4 hh hfin hgr hrow1 hrow2 hD hv hown hgb hct hcs hxl hsl h1x h1s hdl hadd hcell hold hROW hRs hG hr1s hz hzc hz0 hz1 hz2 hii hsz hGm hcm hnc
 go_enter Try.func82, Try.ntmps82
 go_wp2_with ((with_reducible refine gate_builtin (b := .append) (xs := #[.tmp 34, .tmp 39]) rfl ?_); at_builtin; refine Hid.out ?_)
 refine Lib.hid ?_
 refine Lib.wpList_append_run _ rfl _ _ _ _ rfl _ _ rfl rfl _ _ (hrz _) ?_
 have hcA := hcpA _ HG1.out HG2.out 3 (G - i)
 go_wp2
 go_region_law_o (refine step_copy_runI rfl _ _ 46 46 rfl (.slice (some ⟨h, (i + 1) * 4, none⟩) (n - i) (G - (i + 1))) (.slice (some ⟨g, i * 4, none⟩) (n - i) (cap - i)) (by simp [Act.eval, Act.put]) (by simp [Act.eval, Act.put]) (hcpB _ HG3.out HG4.out _ _ _) ?_)
 go_wp2
 go_ret
 exact ⟨_, rfl, HFin.out.1, ⟨HFin.out.2.os, HFin.out.2.tape, HFin.out.2.output, HFin.out.2.size, HFin.out.2.block⟩, .inr rfl⟩

end Go.Proofs.Ytladodfapnigfaa.YSes
