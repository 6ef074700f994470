/- T1 -/
import Derived.Test.YtibhaklgajkalaaGreatDoorYTellx0
import Derived.Test.YtibhaklgajkalaaGreatDoorNum
namespace Go.Proofs.YtibhaklgajkalaaGreatDoor.YTell
open Go.RowKit Go.Proofs.YtibhaklgajkalaaGreatDoorW.PrintWords Go.Proofs.YtibhaklgajkalaaGreatDoorW.PrintLast Go.Proofs.YtibhaklgajkalaaGreatDoorW.PrintMore
attribute [local go_sem] max2_int min2_int max_two min_two max_three min_three max_four min_four
set_option linter.unusedVariables false
set_option linter.unusedSimpArgs false
open Go.Proofs.YtibhaklgajkalaaGreatDoor.Num
/-- A report, of the law's own types and of the program's. -/
structure S24 where
 f0 : Int
 f1 : List S83
structure S30 where
 f0 : Int
 f1 : List S50
/-! ### what is counted of an argument, and what is left -/
theorem add_add (ad : Addr) (m j : Nat) : (ad.add m).add j = ad.add (m + j) := by
 unfold Addr.add
 by_cases hm : m = 0
 ·subst hm; simp
 ·by_cases hj : j = 0
  ·subst hj; simp
  ·simp [hm, hj, Nat.add_assoc]
/-- A struct is read out of the cells that lie at its place: the cells stay a name. -/
theorem wpList_load_at {P : Program} {ops : Array Oper} {rest : List Oper} {op : Oper} {a : Act} {w : World} {Q : Exit → Act → World → Prop} (hgd : op.guard = none) (ty : TypeId) (x : Operand) (ho : op.op = .load ty x)
 (p : Addr) (hx : a.eval x = .pointer (some p)) (cs : List Value) (d : TypeDesc) (hc : ∀ j v, cs[j]? = some v → w.cell? (p.add j) = some v)
 (hu : P.underlying ty = some d) (hd : d.isRow = true) (hi : (P.info? ty).map (·.size) = some cs.length)
 (h : wpList P ops Q rest (a.put op.dst (.agg cs.toArray)) w) : wpList P ops Q (op :: rest) a w := by
 have hrun : (loadVar ty p).run P w = .ok (.agg cs.toArray) w := by
  have hl : (loadCells p cs.length).run P w = .ok cs.toArray w := run_loadCells_list (P := P) w p cs hc
  cases hq : P.info? ty with
  | none => simp [hq] at hi
  | some i =>
   have hs : i.size = cs.length := by simpa [hq] using hi
   have hagg : (isAgg ty).run P w = .ok true w := by
    unfold isAgg
    rw [Sem.run_bind, run_underlying hu w]
    cases d <;> simp_all
   simp [loadVar, Sem.run_bind, hagg, sizeOf, typeInfo, hq, hs, hl]
 refine wpList_plain hgd fun _ hK => ?_
 unfold Oper.wp execOp
 simp only [ho, hx, Instr.loadAt, Instr.sureAddr, Sem.run_bind, Sem.run_pure, Result.andThen_ok, hrun]
 exact hK _ _ h
def szT (n : Nat) (left : Int) : Int := if (n : Int) ≤ left then left - n else -1
theorem szT_yes {n : Nat} {left : Int} (h : (n : Int) ≤ left) : szT n left = left - n := if_pos h
theorem szT_no {n : Nat} {left : Int} (h : ¬ (n : Int) ≤ left) : szT n left = -1 := if_neg h
def sumTo {α : Type} (f : α → Nat) (l : List α) (i : Nat) : Nat := ((l.take i).map f).sum
def rowsTot {α : Type} (f : α → Nat) (l : List α) : Nat := l.length + sumTo f l l.length
theorem sumTo_zero {α : Type} (f : α → Nat) (l : List α) : sumTo f l 0 = 0 := by simp [sumTo]
theorem sumTo_succ {α : Type} (f : α → Nat) (l : List α) (i : Nat) (h : i < l.length) : sumTo f l (i + 1) = sumTo f l i + f l[i] := by
 unfold sumTo
 rw [List.take_succ_eq_append_getElem h, List.map_append, List.sum_append]
 simp
theorem sumTo_le {α : Type} (f : α → Nat) (l : List α) (i : Nat) : sumTo f l i ≤ sumTo f l l.length := by
 unfold sumTo
 have h := congrArg (fun m => (m.map f).sum) (List.take_append_drop i l)
 simp only [List.map_append, List.sum_append] at h
 rw [List.take_length]
 omega

def totItem (x : S74) : Nat := x.f2.length
def totSession (x : S160) : Nat := x.f3.length
def totService (x : S78) : Nat := rowsTot totItem x.f1 + rowsTot totSession x.f2
def totEntry (x : S173) : Nat := x.f1.length
def totMessage (x : S136) : Nat := rowsTot totEntry x.f8 + x.f9.length
def totObs (x : S83) : Nat := totItem x.f2 + totService x.f3 + x.f4.length + rowsTot totMessage x.f5
set_option maxHeartbeats 8000000 in
set_option maxRecDepth 100000 in
theorem szByteS_calls (A0 : Option Addr) (c0 : Nat) (l0 : List Int) (left : Int) (w : World) (hr0 : Kd.C (Kd.int .u8) w A0 l0.length l0) (hc0 : l0.length ≤ c0) (h0 : 0 ≤ left) (h1 : left ≤ 1048576) (hl : l0.length ≤ 9223372036854775807) :
 Calls Tryz.prog 67 #[.slice A0 l0.length c0, .int .i64 left] w fun e w' => e = .returned (.int .i64 (szT (l0.length) left)) ∧ Below w.heap.size w w' := by
 have e : wrap64 (left - (l0.length : Int)) = left - (l0.length : Int) := w64 (by omega) (by omega)
 by_cases c : left - (l0.length : Int) < 0
 ·have t : decide (wrap64 (left - (l0.length : Int)) < 0) = true := by rw [e]; exact decide_eq_true c
  have HF := Aside0.mk (show szT l0.length left = -1 from szT_no (by omega))
  clear e c hr0 hc0 h0 h1 hl
  go_enter Tryz.func67, Tryz.ntmps67
  go_wp2
  go_ret
  exact ⟨by rw [HF.out]; rfl, Below.refl _ _⟩
 ·have t : decide (wrap64 (left - (l0.length : Int)) < 0) = false := by rw [e]; exact decide_eq_false c
  have HF := Aside0.mk (show szT l0.length left = wrap64 (left - (l0.length : Int)) by rw [e]; exact szT_yes (by omega))
  clear e c hr0 hc0 h0 h1 hl
  go_enter Tryz.func67, Tryz.ntmps67
  go_wp2
  go_ret
  exact ⟨by rw [HF.out]; rfl, Below.refl _ _⟩
set_option maxHeartbeats 8000000 in
set_option maxRecDepth 100000 in
theorem szAckS_calls (A0 : Option Addr) (c0 : Nat) (l0 : List S140) (left : Int) (w : World) (hr0 : Kd.C k140 w A0 l0.length l0) (hc0 : l0.length ≤ c0) (h0 : 0 ≤ left) (h1 : left ≤ 1048576) (hl : l0.length ≤ 9223372036854775807) :
 Calls Tryz.prog 44 #[.slice A0 l0.length c0, .int .i64 left] w fun e w' => e = .returned (.int .i64 (szT (l0.length) left)) ∧ Below w.heap.size w w' := by
 have e : wrap64 (left - (l0.length : Int)) = left - (l0.length : Int) := w64 (by omega) (by omega)
 by_cases c : left - (l0.length : Int) < 0
 ·have t : decide (wrap64 (left - (l0.length : Int)) < 0) = true := by rw [e]; exact decide_eq_true c
  have HF := Aside0.mk (show szT l0.length left = -1 from szT_no (by omega))
  clear e c hr0 hc0 h0 h1 hl
  go_enter Tryz.func44, Tryz.ntmps44
  go_wp2
  go_ret
  exact ⟨by rw [HF.out]; rfl, Below.refl _ _⟩
 ·have t : decide (wrap64 (left - (l0.length : Int)) < 0) = false := by rw [e]; exact decide_eq_false c
  have HF := Aside0.mk (show szT l0.length left = wrap64 (left - (l0.length : Int)) by rw [e]; exact szT_yes (by omega))
  clear e c hr0 hc0 h0 h1 hl
  go_enter Tryz.func44, Tryz.ntmps44
  go_wp2
  go_ret
  exact ⟨by rw [HF.out]; rfl, Below.refl _ _⟩
def ItemFit (x : S74) : Prop := x.f2.length ≤ 9223372036854775807
def SessionFit (x : S160) : Prop := x.f3.length ≤ 9223372036854775807
def EntryFit (x : S173) : Prop := x.f1.length ≤ 9223372036854775807
def MessageFit (x : S136) : Prop := (x.f8.length ≤ 9223372036854775807 ∧ ∀ y ∈ x.f8, EntryFit y) ∧ x.f9.length ≤ 9223372036854775807
def ServiceFit (x : S78) : Prop := (x.f1.length ≤ 9223372036854775807 ∧ ∀ y ∈ x.f1, ItemFit y) ∧ (x.f2.length ≤ 9223372036854775807 ∧ ∀ y ∈ x.f2, SessionFit y)
def ObsFit (x : S83) : Prop := ItemFit x.f2 ∧ ServiceFit x.f3 ∧ x.f4.length ≤ 9223372036854775807 ∧ (x.f5.length ≤ 9223372036854775807 ∧ ∀ y ∈ x.f5, MessageFit y)
set_option maxHeartbeats 8000000 in
set_option maxRecDepth 100000 in
theorem szItem_calls (x : S74) (A2 : Option Addr) (c2 : Nat) (left : Int) (w : World) (hr2 : Kd.C (Kd.int .u8) w A2 x.f2.length x.f2) (hc2 : x.f2.length ≤ c2) (h0 : 0 ≤ left) (h1 : left ≤ 1048576) (hf : ItemFit x) :
 Calls Tryz.prog 42 #[.agg #[.int .i64 x.f0, .int .i64 x.f1, .slice A2 x.f2.length c2], .int .i64 left] w fun e w' => e = .returned (.int .i64 (szT (totItem x) left)) ∧ Below w.heap.size w w' := by
 have hu := Tryz.underlying74
 have HR2 := Aside0.mk hr2
 have HC2 := Aside0.mk hc2
 have HFT := Aside0.mk hf
 clear hf hr2 hc2
 have HL0 := Aside0.mk h0
 have HM0 := Aside0.mk h1
 obtain ⟨r1, he1⟩ : ∃ r, r = szT (x.f2.length) left := ⟨_, rfl⟩
 have HE1 := Aside0.mk he1
 by_cases c1_ : ((x.f2.length : Nat) : Int) ≤ left
 ·have hs1 : r1 = left - ((x.f2.length : Nat) : Int) := by rw [he1, szT_yes c1_]
  have t1 : decide (r1 < 0) = false := decide_eq_false (by rw [he1, szT_yes c1_]; omega)
  have HL1 := Aside0.mk (show 0 ≤ r1 by rw [he1, szT_yes c1_]; omega)
  have HM1 := Aside0.mk (show r1 ≤ 1048576 by have := HM0.out; rw [he1, szT_yes c1_]; omega)
  have HF := Aside0.mk (show szT (totItem x) left = r1 by rw [hs1]; exact szT_yes (by unfold totItem; show ((x.f2.length : Nat) : Int) ≤ left; omega))
  clear c1_ he1 hs1
  go_enter Tryz.func42, Tryz.ntmps42
  go_wp2_with (first | ((with_reducible refine gate_dst (N := 2) rfl ?_); refine box_event ?hg (N := 2) ?hd (cs := #[.int .i64 x.f0, .int .i64 x.f1, .slice A2 x.f2.length c2]) (t := 74) ?hr ?_; (case hd => rfl); (case hg => rfl); (case hr => first | (go_simp; done) | (go_simp; rfl)); intro g1 hg wb hbox hb; have HB0 := Aside0.mk hb; have KB0 := Aside0.mk hbox; have kb0 := blk_cell hbox 0; have kb1 := blk_cell hbox 1; have kb2 := blk_cell hbox 2; clear hb hbox hg) | (go_at_call 67; refine (szByteS_calls A2 c2 x.f2 left _ (Kd.C_below HR2.out HB0.out) HC2.out HL0.out HM0.out HFT.out).mono ?_; rintro e wd ⟨he, hb⟩; rw [← HE1.out] at he; subst he; have HB1 := Aside0.mk (below_step HB0.out hb); have KB1 := Aside0.mk (blk_below KB0.out hb); replace kb0 := blk_cell KB1.out 0; replace kb1 := blk_cell KB1.out 1; replace kb2 := blk_cell KB1.out 2; clear hb))
  go_ret
  exact ⟨by rw [HF.out]; rfl, HB1.out⟩
 ·have t1 : decide (r1 < 0) = true := decide_eq_true (by rw [he1, szT_no c1_]; decide)
  have HF := Aside0.mk (show szT (totItem x) left = -1 from szT_no (by unfold totItem; show ¬ ((x.f2.length : Nat) : Int) ≤ left; omega))
  clear c1_ he1
  go_enter Tryz.func42, Tryz.ntmps42
  go_wp2_with (first | ((with_reducible refine gate_dst (N := 2) rfl ?_); refine box_event ?hg (N := 2) ?hd (cs := #[.int .i64 x.f0, .int .i64 x.f1, .slice A2 x.f2.length c2]) (t := 74) ?hr ?_; (case hd => rfl); (case hg => rfl); (case hr => first | (go_simp; done) | (go_simp; rfl)); intro g1 hg wb hbox hb; have HB0 := Aside0.mk hb; have KB0 := Aside0.mk hbox; have kb0 := blk_cell hbox 0; have kb1 := blk_cell hbox 1; have kb2 := blk_cell hbox 2; clear hb hbox hg) | (go_at_call 67; refine (szByteS_calls A2 c2 x.f2 left _ (Kd.C_below HR2.out HB0.out) HC2.out HL0.out HM0.out HFT.out).mono ?_; rintro e wd ⟨he, hb⟩; rw [← HE1.out] at he; subst he; have HB1 := Aside0.mk (below_step HB0.out hb); have KB1 := Aside0.mk (blk_below KB0.out hb); replace kb0 := blk_cell KB1.out 0; replace kb1 := blk_cell KB1.out 1; replace kb2 := blk_cell KB1.out 2; clear hb))
  go_ret
  exact ⟨by rw [HF.out]; rfl, HB1.out⟩
theorem size_74 : (Tryz.prog.info? 74).map (·.size) = some 3 := by kernel_rfl
set_option maxHeartbeats 8000000 in
set_option maxRecDepth 100000 in
theorem szItemS_calls (A0 : Option Addr) (c0 : Nat) (l0 : List S74) (left : Int) (w : World) (hr0 : Kd.C k74 w A0 l0.length l0) (hc0 : l0.length ≤ c0) (h0 : 0 ≤ left) (h1 : left ≤ 1048576) (hf : l0.length ≤ 9223372036854775807 ∧ ∀ y ∈ l0, ItemFit y) :
 Calls Tryz.prog 68 #[.slice A0 l0.length c0, .int .i64 left] w fun e w' => e = .returned (.int .i64 (szT (rowsTot totItem l0) left)) ∧ Below w.heap.size w w' := by
 have hu := Tryz.underlying74
 have HR := Aside0.mk hr0
 have HFA := Aside0.mk hf.2
 have e : wrap64 (left - (l0.length : Int)) = left - (l0.length : Int) := w64 (by have := hf.1; omega) (by omega)
 by_cases c : left - (l0.length : Int) < 0
 ·have t : decide (wrap64 (left - (l0.length : Int)) < 0) = true := by rw [e]; exact decide_eq_true c
  have HF := Aside0.mk (show szT (rowsTot totItem l0) left = -1 from szT_no (by unfold rowsTot; omega))
  clear e c hr0 hc0 h0 h1 hf
  go_enter Tryz.func68, Tryz.ntmps68
  go_wp2
  go_ret
  exact ⟨by rw [HF.out]; rfl, Below.refl _ _⟩
 ·have t : decide (wrap64 (left - (l0.length : Int)) < 0) = false := by rw [e]; exact decide_eq_false c
  have HE := Aside0.mk e
  have HL := Aside0.mk (show 0 ≤ left - (l0.length : Int) by omega)
  have HM := Aside0.mk h1
  clear e c hr0 hc0 h0 h1 hf
  go_enter Tryz.func68, Tryz.ntmps68
  go_wp2
  go_loopg [1, 5] l0.length (fun gk v1 v5 w' => ∃ (i : Nat) (b : Int), v1 = .int .i64 b ∧ v5 = .int .i64 (i : Nat) ∧ Aside0 (gk + i = l0.length) ∧ Aside0 (b = left - (l0.length : Int) - (sumTo totItem l0 i : Nat) ∧ 0 ≤ b) ∧ Aside0 (Below w.heap.size w w'))
  case atStart => exact ⟨0, _, rfl, rfl, ⟨by omega⟩, ⟨by rw [HE.out, sumTo_zero]; have := HL.out; omega⟩, ⟨Below.refl _ _⟩⟩
  case round =>
   clear t
   obtain ⟨i, b, rfl, rfl, HG, HI, HB⟩ := hrel
   by_cases hlt : i < l0.length
   ·obtain ⟨k1, hk1⟩ : ∃ m, gk = m + 1 := ⟨gk - 1, by have := HG.out; omega⟩
    subst hk1
    obtain ⟨ad, cs, ha, _, hK, hcl0⟩ := Kd.C_get HR.out z74 (i : Int) (by omega) (by omega)
    have hcl : ∀ j u, cs[j]? = some u → w.cell? (ad.add (i * 3 + j)) = some u := hcl0
    obtain ⟨A2, c2, hcs, hl2, hC2⟩ := k74_open hK
    cases ha
    obtain ⟨x, hx⟩ : ∃ x, x = rd_T74 l0 (i : Int) := ⟨_, rfl⟩
    have hx' : l0.getD (i : Int).toNat z74 = x := hx.symm
    rw [hx'] at hcs hl2 hC2
    have HCS := Aside0.mk hcs
    have HCL := Aside0.mk (show ∀ j u, cs[j]? = some u → wr.cell? ((ad.add (i * 3)).add j) = some u from fun j u h => by rw [add_add]; exact (HB.out.cell (World.block_lt_of_cell? w _ (hcl j u h))).trans (hcl j u h))
    have HSZ := Aside0.mk (show (Tryz.prog.info? 74).map (·.size) = some cs.length by rw [hcs]; exact size_74)
    clear hcl0 hcl hK hcs hx'
    have HX := Aside0.mk (show x = l0[i] by rw [hx]; simp [rd_T74, List.getD, hlt])
    have HFX := Aside0.mk (show ItemFit x from HFA.out x (by rw [HX.out]; exact List.getElem_mem hlt))
    have HSU := Aside0.mk (show sumTo totItem l0 (i + 1) = sumTo totItem l0 i + totItem x by rw [HX.out]; exact sumTo_succ _ l0 i hlt)
    have HSL := Aside0.mk (sumTo_le totItem l0 (i + 1))
    have HL2 := Aside0.mk hl2
    have HC2 := Aside0.mk (Kd.C_below hC2 HB.out)
    obtain ⟨r, he⟩ : ∃ r, r = szT (totItem x) b := ⟨_, rfl⟩
    have HE2 := Aside0.mk he
    have HBL := Aside0.mk (show b ≤ 1048576 by have := HI.out.1; have := HM.out; omega)
    clear hx hl2 hC2
    by_cases c : ((totItem x : Nat) : Int) ≤ b
    ·as_aux_lemma =>
     have hr : r = b - ((totItem x : Nat) : Int) := by rw [he, szT_yes c]
     have t : decide (r < 0) = false := decide_eq_false (by omega)
     have HR2 := Aside0.mk (And.intro hr (show 0 ≤ r by omega))
     clear c he hr
     go_wp2_with (first | ((with_reducible refine gate_dst (N := 21) rfl ?_); refine wpList_load_at rfl 74 (.tmp 20) rfl _ rfl cs _ HCL.out hu rfl HSZ.out ?_) | (go_at_call 42; refine (show Calls Tryz.prog 42 #[.agg cs.toArray, .int .i64 b] _ (fun e w' => e = .returned (.int .i64 (szT (totItem x) b)) ∧ Below _ _ w') from by rw [HCS.out]; exact szItem_calls x A2 c2 b _ HC2.out HL2.out HI.out.2 HBL.out HFX.out).mono ?_; rintro e wd ⟨he, hb⟩; rw [← HE2.out] at he; subst he; have HB2 := Aside0.mk (below_step HB.out hb); clear hb))
     go_roundg k1
     case measure => omega
     case rel => exact ⟨i + 1, r, rfl, by rw [w64n (by have := HL.out; have := HM.out; omega)], ⟨by have := HG.out; omega⟩, ⟨by have := HR2.out; have := HI.out.1; have := HSU.out; omega⟩, HB2⟩
    ·as_aux_lemma =>
     have t : decide (r < 0) = true := decide_eq_true (by rw [he, szT_no c]; decide)
     have HF := Aside0.mk (show szT (rowsTot totItem l0) left = -1 from szT_no (by unfold rowsTot; have := HI.out.1; have := HSU.out; have := HSL.out; omega))
     clear c he
     go_wp2_with (first | ((with_reducible refine gate_dst (N := 21) rfl ?_); refine wpList_load_at rfl 74 (.tmp 20) rfl _ rfl cs _ HCL.out hu rfl HSZ.out ?_) | (go_at_call 42; refine (show Calls Tryz.prog 42 #[.agg cs.toArray, .int .i64 b] _ (fun e w' => e = .returned (.int .i64 (szT (totItem x) b)) ∧ Below _ _ w') from by rw [HCS.out]; exact szItem_calls x A2 c2 b _ HC2.out HL2.out HI.out.2 HBL.out HFX.out).mono ?_; rintro e wd ⟨he, hb⟩; rw [← HE2.out] at he; subst he; have HB2 := Aside0.mk (below_step HB.out hb); clear hb))
     go_ret
     exact ⟨by rw [HF.out]; rfl, HB2.out⟩
   ·as_aux_lemma =>
    have hi : i = l0.length := by have := HG.out; omega
    have HF := Aside0.mk (show szT (rowsTot totItem l0) left = b by have := HI.out; rw [hi] at this; rw [this.1]; rw [szT_yes (by unfold rowsTot; omega)]; unfold rowsTot; omega)
    have tlt : decide (i < l0.length) = false := decide_eq_false hlt
    clear hlt hi
    go_wp2
    go_ret
    exact ⟨by rw [HF.out]; rfl, HB.out⟩
set_option maxHeartbeats 8000000 in
set_option maxRecDepth 100000 in
theorem szSession_calls (x : S160) (A3 : Option Addr) (c3 : Nat) (left : Int) (w : World) (hr3 : Kd.C (Kd.int .u8) w A3 x.f3.length x.f3) (hc3 : x.f3.length ≤ c3) (h0 : 0 ≤ left) (h1 : left ≤ 1048576) (hf : SessionFit x) :
 Calls Tryz.prog 91 #[.agg #[.int .i64 x.f0, .int .i64 x.f1, .int .i64 x.f2, .slice A3 x.f3.length c3], .int .i64 left] w fun e w' => e = .returned (.int .i64 (szT (totSession x) left)) ∧ Below w.heap.size w w' := by
 have hu := Tryz.underlying160
 have HR3 := Aside0.mk hr3
 have HC3 := Aside0.mk hc3
 have HFT := Aside0.mk hf
 clear hf hr3 hc3
 have HL0 := Aside0.mk h0
 have HM0 := Aside0.mk h1
 obtain ⟨r1, he1⟩ : ∃ r, r = szT (x.f3.length) left := ⟨_, rfl⟩
 have HE1 := Aside0.mk he1
 by_cases c1_ : ((x.f3.length : Nat) : Int) ≤ left
 ·have hs1 : r1 = left - ((x.f3.length : Nat) : Int) := by rw [he1, szT_yes c1_]
  have t1 : decide (r1 < 0) = false := decide_eq_false (by rw [he1, szT_yes c1_]; omega)
  have HL1 := Aside0.mk (show 0 ≤ r1 by rw [he1, szT_yes c1_]; omega)
  have HM1 := Aside0.mk (show r1 ≤ 1048576 by have := HM0.out; rw [he1, szT_yes c1_]; omega)
  have HF := Aside0.mk (show szT (totSession x) left = r1 by rw [hs1]; exact szT_yes (by unfold totSession; show ((x.f3.length : Nat) : Int) ≤ left; omega))
  clear c1_ he1 hs1
  go_enter Tryz.func91, Tryz.ntmps91
  go_wp2_with (first | ((with_reducible refine gate_dst (N := 2) rfl ?_); refine box_event ?hg (N := 2) ?hd (cs := #[.int .i64 x.f0, .int .i64 x.f1, .int .i64 x.f2, .slice A3 x.f3.length c3]) (t := 160) ?hr ?_; (case hd => rfl); (case hg => rfl); (case hr => first | (go_simp; done) | (go_simp; rfl)); intro g1 hg wb hbox hb; have HB0 := Aside0.mk hb; have KB0 := Aside0.mk hbox; have kb0 := blk_cell hbox 0; have kb1 := blk_cell hbox 1; have kb2 := blk_cell hbox 2; have kb3 := blk_cell hbox 3; clear hb hbox hg) | (go_at_call 67; refine (szByteS_calls A3 c3 x.f3 left _ (Kd.C_below HR3.out HB0.out) HC3.out HL0.out HM0.out HFT.out).mono ?_; rintro e wd ⟨he, hb⟩; rw [← HE1.out] at he; subst he; have HB1 := Aside0.mk (below_step HB0.out hb); have KB1 := Aside0.mk (blk_below KB0.out hb); replace kb0 := blk_cell KB1.out 0; replace kb1 := blk_cell KB1.out 1; replace kb2 := blk_cell KB1.out 2; replace kb3 := blk_cell KB1.out 3; clear hb))
  go_ret
  exact ⟨by rw [HF.out]; rfl, HB1.out⟩
 ·have t1 : decide (r1 < 0) = true := decide_eq_true (by rw [he1, szT_no c1_]; decide)
  have HF := Aside0.mk (show szT (totSession x) left = -1 from szT_no (by unfold totSession; show ¬ ((x.f3.length : Nat) : Int) ≤ left; omega))
  clear c1_ he1
  go_enter Tryz.func91, Tryz.ntmps91
  go_wp2_with (first | ((with_reducible refine gate_dst (N := 2) rfl ?_); refine box_event ?hg (N := 2) ?hd (cs := #[.int .i64 x.f0, .int .i64 x.f1, .int .i64 x.f2, .slice A3 x.f3.length c3]) (t := 160) ?hr ?_; (case hd => rfl); (case hg => rfl); (case hr => first | (go_simp; done) | (go_simp; rfl)); intro g1 hg wb hbox hb; have HB0 := Aside0.mk hb; have KB0 := Aside0.mk hbox; have kb0 := blk_cell hbox 0; have kb1 := blk_cell hbox 1; have kb2 := blk_cell hbox 2; have kb3 := blk_cell hbox 3; clear hb hbox hg) | (go_at_call 67; refine (szByteS_calls A3 c3 x.f3 left _ (Kd.C_below HR3.out HB0.out) HC3.out HL0.out HM0.out HFT.out).mono ?_; rintro e wd ⟨he, hb⟩; rw [← HE1.out] at he; subst he; have HB1 := Aside0.mk (below_step HB0.out hb); have KB1 := Aside0.mk (blk_below KB0.out hb); replace kb0 := blk_cell KB1.out 0; replace kb1 := blk_cell KB1.out 1; replace kb2 := blk_cell KB1.out 2; replace kb3 := blk_cell KB1.out 3; clear hb))
  go_ret
  exact ⟨by rw [HF.out]; rfl, HB1.out⟩
theorem size_160 : (Tryz.prog.info? 160).map (·.size) = some 4 := by kernel_rfl
set_option maxHeartbeats 8000000 in
set_option maxRecDepth 100000 in
theorem szSessionS_calls (A0 : Option Addr) (c0 : Nat) (l0 : List S160) (left : Int) (w : World) (hr0 : Kd.C k160 w A0 l0.length l0) (hc0 : l0.length ≤ c0) (h0 : 0 ≤ left) (h1 : left ≤ 1048576) (hf : l0.length ≤ 9223372036854775807 ∧ ∀ y ∈ l0, SessionFit y) :
 Calls Tryz.prog 69 #[.slice A0 l0.length c0, .int .i64 left] w fun e w' => e = .returned (.int .i64 (szT (rowsTot totSession l0) left)) ∧ Below w.heap.size w w' := by
 have hu := Tryz.underlying160
 have HR := Aside0.mk hr0
 have HFA := Aside0.mk hf.2
 have e : wrap64 (left - (l0.length : Int)) = left - (l0.length : Int) := w64 (by have := hf.1; omega) (by omega)
 by_cases c : left - (l0.length : Int) < 0
 ·have t : decide (wrap64 (left - (l0.length : Int)) < 0) = true := by rw [e]; exact decide_eq_true c
  have HF := Aside0.mk (show szT (rowsTot totSession l0) left = -1 from szT_no (by unfold rowsTot; omega))
  clear e c hr0 hc0 h0 h1 hf
  go_enter Tryz.func69, Tryz.ntmps69
  go_wp2
  go_ret
  exact ⟨by rw [HF.out]; rfl, Below.refl _ _⟩
 ·have t : decide (wrap64 (left - (l0.length : Int)) < 0) = false := by rw [e]; exact decide_eq_false c
  have HE := Aside0.mk e
  have HL := Aside0.mk (show 0 ≤ left - (l0.length : Int) by omega)
  have HM := Aside0.mk h1
  clear e c hr0 hc0 h0 h1 hf
  go_enter Tryz.func69, Tryz.ntmps69
  go_wp2
  go_loopg [1, 5] l0.length (fun gk v1 v5 w' => ∃ (i : Nat) (b : Int), v1 = .int .i64 b ∧ v5 = .int .i64 (i : Nat) ∧ Aside0 (gk + i = l0.length) ∧ Aside0 (b = left - (l0.length : Int) - (sumTo totSession l0 i : Nat) ∧ 0 ≤ b) ∧ Aside0 (Below w.heap.size w w'))
  case atStart => exact ⟨0, _, rfl, rfl, ⟨by omega⟩, ⟨by rw [HE.out, sumTo_zero]; have := HL.out; omega⟩, ⟨Below.refl _ _⟩⟩
  case round =>
   clear t
   obtain ⟨i, b, rfl, rfl, HG, HI, HB⟩ := hrel
   by_cases hlt : i < l0.length
   ·obtain ⟨k1, hk1⟩ : ∃ m, gk = m + 1 := ⟨gk - 1, by have := HG.out; omega⟩
    subst hk1
    obtain ⟨ad, cs, ha, _, hK, hcl0⟩ := Kd.C_get HR.out z160 (i : Int) (by omega) (by omega)
    have hcl : ∀ j u, cs[j]? = some u → w.cell? (ad.add (i * 4 + j)) = some u := hcl0
    obtain ⟨A3, c3, hcs, hl3, hC3⟩ := k160_open hK
    cases ha
    obtain ⟨x, hx⟩ : ∃ x, x = rd_T160 l0 (i : Int) := ⟨_, rfl⟩
    have hx' : l0.getD (i : Int).toNat z160 = x := hx.symm
    rw [hx'] at hcs hl3 hC3
    have HCS := Aside0.mk hcs
    have HCL := Aside0.mk (show ∀ j u, cs[j]? = some u → wr.cell? ((ad.add (i * 4)).add j) = some u from fun j u h => by rw [add_add]; exact (HB.out.cell (World.block_lt_of_cell? w _ (hcl j u h))).trans (hcl j u h))
    have HSZ := Aside0.mk (show (Tryz.prog.info? 160).map (·.size) = some cs.length by rw [hcs]; exact size_160)
    clear hcl0 hcl hK hcs hx'
    have HX := Aside0.mk (show x = l0[i] by rw [hx]; simp [rd_T160, List.getD, hlt])
    have HFX := Aside0.mk (show SessionFit x from HFA.out x (by rw [HX.out]; exact List.getElem_mem hlt))
    have HSU := Aside0.mk (show sumTo totSession l0 (i + 1) = sumTo totSession l0 i + totSession x by rw [HX.out]; exact sumTo_succ _ l0 i hlt)
    have HSL := Aside0.mk (sumTo_le totSession l0 (i + 1))
    have HL3 := Aside0.mk hl3
    have HC3 := Aside0.mk (Kd.C_below hC3 HB.out)
    obtain ⟨r, he⟩ : ∃ r, r = szT (totSession x) b := ⟨_, rfl⟩
    have HE2 := Aside0.mk he
    have HBL := Aside0.mk (show b ≤ 1048576 by have := HI.out.1; have := HM.out; omega)
    clear hx hl3 hC3
    by_cases c : ((totSession x : Nat) : Int) ≤ b
    ·as_aux_lemma =>
     have hr : r = b - ((totSession x : Nat) : Int) := by rw [he, szT_yes c]
     have t : decide (r < 0) = false := decide_eq_false (by omega)
     have HR2 := Aside0.mk (And.intro hr (show 0 ≤ r by omega))
     clear c he hr
     go_wp2_with (first | ((with_reducible refine gate_dst (N := 21) rfl ?_); refine wpList_load_at rfl 160 (.tmp 20) rfl _ rfl cs _ HCL.out hu rfl HSZ.out ?_) | (go_at_call 91; refine (show Calls Tryz.prog 91 #[.agg cs.toArray, .int .i64 b] _ (fun e w' => e = .returned (.int .i64 (szT (totSession x) b)) ∧ Below _ _ w') from by rw [HCS.out]; exact szSession_calls x A3 c3 b _ HC3.out HL3.out HI.out.2 HBL.out HFX.out).mono ?_; rintro e wd ⟨he, hb⟩; rw [← HE2.out] at he; subst he; have HB2 := Aside0.mk (below_step HB.out hb); clear hb))
     go_roundg k1
     case measure => omega
     case rel => exact ⟨i + 1, r, rfl, by rw [w64n (by have := HL.out; have := HM.out; omega)], ⟨by have := HG.out; omega⟩, ⟨by have := HR2.out; have := HI.out.1; have := HSU.out; omega⟩, HB2⟩
    ·as_aux_lemma =>
     have t : decide (r < 0) = true := decide_eq_true (by rw [he, szT_no c]; decide)
     have HF := Aside0.mk (show szT (rowsTot totSession l0) left = -1 from szT_no (by unfold rowsTot; have := HI.out.1; have := HSU.out; have := HSL.out; omega))
     clear c he
     go_wp2_with (first | ((with_reducible refine gate_dst (N := 21) rfl ?_); refine wpList_load_at rfl 160 (.tmp 20) rfl _ rfl cs _ HCL.out hu rfl HSZ.out ?_) | (go_at_call 91; refine (show Calls Tryz.prog 91 #[.agg cs.toArray, .int .i64 b] _ (fun e w' => e = .returned (.int .i64 (szT (totSession x) b)) ∧ Below _ _ w') from by rw [HCS.out]; exact szSession_calls x A3 c3 b _ HC3.out HL3.out HI.out.2 HBL.out HFX.out).mono ?_; rintro e wd ⟨he, hb⟩; rw [← HE2.out] at he; subst he; have HB2 := Aside0.mk (below_step HB.out hb); clear hb))
     go_ret
     exact ⟨by rw [HF.out]; rfl, HB2.out⟩
   ·as_aux_lemma =>
    have hi : i = l0.length := by have := HG.out; omega
    have HF := Aside0.mk (show szT (rowsTot totSession l0) left = b by have := HI.out; rw [hi] at this; rw [this.1]; rw [szT_yes (by unfold rowsTot; omega)]; unfold rowsTot; omega)
    have tlt : decide (i < l0.length) = false := decide_eq_false hlt
    clear hlt hi
    go_wp2
    go_ret
    exact ⟨by rw [HF.out]; rfl, HB.out⟩
set_option maxHeartbeats 8000000 in
set_option maxRecDepth 100000 in
theorem szEntry_calls (x : S173) (A1 : Option Addr) (c1 : Nat) (left : Int) (w : World) (hr1 : Kd.C (Kd.int .u8) w A1 x.f1.length x.f1) (hc1 : x.f1.length ≤ c1) (h0 : 0 ≤ left) (h1 : left ≤ 1048576) (hf : EntryFit x) :
 Calls Tryz.prog 107 #[.agg #[.int .i64 x.f0, .slice A1 x.f1.length c1], .int .i64 left] w fun e w' => e = .returned (.int .i64 (szT (totEntry x) left)) ∧ Below w.heap.size w w' := by
 have hu := Tryz.underlying173
 have HR1 := Aside0.mk hr1
 have HC1 := Aside0.mk hc1
 have HFT := Aside0.mk hf
 clear hf hr1 hc1
 have HL0 := Aside0.mk h0
 have HM0 := Aside0.mk h1
 obtain ⟨r1, he1⟩ : ∃ r, r = szT (x.f1.length) left := ⟨_, rfl⟩
 have HE1 := Aside0.mk he1
 by_cases c1_ : ((x.f1.length : Nat) : Int) ≤ left
 ·have hs1 : r1 = left - ((x.f1.length : Nat) : Int) := by rw [he1, szT_yes c1_]
  have t1 : decide (r1 < 0) = false := decide_eq_false (by rw [he1, szT_yes c1_]; omega)
  have HL1 := Aside0.mk (show 0 ≤ r1 by rw [he1, szT_yes c1_]; omega)
  have HM1 := Aside0.mk (show r1 ≤ 1048576 by have := HM0.out; rw [he1, szT_yes c1_]; omega)
  have HF := Aside0.mk (show szT (totEntry x) left = r1 by rw [hs1]; exact szT_yes (by unfold totEntry; show ((x.f1.length : Nat) : Int) ≤ left; omega))
  clear c1_ he1 hs1
  go_enter Tryz.func107, Tryz.ntmps107
  go_wp2_with (first | ((with_reducible refine gate_dst (N := 2) rfl ?_); refine box_event ?hg (N := 2) ?hd (cs := #[.int .i64 x.f0, .slice A1 x.f1.length c1]) (t := 173) ?hr ?_; (case hd => rfl); (case hg => rfl); (case hr => first | (go_simp; done) | (go_simp; rfl)); intro g1 hg wb hbox hb; have HB0 := Aside0.mk hb; have KB0 := Aside0.mk hbox; have kb0 := blk_cell hbox 0; have kb1 := blk_cell hbox 1; clear hb hbox hg) | (go_at_call 67; refine (szByteS_calls A1 c1 x.f1 left _ (Kd.C_below HR1.out HB0.out) HC1.out HL0.out HM0.out HFT.out).mono ?_; rintro e wd ⟨he, hb⟩; rw [← HE1.out] at he; subst he; have HB1 := Aside0.mk (below_step HB0.out hb); have KB1 := Aside0.mk (blk_below KB0.out hb); replace kb0 := blk_cell KB1.out 0; replace kb1 := blk_cell KB1.out 1; clear hb))
  go_ret
  exact ⟨by rw [HF.out]; rfl, HB1.out⟩
 ·have t1 : decide (r1 < 0) = true := decide_eq_true (by rw [he1, szT_no c1_]; decide)
  have HF := Aside0.mk (show szT (totEntry x) left = -1 from szT_no (by unfold totEntry; show ¬ ((x.f1.length : Nat) : Int) ≤ left; omega))
  clear c1_ he1
  go_enter Tryz.func107, Tryz.ntmps107
  go_wp2_with (first | ((with_reducible refine gate_dst (N := 2) rfl ?_); refine box_event ?hg (N := 2) ?hd (cs := #[.int .i64 x.f0, .slice A1 x.f1.length c1]) (t := 173) ?hr ?_; (case hd => rfl); (case hg => rfl); (case hr => first | (go_simp; done) | (go_simp; rfl)); intro g1 hg wb hbox hb; have HB0 := Aside0.mk hb; have KB0 := Aside0.mk hbox; have kb0 := blk_cell hbox 0; have kb1 := blk_cell hbox 1; clear hb hbox hg) | (go_at_call 67; refine (szByteS_calls A1 c1 x.f1 left _ (Kd.C_below HR1.out HB0.out) HC1.out HL0.out HM0.out HFT.out).mono ?_; rintro e wd ⟨he, hb⟩; rw [← HE1.out] at he; subst he; have HB1 := Aside0.mk (below_step HB0.out hb); have KB1 := Aside0.mk (blk_below KB0.out hb); replace kb0 := blk_cell KB1.out 0; replace kb1 := blk_cell KB1.out 1; clear hb))
  go_ret
  exact ⟨by rw [HF.out]; rfl, HB1.out⟩
theorem size_173 : (Tryz.prog.info? 173).map (·.size) = some 2 := by kernel_rfl
set_option maxHeartbeats 8000000 in
set_option maxRecDepth 100000 in
theorem szEntryS_calls (A0 : Option Addr) (c0 : Nat) (l0 : List S173) (left : Int) (w : World) (hr0 : Kd.C k173 w A0 l0.length l0) (hc0 : l0.length ≤ c0) (h0 : 0 ≤ left) (h1 : left ≤ 1048576) (hf : l0.length ≤ 9223372036854775807 ∧ ∀ y ∈ l0, EntryFit y) :
 Calls Tryz.prog 92 #[.slice A0 l0.length c0, .int .i64 left] w fun e w' => e = .returned (.int .i64 (szT (rowsTot totEntry l0) left)) ∧ Below w.heap.size w w' := by
 have hu := Tryz.underlying173
 have HR := Aside0.mk hr0
 have HFA := Aside0.mk hf.2
 have e : wrap64 (left - (l0.length : Int)) = left - (l0.length : Int) := w64 (by have := hf.1; omega) (by omega)
 by_cases c : left - (l0.length : Int) < 0
 ·have t : decide (wrap64 (left - (l0.length : Int)) < 0) = true := by rw [e]; exact decide_eq_true c
  have HF := Aside0.mk (show szT (rowsTot totEntry l0) left = -1 from szT_no (by unfold rowsTot; omega))
  clear e c hr0 hc0 h0 h1 hf
  go_enter Tryz.func92, Tryz.ntmps92
  go_wp2
  go_ret
  exact ⟨by rw [HF.out]; rfl, Below.refl _ _⟩
 ·have t : decide (wrap64 (left - (l0.length : Int)) < 0) = false := by rw [e]; exact decide_eq_false c
  have HE := Aside0.mk e
  have HL := Aside0.mk (show 0 ≤ left - (l0.length : Int) by omega)
  have HM := Aside0.mk h1
  clear e c hr0 hc0 h0 h1 hf
  go_enter Tryz.func92, Tryz.ntmps92
  go_wp2
  go_loopg [1, 5] l0.length (fun gk v1 v5 w' => ∃ (i : Nat) (b : Int), v1 = .int .i64 b ∧ v5 = .int .i64 (i : Nat) ∧ Aside0 (gk + i = l0.length) ∧ Aside0 (b = left - (l0.length : Int) - (sumTo totEntry l0 i : Nat) ∧ 0 ≤ b) ∧ Aside0 (Below w.heap.size w w'))
  case atStart => exact ⟨0, _, rfl, rfl, ⟨by omega⟩, ⟨by rw [HE.out, sumTo_zero]; have := HL.out; omega⟩, ⟨Below.refl _ _⟩⟩
  case round =>
   clear t
   obtain ⟨i, b, rfl, rfl, HG, HI, HB⟩ := hrel
   by_cases hlt : i < l0.length
   ·obtain ⟨k1, hk1⟩ : ∃ m, gk = m + 1 := ⟨gk - 1, by have := HG.out; omega⟩
    subst hk1
    obtain ⟨ad, cs, ha, _, hK, hcl0⟩ := Kd.C_get HR.out z173 (i : Int) (by omega) (by omega)
    have hcl : ∀ j u, cs[j]? = some u → w.cell? (ad.add (i * 2 + j)) = some u := hcl0
    obtain ⟨A1, c1, hcs, hl1, hC1⟩ := k173_open hK
    cases ha
    obtain ⟨x, hx⟩ : ∃ x, x = rd_T173 l0 (i : Int) := ⟨_, rfl⟩
    have hx' : l0.getD (i : Int).toNat z173 = x := hx.symm
    rw [hx'] at hcs hl1 hC1
    have HCS := Aside0.mk hcs
    have HCL := Aside0.mk (show ∀ j u, cs[j]? = some u → wr.cell? ((ad.add (i * 2)).add j) = some u from fun j u h => by rw [add_add]; exact (HB.out.cell (World.block_lt_of_cell? w _ (hcl j u h))).trans (hcl j u h))
    have HSZ := Aside0.mk (show (Tryz.prog.info? 173).map (·.size) = some cs.length by rw [hcs]; exact size_173)
    clear hcl0 hcl hK hcs hx'
    have HX := Aside0.mk (show x = l0[i] by rw [hx]; simp [rd_T173, List.getD, hlt])
    have HFX := Aside0.mk (show EntryFit x from HFA.out x (by rw [HX.out]; exact List.getElem_mem hlt))
    have HSU := Aside0.mk (show sumTo totEntry l0 (i + 1) = sumTo totEntry l0 i + totEntry x by rw [HX.out]; exact sumTo_succ _ l0 i hlt)
    have HSL := Aside0.mk (sumTo_le totEntry l0 (i + 1))
    have HL1 := Aside0.mk hl1
    have HC1 := Aside0.mk (Kd.C_below hC1 HB.out)
    obtain ⟨r, he⟩ : ∃ r, r = szT (totEntry x) b := ⟨_, rfl⟩
    have HE2 := Aside0.mk he
    have HBL := Aside0.mk (show b ≤ 1048576 by have := HI.out.1; have := HM.out; omega)
    clear hx hl1 hC1
    by_cases c : ((totEntry x : Nat) : Int) ≤ b
    ·as_aux_lemma =>
     have hr : r = b - ((totEntry x : Nat) : Int) := by rw [he, szT_yes c]
     have t : decide (r < 0) = false := decide_eq_false (by omega)
     have HR2 := Aside0.mk (And.intro hr (show 0 ≤ r by omega))
     clear c he hr
     go_wp2_with (first | ((with_reducible refine gate_dst (N := 21) rfl ?_); refine wpList_load_at rfl 173 (.tmp 20) rfl _ rfl cs _ HCL.out hu rfl HSZ.out ?_) | (go_at_call 107; refine (show Calls Tryz.prog 107 #[.agg cs.toArray, .int .i64 b] _ (fun e w' => e = .returned (.int .i64 (szT (totEntry x) b)) ∧ Below _ _ w') from by rw [HCS.out]; exact szEntry_calls x A1 c1 b _ HC1.out HL1.out HI.out.2 HBL.out HFX.out).mono ?_; rintro e wd ⟨he, hb⟩; rw [← HE2.out] at he; subst he; have HB2 := Aside0.mk (below_step HB.out hb); clear hb))
     go_roundg k1
     case measure => omega
     case rel => exact ⟨i + 1, r, rfl, by rw [w64n (by have := HL.out; have := HM.out; omega)], ⟨by have := HG.out; omega⟩, ⟨by have := HR2.out; have := HI.out.1; have := HSU.out; omega⟩, HB2⟩
    ·as_aux_lemma =>
     have t : decide (r < 0) = true := decide_eq_true (by rw [he, szT_no c]; decide)
     have HF := Aside0.mk (show szT (rowsTot totEntry l0) left = -1 from szT_no (by unfold rowsTot; have := HI.out.1; have := HSU.out; have := HSL.out; omega))
     clear c he
     go_wp2_with (first | ((with_reducible refine gate_dst (N := 21) rfl ?_); refine wpList_load_at rfl 173 (.tmp 20) rfl _ rfl cs _ HCL.out hu rfl HSZ.out ?_) | (go_at_call 107; refine (show Calls Tryz.prog 107 #[.agg cs.toArray, .int .i64 b] _ (fun e w' => e = .returned (.int .i64 (szT (totEntry x) b)) ∧ Below _ _ w') from by rw [HCS.out]; exact szEntry_calls x A1 c1 b _ HC1.out HL1.out HI.out.2 HBL.out HFX.out).mono ?_; rintro e wd ⟨he, hb⟩; rw [← HE2.out] at he; subst he; have HB2 := Aside0.mk (below_step HB.out hb); clear hb))
     go_ret
     exact ⟨by rw [HF.out]; rfl, HB2.out⟩
   ·as_aux_lemma =>
    have hi : i = l0.length := by have := HG.out; omega
    have HF := Aside0.mk (show szT (rowsTot totEntry l0) left = b by have := HI.out; rw [hi] at this; rw [this.1]; rw [szT_yes (by unfold rowsTot; omega)]; unfold rowsTot; omega)
    have tlt : decide (i < l0.length) = false := decide_eq_false hlt
    clear hlt hi
    go_wp2
    go_ret
    exact ⟨by rw [HF.out]; rfl, HB.out⟩
set_option maxHeartbeats 8000000 in
set_option maxRecDepth 100000 in
theorem szMessage_calls (x : S136) (A8 : Option Addr) (c8 : Nat) (A9 : Option Addr) (c9 : Nat) (left : Int) (w : World) (hr8 : Kd.C k173 w A8 x.f8.length x.f8) (hc8 : x.f8.length ≤ c8) (hr9 : Kd.C (Kd.int .u8) w A9 x.f9.length x.f9) (hc9 : x.f9.length ≤ c9) (h0 : 0 ≤ left) (h1 : left ≤ 1048576) (hf : MessageFit x) :
 Calls Tryz.prog 70 #[.agg #[.int .i64 x.f0, .int .i64 x.f1, .int .i64 x.f2, .int .i64 x.f3, .int .i64 x.f4, .int .i64 x.f5, .int .i64 x.f6, .bool x.f7, .slice A8 x.f8.length c8, .slice A9 x.f9.length c9], .int .i64 left] w fun e w' => e = .returned (.int .i64 (szT (totMessage x) left)) ∧ Below w.heap.size w w' := by
 have hu := Tryz.underlying136
 have HR8 := Aside0.mk hr8
 have HC8 := Aside0.mk hc8
 have HR9 := Aside0.mk hr9
 have HC9 := Aside0.mk hc9
 have HFT := Aside0.mk hf
 clear hf hr8 hc8 hr9 hc9
 have HL0 := Aside0.mk h0
 have HM0 := Aside0.mk h1
 obtain ⟨r1, he1⟩ : ∃ r, r = szT (rowsTot totEntry x.f8) left := ⟨_, rfl⟩
 have HE1 := Aside0.mk he1
 by_cases c1_ : ((rowsTot totEntry x.f8 : Nat) : Int) ≤ left
 ·have hs1 : r1 = left - ((rowsTot totEntry x.f8 : Nat) : Int) := by rw [he1, szT_yes c1_]
  have t1 : decide (r1 < 0) = false := decide_eq_false (by rw [he1, szT_yes c1_]; omega)
  have HL1 := Aside0.mk (show 0 ≤ r1 by rw [he1, szT_yes c1_]; omega)
  have HM1 := Aside0.mk (show r1 ≤ 1048576 by have := HM0.out; rw [he1, szT_yes c1_]; omega)
  obtain ⟨r2, he2⟩ : ∃ r, r = szT (x.f9.length) r1 := ⟨_, rfl⟩
  have HE2 := Aside0.mk he2
  by_cases c2_ : ((x.f9.length : Nat) : Int) ≤ r1
  ·have hs2 : r2 = left - ((rowsTot totEntry x.f8 + x.f9.length : Nat) : Int) := by rw [he2, szT_yes c2_]; omega
   have t2 : decide (r2 < 0) = false := decide_eq_false (by rw [he2, szT_yes c2_]; omega)
   have HL2 := Aside0.mk (show 0 ≤ r2 by rw [he2, szT_yes c2_]; omega)
   have HM2 := Aside0.mk (show r2 ≤ 1048576 by have := HM1.out; rw [he2, szT_yes c2_]; omega)
   have HF := Aside0.mk (show szT (totMessage x) left = r2 by rw [hs2]; exact szT_yes (by unfold totMessage; show ((rowsTot totEntry x.f8 + x.f9.length : Nat) : Int) ≤ left; omega))
   clear c1_ he1 hs1 c2_ he2 hs2
   go_enter Tryz.func70, Tryz.ntmps70
   go_wp2_with (first | ((with_reducible refine gate_dst (N := 2) rfl ?_); refine box_event ?hg (N := 2) ?hd (cs := #[.int .i64 x.f0, .int .i64 x.f1, .int .i64 x.f2, .int .i64 x.f3, .int .i64 x.f4, .int .i64 x.f5, .int .i64 x.f6, .bool x.f7, .slice A8 x.f8.length c8, .slice A9 x.f9.length c9]) (t := 136) ?hr ?_; (case hd => rfl); (case hg => rfl); (case hr => first | (go_simp; done) | (go_simp; rfl)); intro g1 hg wb hbox hb; have HB0 := Aside0.mk hb; have KB0 := Aside0.mk hbox; have kb0 := blk_cell hbox 0; have kb1 := blk_cell hbox 1; have kb2 := blk_cell hbox 2; have kb3 := blk_cell hbox 3; have kb4 := blk_cell hbox 4; have kb5 := blk_cell hbox 5; have kb6 := blk_cell hbox 6; have kb7 := blk_cell hbox 7; have kb8 := blk_cell hbox 8; have kb9 := blk_cell hbox 9; clear hb hbox hg) | (go_at_call 92; refine (szEntryS_calls A8 c8 x.f8 left _ (Kd.C_below HR8.out HB0.out) HC8.out HL0.out HM0.out (HFT.out.1)).mono ?_; rintro e wd ⟨he, hb⟩; rw [← HE1.out] at he; subst he; have HB1 := Aside0.mk (below_step HB0.out hb); have KB1 := Aside0.mk (blk_below KB0.out hb); replace kb0 := blk_cell KB1.out 0; replace kb1 := blk_cell KB1.out 1; replace kb2 := blk_cell KB1.out 2; replace kb3 := blk_cell KB1.out 3; replace kb4 := blk_cell KB1.out 4; replace kb5 := blk_cell KB1.out 5; replace kb6 := blk_cell KB1.out 6; replace kb7 := blk_cell KB1.out 7; replace kb8 := blk_cell KB1.out 8; replace kb9 := blk_cell KB1.out 9; clear hb) | (go_at_call 67; refine (szByteS_calls A9 c9 x.f9 r1 _ (Kd.C_below HR9.out HB1.out) HC9.out HL1.out HM1.out (HFT.out.2)).mono ?_; rintro e wd ⟨he, hb⟩; rw [← HE2.out] at he; subst he; have HB2 := Aside0.mk (below_step HB1.out hb); have KB2 := Aside0.mk (blk_below KB1.out hb); replace kb0 := blk_cell KB2.out 0; replace kb1 := blk_cell KB2.out 1; replace kb2 := blk_cell KB2.out 2; replace kb3 := blk_cell KB2.out 3; replace kb4 := blk_cell KB2.out 4; replace kb5 := blk_cell KB2.out 5; replace kb6 := blk_cell KB2.out 6; replace kb7 := blk_cell KB2.out 7; replace kb8 := blk_cell KB2.out 8; replace kb9 := blk_cell KB2.out 9; clear hb))
   go_ret
   exact ⟨by rw [HF.out]; rfl, HB2.out⟩
  ·have t2 : decide (r2 < 0) = true := decide_eq_true (by rw [he2, szT_no c2_]; decide)
   have HF := Aside0.mk (show szT (totMessage x) left = -1 from szT_no (by unfold totMessage; show ¬ ((rowsTot totEntry x.f8 + x.f9.length : Nat) : Int) ≤ left; omega))
   clear c2_ he2 c1_ he1 hs1
   go_enter Tryz.func70, Tryz.ntmps70
   go_wp2_with (first | ((with_reducible refine gate_dst (N := 2) rfl ?_); refine box_event ?hg (N := 2) ?hd (cs := #[.int .i64 x.f0, .int .i64 x.f1, .int .i64 x.f2, .int .i64 x.f3, .int .i64 x.f4, .int .i64 x.f5, .int .i64 x.f6, .bool x.f7, .slice A8 x.f8.length c8, .slice A9 x.f9.length c9]) (t := 136) ?hr ?_; (case hd => rfl); (case hg => rfl); (case hr => first | (go_simp; done) | (go_simp; rfl)); intro g1 hg wb hbox hb; have HB0 := Aside0.mk hb; have KB0 := Aside0.mk hbox; have kb0 := blk_cell hbox 0; have kb1 := blk_cell hbox 1; have kb2 := blk_cell hbox 2; have kb3 := blk_cell hbox 3; have kb4 := blk_cell hbox 4; have kb5 := blk_cell hbox 5; have kb6 := blk_cell hbox 6; have kb7 := blk_cell hbox 7; have kb8 := blk_cell hbox 8; have kb9 := blk_cell hbox 9; clear hb hbox hg) | (go_at_call 92; refine (szEntryS_calls A8 c8 x.f8 left _ (Kd.C_below HR8.out HB0.out) HC8.out HL0.out HM0.out (HFT.out.1)).mono ?_; rintro e wd ⟨he, hb⟩; rw [← HE1.out] at he; subst he; have HB1 := Aside0.mk (below_step HB0.out hb); have KB1 := Aside0.mk (blk_below KB0.out hb); replace kb0 := blk_cell KB1.out 0; replace kb1 := blk_cell KB1.out 1; replace kb2 := blk_cell KB1.out 2; replace kb3 := blk_cell KB1.out 3; replace kb4 := blk_cell KB1.out 4; replace kb5 := blk_cell KB1.out 5; replace kb6 := blk_cell KB1.out 6; replace kb7 := blk_cell KB1.out 7; replace kb8 := blk_cell KB1.out 8; replace kb9 := blk_cell KB1.out 9; clear hb) | (go_at_call 67; refine (szByteS_calls A9 c9 x.f9 r1 _ (Kd.C_below HR9.out HB1.out) HC9.out HL1.out HM1.out (HFT.out.2)).mono ?_; rintro e wd ⟨he, hb⟩; rw [← HE2.out] at he; subst he; have HB2 := Aside0.mk (below_step HB1.out hb); have KB2 := Aside0.mk (blk_below KB1.out hb); replace kb0 := blk_cell KB2.out 0; replace kb1 := blk_cell KB2.out 1; replace kb2 := blk_cell KB2.out 2; replace kb3 := blk_cell KB2.out 3; replace kb4 := blk_cell KB2.out 4; replace kb5 := blk_cell KB2.out 5; replace kb6 := blk_cell KB2.out 6; replace kb7 := blk_cell KB2.out 7; replace kb8 := blk_cell KB2.out 8; replace kb9 := blk_cell KB2.out 9; clear hb))
   go_ret
   exact ⟨by rw [HF.out]; rfl, HB2.out⟩
 ·have t1 : decide (r1 < 0) = true := decide_eq_true (by rw [he1, szT_no c1_]; decide)
  have HF := Aside0.mk (show szT (totMessage x) left = -1 from szT_no (by unfold totMessage; show ¬ ((rowsTot totEntry x.f8 + x.f9.length : Nat) : Int) ≤ left; omega))
  clear c1_ he1
  go_enter Tryz.func70, Tryz.ntmps70
  go_wp2_with (first | ((with_reducible refine gate_dst (N := 2) rfl ?_); refine box_event ?hg (N := 2) ?hd (cs := #[.int .i64 x.f0, .int .i64 x.f1, .int .i64 x.f2, .int .i64 x.f3, .int .i64 x.f4, .int .i64 x.f5, .int .i64 x.f6, .bool x.f7, .slice A8 x.f8.length c8, .slice A9 x.f9.length c9]) (t := 136) ?hr ?_; (case hd => rfl); (case hg => rfl); (case hr => first | (go_simp; done) | (go_simp; rfl)); intro g1 hg wb hbox hb; have HB0 := Aside0.mk hb; have KB0 := Aside0.mk hbox; have kb0 := blk_cell hbox 0; have kb1 := blk_cell hbox 1; have kb2 := blk_cell hbox 2; have kb3 := blk_cell hbox 3; have kb4 := blk_cell hbox 4; have kb5 := blk_cell hbox 5; have kb6 := blk_cell hbox 6; have kb7 := blk_cell hbox 7; have kb8 := blk_cell hbox 8; have kb9 := blk_cell hbox 9; clear hb hbox hg) | (go_at_call 92; refine (szEntryS_calls A8 c8 x.f8 left _ (Kd.C_below HR8.out HB0.out) HC8.out HL0.out HM0.out (HFT.out.1)).mono ?_; rintro e wd ⟨he, hb⟩; rw [← HE1.out] at he; subst he; have HB1 := Aside0.mk (below_step HB0.out hb); have KB1 := Aside0.mk (blk_below KB0.out hb); replace kb0 := blk_cell KB1.out 0; replace kb1 := blk_cell KB1.out 1; replace kb2 := blk_cell KB1.out 2; replace kb3 := blk_cell KB1.out 3; replace kb4 := blk_cell KB1.out 4; replace kb5 := blk_cell KB1.out 5; replace kb6 := blk_cell KB1.out 6; replace kb7 := blk_cell KB1.out 7; replace kb8 := blk_cell KB1.out 8; replace kb9 := blk_cell KB1.out 9; clear hb))
  go_ret
  exact ⟨by rw [HF.out]; rfl, HB1.out⟩
theorem size_136 : (Tryz.prog.info? 136).map (·.size) = some 10 := by kernel_rfl
set_option maxHeartbeats 8000000 in
set_option maxRecDepth 100000 in
theorem szMessageS_calls (A0 : Option Addr) (c0 : Nat) (l0 : List S136) (left : Int) (w : World) (hr0 : Kd.C k136 w A0 l0.length l0) (hc0 : l0.length ≤ c0) (h0 : 0 ≤ left) (h1 : left ≤ 1048576) (hf : l0.length ≤ 9223372036854775807 ∧ ∀ y ∈ l0, MessageFit y) :
 Calls Tryz.prog 45 #[.slice A0 l0.length c0, .int .i64 left] w fun e w' => e = .returned (.int .i64 (szT (rowsTot totMessage l0) left)) ∧ Below w.heap.size w w' := by
 have hu := Tryz.underlying136
 have HR := Aside0.mk hr0
 have HFA := Aside0.mk hf.2
 have e : wrap64 (left - (l0.length : Int)) = left - (l0.length : Int) := w64 (by have := hf.1; omega) (by omega)
 by_cases c : left - (l0.length : Int) < 0
 ·have t : decide (wrap64 (left - (l0.length : Int)) < 0) = true := by rw [e]; exact decide_eq_true c
  have HF := Aside0.mk (show szT (rowsTot totMessage l0) left = -1 from szT_no (by unfold rowsTot; omega))
  clear e c hr0 hc0 h0 h1 hf
  go_enter Tryz.func45, Tryz.ntmps45
  go_wp2
  go_ret
  exact ⟨by rw [HF.out]; rfl, Below.refl _ _⟩
 ·have t : decide (wrap64 (left - (l0.length : Int)) < 0) = false := by rw [e]; exact decide_eq_false c
  have HE := Aside0.mk e
  have HL := Aside0.mk (show 0 ≤ left - (l0.length : Int) by omega)
  have HM := Aside0.mk h1
  clear e c hr0 hc0 h0 h1 hf
  go_enter Tryz.func45, Tryz.ntmps45
  go_wp2
  go_loopg [1, 5] l0.length (fun gk v1 v5 w' => ∃ (i : Nat) (b : Int), v1 = .int .i64 b ∧ v5 = .int .i64 (i : Nat) ∧ Aside0 (gk + i = l0.length) ∧ Aside0 (b = left - (l0.length : Int) - (sumTo totMessage l0 i : Nat) ∧ 0 ≤ b) ∧ Aside0 (Below w.heap.size w w'))
  case atStart => exact ⟨0, _, rfl, rfl, ⟨by omega⟩, ⟨by rw [HE.out, sumTo_zero]; have := HL.out; omega⟩, ⟨Below.refl _ _⟩⟩
  case round =>
   clear t
   obtain ⟨i, b, rfl, rfl, HG, HI, HB⟩ := hrel
   by_cases hlt : i < l0.length
   ·obtain ⟨k1, hk1⟩ : ∃ m, gk = m + 1 := ⟨gk - 1, by have := HG.out; omega⟩
    subst hk1
    obtain ⟨ad, cs, ha, _, hK, hcl0⟩ := Kd.C_get HR.out z136 (i : Int) (by omega) (by omega)
    have hcl : ∀ j u, cs[j]? = some u → w.cell? (ad.add (i * 10 + j)) = some u := hcl0
    obtain ⟨A8, c8, A9, c9, hcs, hl8, hC8, hl9, hC9⟩ := k136_open hK
    cases ha
    obtain ⟨x, hx⟩ : ∃ x, x = rd_T136 l0 (i : Int) := ⟨_, rfl⟩
    have hx' : l0.getD (i : Int).toNat z136 = x := hx.symm
    rw [hx'] at hcs hl8 hC8 hl9 hC9
    have HCS := Aside0.mk hcs
    have HCL := Aside0.mk (show ∀ j u, cs[j]? = some u → wr.cell? ((ad.add (i * 10)).add j) = some u from fun j u h => by rw [add_add]; exact (HB.out.cell (World.block_lt_of_cell? w _ (hcl j u h))).trans (hcl j u h))
    have HSZ := Aside0.mk (show (Tryz.prog.info? 136).map (·.size) = some cs.length by rw [hcs]; exact size_136)
    clear hcl0 hcl hK hcs hx'
    have HX := Aside0.mk (show x = l0[i] by rw [hx]; simp [rd_T136, List.getD, hlt])
    have HFX := Aside0.mk (show MessageFit x from HFA.out x (by rw [HX.out]; exact List.getElem_mem hlt))
    have HSU := Aside0.mk (show sumTo totMessage l0 (i + 1) = sumTo totMessage l0 i + totMessage x by rw [HX.out]; exact sumTo_succ _ l0 i hlt)
    have HSL := Aside0.mk (sumTo_le totMessage l0 (i + 1))
    have HL8 := Aside0.mk hl8
    have HC8 := Aside0.mk (Kd.C_below hC8 HB.out)
    have HL9 := Aside0.mk hl9
    have HC9 := Aside0.mk (Kd.C_below hC9 HB.out)
    obtain ⟨r, he⟩ : ∃ r, r = szT (totMessage x) b := ⟨_, rfl⟩
    have HE2 := Aside0.mk he
    have HBL := Aside0.mk (show b ≤ 1048576 by have := HI.out.1; have := HM.out; omega)
    clear hx hl8 hC8 hl9 hC9
    by_cases c : ((totMessage x : Nat) : Int) ≤ b
    ·as_aux_lemma =>
     have hr : r = b - ((totMessage x : Nat) : Int) := by rw [he, szT_yes c]
     have t : decide (r < 0) = false := decide_eq_false (by omega)
     have HR2 := Aside0.mk (And.intro hr (show 0 ≤ r by omega))
     clear c he hr
     go_wp2_with (first | ((with_reducible refine gate_dst (N := 21) rfl ?_); refine wpList_load_at rfl 136 (.tmp 20) rfl _ rfl cs _ HCL.out hu rfl HSZ.out ?_) | (go_at_call 70; refine (show Calls Tryz.prog 70 #[.agg cs.toArray, .int .i64 b] _ (fun e w' => e = .returned (.int .i64 (szT (totMessage x) b)) ∧ Below _ _ w') from by rw [HCS.out]; exact szMessage_calls x A8 c8 A9 c9 b _ HC8.out HL8.out HC9.out HL9.out HI.out.2 HBL.out HFX.out).mono ?_; rintro e wd ⟨he, hb⟩; rw [← HE2.out] at he; subst he; have HB2 := Aside0.mk (below_step HB.out hb); clear hb))
     go_roundg k1
     case measure => omega
     case rel => exact ⟨i + 1, r, rfl, by rw [w64n (by have := HL.out; have := HM.out; omega)], ⟨by have := HG.out; omega⟩, ⟨by have := HR2.out; have := HI.out.1; have := HSU.out; omega⟩, HB2⟩
    ·as_aux_lemma =>
     have t : decide (r < 0) = true := decide_eq_true (by rw [he, szT_no c]; decide)
     have HF := Aside0.mk (show szT (rowsTot totMessage l0) left = -1 from szT_no (by unfold rowsTot; have := HI.out.1; have := HSU.out; have := HSL.out; omega))
     clear c he
     go_wp2_with (first | ((with_reducible refine gate_dst (N := 21) rfl ?_); refine wpList_load_at rfl 136 (.tmp 20) rfl _ rfl cs _ HCL.out hu rfl HSZ.out ?_) | (go_at_call 70; refine (show Calls Tryz.prog 70 #[.agg cs.toArray, .int .i64 b] _ (fun e w' => e = .returned (.int .i64 (szT (totMessage x) b)) ∧ Below _ _ w') from by rw [HCS.out]; exact szMessage_calls x A8 c8 A9 c9 b _ HC8.out HL8.out HC9.out HL9.out HI.out.2 HBL.out HFX.out).mono ?_; rintro e wd ⟨he, hb⟩; rw [← HE2.out] at he; subst he; have HB2 := Aside0.mk (below_step HB.out hb); clear hb))
     go_ret
     exact ⟨by rw [HF.out]; rfl, HB2.out⟩
   ·as_aux_lemma =>
    have hi : i = l0.length := by have := HG.out; omega
    have HF := Aside0.mk (show szT (rowsTot totMessage l0) left = b by have := HI.out; rw [hi] at this; rw [this.1]; rw [szT_yes (by unfold rowsTot; omega)]; unfold rowsTot; omega)
    have tlt : decide (i < l0.length) = false := decide_eq_false hlt
    clear hlt hi
    go_wp2
    go_ret
    exact ⟨by rw [HF.out]; rfl, HB.out⟩
set_option maxHeartbeats 8000000 in
set_option maxRecDepth 100000 in
theorem szService_calls (x : S78) (A1 : Option Addr) (c1 : Nat) (A2 : Option Addr) (c2 : Nat) (left : Int) (w : World) (hr1 : Kd.C k74 w A1 x.f1.length x.f1) (hc1 : x.f1.length ≤ c1) (hr2 : Kd.C k160 w A2 x.f2.length x.f2) (hc2 : x.f2.length ≤ c2) (h0 : 0 ≤ left) (h1 : left ≤ 1048576) (hf : ServiceFit x) :
 Calls Tryz.prog 43 #[.agg #[.int .i64 x.f0, .slice A1 x.f1.length c1, .slice A2 x.f2.length c2], .int .i64 left] w fun e w' => e = .returned (.int .i64 (szT (totService x) left)) ∧ Below w.heap.size w w' := by
 have hu := Tryz.underlying78
 have HR1 := Aside0.mk hr1
 have HC1 := Aside0.mk hc1
 have HR2 := Aside0.mk hr2
 have HC2 := Aside0.mk hc2
 have HFT := Aside0.mk hf
 clear hf hr1 hc1 hr2 hc2
 have HL0 := Aside0.mk h0
 have HM0 := Aside0.mk h1
 obtain ⟨r1, he1⟩ : ∃ r, r = szT (rowsTot totItem x.f1) left := ⟨_, rfl⟩
 have HE1 := Aside0.mk he1
 by_cases c1_ : ((rowsTot totItem x.f1 : Nat) : Int) ≤ left
 ·have hs1 : r1 = left - ((rowsTot totItem x.f1 : Nat) : Int) := by rw [he1, szT_yes c1_]
  have t1 : decide (r1 < 0) = false := decide_eq_false (by rw [he1, szT_yes c1_]; omega)
  have HL1 := Aside0.mk (show 0 ≤ r1 by rw [he1, szT_yes c1_]; omega)
  have HM1 := Aside0.mk (show r1 ≤ 1048576 by have := HM0.out; rw [he1, szT_yes c1_]; omega)
  obtain ⟨r2, he2⟩ : ∃ r, r = szT (rowsTot totSession x.f2) r1 := ⟨_, rfl⟩
  have HE2 := Aside0.mk he2
  by_cases c2_ : ((rowsTot totSession x.f2 : Nat) : Int) ≤ r1
  ·have hs2 : r2 = left - ((rowsTot totItem x.f1 + rowsTot totSession x.f2 : Nat) : Int) := by rw [he2, szT_yes c2_]; omega
   have t2 : decide (r2 < 0) = false := decide_eq_false (by rw [he2, szT_yes c2_]; omega)
   have HL2 := Aside0.mk (show 0 ≤ r2 by rw [he2, szT_yes c2_]; omega)
   have HM2 := Aside0.mk (show r2 ≤ 1048576 by have := HM1.out; rw [he2, szT_yes c2_]; omega)
   have HF := Aside0.mk (show szT (totService x) left = r2 by rw [hs2]; exact szT_yes (by unfold totService; show ((rowsTot totItem x.f1 + rowsTot totSession x.f2 : Nat) : Int) ≤ left; omega))
   clear c1_ he1 hs1 c2_ he2 hs2
   go_enter Tryz.func43, Tryz.ntmps43
   go_wp2_with (first | ((with_reducible refine gate_dst (N := 2) rfl ?_); refine box_event ?hg (N := 2) ?hd (cs := #[.int .i64 x.f0, .slice A1 x.f1.length c1, .slice A2 x.f2.length c2]) (t := 78) ?hr ?_; (case hd => rfl); (case hg => rfl); (case hr => first | (go_simp; done) | (go_simp; rfl)); intro g1 hg wb hbox hb; have HB0 := Aside0.mk hb; have KB0 := Aside0.mk hbox; have kb0 := blk_cell hbox 0; have kb1 := blk_cell hbox 1; have kb2 := blk_cell hbox 2; clear hb hbox hg) | (go_at_call 68; refine (szItemS_calls A1 c1 x.f1 left _ (Kd.C_below HR1.out HB0.out) HC1.out HL0.out HM0.out (HFT.out.1)).mono ?_; rintro e wd ⟨he, hb⟩; rw [← HE1.out] at he; subst he; have HB1 := Aside0.mk (below_step HB0.out hb); have KB1 := Aside0.mk (blk_below KB0.out hb); replace kb0 := blk_cell KB1.out 0; replace kb1 := blk_cell KB1.out 1; replace kb2 := blk_cell KB1.out 2; clear hb) | (go_at_call 69; refine (szSessionS_calls A2 c2 x.f2 r1 _ (Kd.C_below HR2.out HB1.out) HC2.out HL1.out HM1.out (HFT.out.2)).mono ?_; rintro e wd ⟨he, hb⟩; rw [← HE2.out] at he; subst he; have HB2 := Aside0.mk (below_step HB1.out hb); have KB2 := Aside0.mk (blk_below KB1.out hb); replace kb0 := blk_cell KB2.out 0; replace kb1 := blk_cell KB2.out 1; replace kb2 := blk_cell KB2.out 2; clear hb))
   go_ret
   exact ⟨by rw [HF.out]; rfl, HB2.out⟩
  ·have t2 : decide (r2 < 0) = true := decide_eq_true (by rw [he2, szT_no c2_]; decide)
   have HF := Aside0.mk (show szT (totService x) left = -1 from szT_no (by unfold totService; show ¬ ((rowsTot totItem x.f1 + rowsTot totSession x.f2 : Nat) : Int) ≤ left; omega))
   clear c2_ he2 c1_ he1 hs1
   go_enter Tryz.func43, Tryz.ntmps43
   go_wp2_with (first | ((with_reducible refine gate_dst (N := 2) rfl ?_); refine box_event ?hg (N := 2) ?hd (cs := #[.int .i64 x.f0, .slice A1 x.f1.length c1, .slice A2 x.f2.length c2]) (t := 78) ?hr ?_; (case hd => rfl); (case hg => rfl); (case hr => first | (go_simp; done) | (go_simp; rfl)); intro g1 hg wb hbox hb; have HB0 := Aside0.mk hb; have KB0 := Aside0.mk hbox; have kb0 := blk_cell hbox 0; have kb1 := blk_cell hbox 1; have kb2 := blk_cell hbox 2; clear hb hbox hg) | (go_at_call 68; refine (szItemS_calls A1 c1 x.f1 left _ (Kd.C_below HR1.out HB0.out) HC1.out HL0.out HM0.out (HFT.out.1)).mono ?_; rintro e wd ⟨he, hb⟩; rw [← HE1.out] at he; subst he; have HB1 := Aside0.mk (below_step HB0.out hb); have KB1 := Aside0.mk (blk_below KB0.out hb); replace kb0 := blk_cell KB1.out 0; replace kb1 := blk_cell KB1.out 1; replace kb2 := blk_cell KB1.out 2; clear hb) | (go_at_call 69; refine (szSessionS_calls A2 c2 x.f2 r1 _ (Kd.C_below HR2.out HB1.out) HC2.out HL1.out HM1.out (HFT.out.2)).mono ?_; rintro e wd ⟨he, hb⟩; rw [← HE2.out] at he; subst he; have HB2 := Aside0.mk (below_step HB1.out hb); have KB2 := Aside0.mk (blk_below KB1.out hb); replace kb0 := blk_cell KB2.out 0; replace kb1 := blk_cell KB2.out 1; replace kb2 := blk_cell KB2.out 2; clear hb))
   go_ret
   exact ⟨by rw [HF.out]; rfl, HB2.out⟩
 ·have t1 : decide (r1 < 0) = true := decide_eq_true (by rw [he1, szT_no c1_]; decide)
  have HF := Aside0.mk (show szT (totService x) left = -1 from szT_no (by unfold totService; show ¬ ((rowsTot totItem x.f1 + rowsTot totSession x.f2 : Nat) : Int) ≤ left; omega))
  clear c1_ he1
  go_enter Tryz.func43, Tryz.ntmps43
  go_wp2_with (first | ((with_reducible refine gate_dst (N := 2) rfl ?_); refine box_event ?hg (N := 2) ?hd (cs := #[.int .i64 x.f0, .slice A1 x.f1.length c1, .slice A2 x.f2.length c2]) (t := 78) ?hr ?_; (case hd => rfl); (case hg => rfl); (case hr => first | (go_simp; done) | (go_simp; rfl)); intro g1 hg wb hbox hb; have HB0 := Aside0.mk hb; have KB0 := Aside0.mk hbox; have kb0 := blk_cell hbox 0; have kb1 := blk_cell hbox 1; have kb2 := blk_cell hbox 2; clear hb hbox hg) | (go_at_call 68; refine (szItemS_calls A1 c1 x.f1 left _ (Kd.C_below HR1.out HB0.out) HC1.out HL0.out HM0.out (HFT.out.1)).mono ?_; rintro e wd ⟨he, hb⟩; rw [← HE1.out] at he; subst he; have HB1 := Aside0.mk (below_step HB0.out hb); have KB1 := Aside0.mk (blk_below KB0.out hb); replace kb0 := blk_cell KB1.out 0; replace kb1 := blk_cell KB1.out 1; replace kb2 := blk_cell KB1.out 2; clear hb))
  go_ret
  exact ⟨by rw [HF.out]; rfl, HB1.out⟩
set_option maxHeartbeats 8000000 in
set_option maxRecDepth 100000 in
theorem szObs_calls (x : S83) (A4 : Option Addr) (c4 : Nat) (A6 : Option Addr) (c6 : Nat) (A7 : Option Addr) (c7 : Nat) (A8 : Option Addr) (c8 : Nat) (A9 : Option Addr) (c9 : Nat) (left : Int) (w : World) (hr4 : Kd.C (Kd.int .u8) w A4 x.f2.f2.length x.f2.f2) (hc4 : x.f2.f2.length ≤ c4) (hr6 : Kd.C k74 w A6 x.f3.f1.length x.f3.f1) (hc6 : x.f3.f1.length ≤ c6) (hr7 : Kd.C k160 w A7 x.f3.f2.length x.f3.f2) (hc7 : x.f3.f2.length ≤ c7) (hr8 : Kd.C k140 w A8 x.f4.length x.f4) (hc8 : x.f4.length ≤ c8) (hr9 : Kd.C k136 w A9 x.f5.length x.f5) (hc9 : x.f5.length ≤ c9) (h0 : 0 ≤ left) (h1 : left ≤ 1048576) (hf : ObsFit x) :
 Calls Tryz.prog 27 #[.agg #[.int .i64 x.f0, .int .i64 x.f1, .int .i64 x.f2.f0, .int .i64 x.f2.f1, .slice A4 x.f2.f2.length c4, .int .i64 x.f3.f0, .slice A6 x.f3.f1.length c6, .slice A7 x.f3.f2.length c7, .slice A8 x.f4.length c8, .slice A9 x.f5.length c9, .int .i64 x.f6.f0, .int .i64 x.f6.f1, .int .i64 x.f6.f2, .int .i64 x.f6.f3, .int .i64 x.f6.f4, .int .i64 x.f6.f5, .int .i64 x.f6.f6, .int .i64 x.f6.f7], .int .i64 left] w fun e w' => e = .returned (.int .i64 (szT (totObs x) left)) ∧ Below w.heap.size w w' := by
 have hu := Tryz.underlying83
 have HR4 := Aside0.mk hr4
 have HC4 := Aside0.mk hc4
 have HR6 := Aside0.mk hr6
 have HC6 := Aside0.mk hc6
 have HR7 := Aside0.mk hr7
 have HC7 := Aside0.mk hc7
 have HR8 := Aside0.mk hr8
 have HC8 := Aside0.mk hc8
 have HR9 := Aside0.mk hr9
 have HC9 := Aside0.mk hc9
 have HFT := Aside0.mk hf
 clear hf hr4 hc4 hr6 hc6 hr7 hc7 hr8 hc8 hr9 hc9
 have HL0 := Aside0.mk h0
 have HM0 := Aside0.mk h1
 obtain ⟨r1, he1⟩ : ∃ r, r = szT (totItem x.f2) left := ⟨_, rfl⟩
 have HE1 := Aside0.mk he1
 by_cases c1_ : ((totItem x.f2 : Nat) : Int) ≤ left
 ·have hs1 : r1 = left - ((totItem x.f2 : Nat) : Int) := by rw [he1, szT_yes c1_]
  have t1 : decide (r1 < 0) = false := decide_eq_false (by rw [he1, szT_yes c1_]; omega)
  have HL1 := Aside0.mk (show 0 ≤ r1 by rw [he1, szT_yes c1_]; omega)
  have HM1 := Aside0.mk (show r1 ≤ 1048576 by have := HM0.out; rw [he1, szT_yes c1_]; omega)
  obtain ⟨r2, he2⟩ : ∃ r, r = szT (totService x.f3) r1 := ⟨_, rfl⟩
  have HE2 := Aside0.mk he2
  by_cases c2_ : ((totService x.f3 : Nat) : Int) ≤ r1
  ·have hs2 : r2 = left - ((totItem x.f2 + totService x.f3 : Nat) : Int) := by rw [he2, szT_yes c2_]; omega
   have t2 : decide (r2 < 0) = false := decide_eq_false (by rw [he2, szT_yes c2_]; omega)
   have HL2 := Aside0.mk (show 0 ≤ r2 by rw [he2, szT_yes c2_]; omega)
   have HM2 := Aside0.mk (show r2 ≤ 1048576 by have := HM1.out; rw [he2, szT_yes c2_]; omega)
   obtain ⟨r3, he3⟩ : ∃ r, r = szT (x.f4.length) r2 := ⟨_, rfl⟩
   have HE3 := Aside0.mk he3
   by_cases c3_ : ((x.f4.length : Nat) : Int) ≤ r2
   ·have hs3 : r3 = left - ((totItem x.f2 + totService x.f3 + x.f4.length : Nat) : Int) := by rw [he3, szT_yes c3_]; omega
    have t3 : decide (r3 < 0) = false := decide_eq_false (by rw [he3, szT_yes c3_]; omega)
    have HL3 := Aside0.mk (show 0 ≤ r3 by rw [he3, szT_yes c3_]; omega)
    have HM3 := Aside0.mk (show r3 ≤ 1048576 by have := HM2.out; rw [he3, szT_yes c3_]; omega)
    obtain ⟨r4, he4⟩ : ∃ r, r = szT (rowsTot totMessage x.f5) r3 := ⟨_, rfl⟩
    have HE4 := Aside0.mk he4
    by_cases c4_ : ((rowsTot totMessage x.f5 : Nat) : Int) ≤ r3
    ·have hs4 : r4 = left - ((totItem x.f2 + totService x.f3 + x.f4.length + rowsTot totMessage x.f5 : Nat) : Int) := by rw [he4, szT_yes c4_]; omega
     have t4 : decide (r4 < 0) = false := decide_eq_false (by rw [he4, szT_yes c4_]; omega)
     have HL4 := Aside0.mk (show 0 ≤ r4 by rw [he4, szT_yes c4_]; omega)
     have HM4 := Aside0.mk (show r4 ≤ 1048576 by have := HM3.out; rw [he4, szT_yes c4_]; omega)
     have HF := Aside0.mk (show szT (totObs x) left = r4 by rw [hs4]; exact szT_yes (by unfold totObs; show ((totItem x.f2 + totService x.f3 + x.f4.length + rowsTot totMessage x.f5 : Nat) : Int) ≤ left; omega))
     clear c1_ he1 hs1 c2_ he2 hs2 c3_ he3 hs3 c4_ he4 hs4
     go_enter Tryz.func27, Tryz.ntmps27
     go_wp2_with (first | ((with_reducible refine gate_dst (N := 2) rfl ?_); refine box_event ?hg (N := 2) ?hd (cs := #[.int .i64 x.f0, .int .i64 x.f1, .int .i64 x.f2.f0, .int .i64 x.f2.f1, .slice A4 x.f2.f2.length c4, .int .i64 x.f3.f0, .slice A6 x.f3.f1.length c6, .slice A7 x.f3.f2.length c7, .slice A8 x.f4.length c8, .slice A9 x.f5.length c9, .int .i64 x.f6.f0, .int .i64 x.f6.f1, .int .i64 x.f6.f2, .int .i64 x.f6.f3, .int .i64 x.f6.f4, .int .i64 x.f6.f5, .int .i64 x.f6.f6, .int .i64 x.f6.f7]) (t := 83) ?hr ?_; (case hd => rfl); (case hg => rfl); (case hr => first | (go_simp; done) | (go_simp; rfl)); intro g1 hg wb hbox hb; have HB0 := Aside0.mk hb; have KB0 := Aside0.mk hbox; have kb0 := blk_cell hbox 0; have kb1 := blk_cell hbox 1; have kb2 := blk_cell hbox 2; have kb3 := blk_cell hbox 3; have kb4 := blk_cell hbox 4; have kb5 := blk_cell hbox 5; have kb6 := blk_cell hbox 6; have kb7 := blk_cell hbox 7; have kb8 := blk_cell hbox 8; have kb9 := blk_cell hbox 9; have kb10 := blk_cell hbox 10; have kb11 := blk_cell hbox 11; have kb12 := blk_cell hbox 12; have kb13 := blk_cell hbox 13; have kb14 := blk_cell hbox 14; have kb15 := blk_cell hbox 15; have kb16 := blk_cell hbox 16; have kb17 := blk_cell hbox 17; clear hb hbox hg) | (go_at_call 42; refine (szItem_calls x.f2 A4 c4 left _ (Kd.C_below HR4.out HB0.out) HC4.out HL0.out HM0.out (HFT.out.1)).mono ?_; rintro e wd ⟨he, hb⟩; rw [← HE1.out] at he; subst he; have HB1 := Aside0.mk (below_step HB0.out hb); have KB1 := Aside0.mk (blk_below KB0.out hb); replace kb0 := blk_cell KB1.out 0; replace kb1 := blk_cell KB1.out 1; replace kb2 := blk_cell KB1.out 2; replace kb3 := blk_cell KB1.out 3; replace kb4 := blk_cell KB1.out 4; replace kb5 := blk_cell KB1.out 5; replace kb6 := blk_cell KB1.out 6; replace kb7 := blk_cell KB1.out 7; replace kb8 := blk_cell KB1.out 8; replace kb9 := blk_cell KB1.out 9; replace kb10 := blk_cell KB1.out 10; replace kb11 := blk_cell KB1.out 11; replace kb12 := blk_cell KB1.out 12; replace kb13 := blk_cell KB1.out 13; replace kb14 := blk_cell KB1.out 14; replace kb15 := blk_cell KB1.out 15; replace kb16 := blk_cell KB1.out 16; replace kb17 := blk_cell KB1.out 17; clear hb) | (go_at_call 43; refine (szService_calls x.f3 A6 c6 A7 c7 r1 _ (Kd.C_below HR6.out HB1.out) HC6.out (Kd.C_below HR7.out HB1.out) HC7.out HL1.out HM1.out (HFT.out.2.1)).mono ?_; rintro e wd ⟨he, hb⟩; rw [← HE2.out] at he; subst he; have HB2 := Aside0.mk (below_step HB1.out hb); have KB2 := Aside0.mk (blk_below KB1.out hb); replace kb0 := blk_cell KB2.out 0; replace kb1 := blk_cell KB2.out 1; replace kb2 := blk_cell KB2.out 2; replace kb3 := blk_cell KB2.out 3; replace kb4 := blk_cell KB2.out 4; replace kb5 := blk_cell KB2.out 5; replace kb6 := blk_cell KB2.out 6; replace kb7 := blk_cell KB2.out 7; replace kb8 := blk_cell KB2.out 8; replace kb9 := blk_cell KB2.out 9; replace kb10 := blk_cell KB2.out 10; replace kb11 := blk_cell KB2.out 11; replace kb12 := blk_cell KB2.out 12; replace kb13 := blk_cell KB2.out 13; replace kb14 := blk_cell KB2.out 14; replace kb15 := blk_cell KB2.out 15; replace kb16 := blk_cell KB2.out 16; replace kb17 := blk_cell KB2.out 17; clear hb) | (go_at_call 44; refine (szAckS_calls A8 c8 x.f4 r2 _ (Kd.C_below HR8.out HB2.out) HC8.out HL2.out HM2.out (HFT.out.2.2.1)).mono ?_; rintro e wd ⟨he, hb⟩; rw [← HE3.out] at he; subst he; have HB3 := Aside0.mk (below_step HB2.out hb); have KB3 := Aside0.mk (blk_below KB2.out hb); replace kb0 := blk_cell KB3.out 0; replace kb1 := blk_cell KB3.out 1; replace kb2 := blk_cell KB3.out 2; replace kb3 := blk_cell KB3.out 3; replace kb4 := blk_cell KB3.out 4; replace kb5 := blk_cell KB3.out 5; replace kb6 := blk_cell KB3.out 6; replace kb7 := blk_cell KB3.out 7; replace kb8 := blk_cell KB3.out 8; replace kb9 := blk_cell KB3.out 9; replace kb10 := blk_cell KB3.out 10; replace kb11 := blk_cell KB3.out 11; replace kb12 := blk_cell KB3.out 12; replace kb13 := blk_cell KB3.out 13; replace kb14 := blk_cell KB3.out 14; replace kb15 := blk_cell KB3.out 15; replace kb16 := blk_cell KB3.out 16; replace kb17 := blk_cell KB3.out 17; clear hb) | (go_at_call 45; refine (szMessageS_calls A9 c9 x.f5 r3 _ (Kd.C_below HR9.out HB3.out) HC9.out HL3.out HM3.out (HFT.out.2.2.2)).mono ?_; rintro e wd ⟨he, hb⟩; rw [← HE4.out] at he; subst he; have HB4 := Aside0.mk (below_step HB3.out hb); have KB4 := Aside0.mk (blk_below KB3.out hb); replace kb0 := blk_cell KB4.out 0; replace kb1 := blk_cell KB4.out 1; replace kb2 := blk_cell KB4.out 2; replace kb3 := blk_cell KB4.out 3; replace kb4 := blk_cell KB4.out 4; replace kb5 := blk_cell KB4.out 5; replace kb6 := blk_cell KB4.out 6; replace kb7 := blk_cell KB4.out 7; replace kb8 := blk_cell KB4.out 8; replace kb9 := blk_cell KB4.out 9; replace kb10 := blk_cell KB4.out 10; replace kb11 := blk_cell KB4.out 11; replace kb12 := blk_cell KB4.out 12; replace kb13 := blk_cell KB4.out 13; replace kb14 := blk_cell KB4.out 14; replace kb15 := blk_cell KB4.out 15; replace kb16 := blk_cell KB4.out 16; replace kb17 := blk_cell KB4.out 17; clear hb))
     go_ret
     exact ⟨by rw [HF.out]; rfl, HB4.out⟩
    ·have t4 : decide (r4 < 0) = true := decide_eq_true (by rw [he4, szT_no c4_]; decide)
     have HF := Aside0.mk (show szT (totObs x) left = -1 from szT_no (by unfold totObs; show ¬ ((totItem x.f2 + totService x.f3 + x.f4.length + rowsTot totMessage x.f5 : Nat) : Int) ≤ left; omega))
     clear c4_ he4 c1_ he1 hs1 c2_ he2 hs2 c3_ he3 hs3
     go_enter Tryz.func27, Tryz.ntmps27
     go_wp2_with (first | ((with_reducible refine gate_dst (N := 2) rfl ?_); refine box_event ?hg (N := 2) ?hd (cs := #[.int .i64 x.f0, .int .i64 x.f1, .int .i64 x.f2.f0, .int .i64 x.f2.f1, .slice A4 x.f2.f2.length c4, .int .i64 x.f3.f0, .slice A6 x.f3.f1.length c6, .slice A7 x.f3.f2.length c7, .slice A8 x.f4.length c8, .slice A9 x.f5.length c9, .int .i64 x.f6.f0, .int .i64 x.f6.f1, .int .i64 x.f6.f2, .int .i64 x.f6.f3, .int .i64 x.f6.f4, .int .i64 x.f6.f5, .int .i64 x.f6.f6, .int .i64 x.f6.f7]) (t := 83) ?hr ?_; (case hd => rfl); (case hg => rfl); (case hr => first | (go_simp; done) | (go_simp; rfl)); intro g1 hg wb hbox hb; have HB0 := Aside0.mk hb; have KB0 := Aside0.mk hbox; have kb0 := blk_cell hbox 0; have kb1 := blk_cell hbox 1; have kb2 := blk_cell hbox 2; have kb3 := blk_cell hbox 3; have kb4 := blk_cell hbox 4; have kb5 := blk_cell hbox 5; have kb6 := blk_cell hbox 6; have kb7 := blk_cell hbox 7; have kb8 := blk_cell hbox 8; have kb9 := blk_cell hbox 9; have kb10 := blk_cell hbox 10; have kb11 := blk_cell hbox 11; have kb12 := blk_cell hbox 12; have kb13 := blk_cell hbox 13; have kb14 := blk_cell hbox 14; have kb15 := blk_cell hbox 15; have kb16 := blk_cell hbox 16; have kb17 := blk_cell hbox 17; clear hb hbox hg) | (go_at_call 42; refine (szItem_calls x.f2 A4 c4 left _ (Kd.C_below HR4.out HB0.out) HC4.out HL0.out HM0.out (HFT.out.1)).mono ?_; rintro e wd ⟨he, hb⟩; rw [← HE1.out] at he; subst he; have HB1 := Aside0.mk (below_step HB0.out hb); have KB1 := Aside0.mk (blk_below KB0.out hb); replace kb0 := blk_cell KB1.out 0; replace kb1 := blk_cell KB1.out 1; replace kb2 := blk_cell KB1.out 2; replace kb3 := blk_cell KB1.out 3; replace kb4 := blk_cell KB1.out 4; replace kb5 := blk_cell KB1.out 5; replace kb6 := blk_cell KB1.out 6; replace kb7 := blk_cell KB1.out 7; replace kb8 := blk_cell KB1.out 8; replace kb9 := blk_cell KB1.out 9; replace kb10 := blk_cell KB1.out 10; replace kb11 := blk_cell KB1.out 11; replace kb12 := blk_cell KB1.out 12; replace kb13 := blk_cell KB1.out 13; replace kb14 := blk_cell KB1.out 14; replace kb15 := blk_cell KB1.out 15; replace kb16 := blk_cell KB1.out 16; replace kb17 := blk_cell KB1.out 17; clear hb) | (go_at_call 43; refine (szService_calls x.f3 A6 c6 A7 c7 r1 _ (Kd.C_below HR6.out HB1.out) HC6.out (Kd.C_below HR7.out HB1.out) HC7.out HL1.out HM1.out (HFT.out.2.1)).mono ?_; rintro e wd ⟨he, hb⟩; rw [← HE2.out] at he; subst he; have HB2 := Aside0.mk (below_step HB1.out hb); have KB2 := Aside0.mk (blk_below KB1.out hb); replace kb0 := blk_cell KB2.out 0; replace kb1 := blk_cell KB2.out 1; replace kb2 := blk_cell KB2.out 2; replace kb3 := blk_cell KB2.out 3; replace kb4 := blk_cell KB2.out 4; replace kb5 := blk_cell KB2.out 5; replace kb6 := blk_cell KB2.out 6; replace kb7 := blk_cell KB2.out 7; replace kb8 := blk_cell KB2.out 8; replace kb9 := blk_cell KB2.out 9; replace kb10 := blk_cell KB2.out 10; replace kb11 := blk_cell KB2.out 11; replace kb12 := blk_cell KB2.out 12; replace kb13 := blk_cell KB2.out 13; replace kb14 := blk_cell KB2.out 14; replace kb15 := blk_cell KB2.out 15; replace kb16 := blk_cell KB2.out 16; replace kb17 := blk_cell KB2.out 17; clear hb) | (go_at_call 44; refine (szAckS_calls A8 c8 x.f4 r2 _ (Kd.C_below HR8.out HB2.out) HC8.out HL2.out HM2.out (HFT.out.2.2.1)).mono ?_; rintro e wd ⟨he, hb⟩; rw [← HE3.out] at he; subst he; have HB3 := Aside0.mk (below_step HB2.out hb); have KB3 := Aside0.mk (blk_below KB2.out hb); replace kb0 := blk_cell KB3.out 0; replace kb1 := blk_cell KB3.out 1; replace kb2 := blk_cell KB3.out 2; replace kb3 := blk_cell KB3.out 3; replace kb4 := blk_cell KB3.out 4; replace kb5 := blk_cell KB3.out 5; replace kb6 := blk_cell KB3.out 6; replace kb7 := blk_cell KB3.out 7; replace kb8 := blk_cell KB3.out 8; replace kb9 := blk_cell KB3.out 9; replace kb10 := blk_cell KB3.out 10; replace kb11 := blk_cell KB3.out 11; replace kb12 := blk_cell KB3.out 12; replace kb13 := blk_cell KB3.out 13; replace kb14 := blk_cell KB3.out 14; replace kb15 := blk_cell KB3.out 15; replace kb16 := blk_cell KB3.out 16; replace kb17 := blk_cell KB3.out 17; clear hb) | (go_at_call 45; refine (szMessageS_calls A9 c9 x.f5 r3 _ (Kd.C_below HR9.out HB3.out) HC9.out HL3.out HM3.out (HFT.out.2.2.2)).mono ?_; rintro e wd ⟨he, hb⟩; rw [← HE4.out] at he; subst he; have HB4 := Aside0.mk (below_step HB3.out hb); have KB4 := Aside0.mk (blk_below KB3.out hb); replace kb0 := blk_cell KB4.out 0; replace kb1 := blk_cell KB4.out 1; replace kb2 := blk_cell KB4.out 2; replace kb3 := blk_cell KB4.out 3; replace kb4 := blk_cell KB4.out 4; replace kb5 := blk_cell KB4.out 5; replace kb6 := blk_cell KB4.out 6; replace kb7 := blk_cell KB4.out 7; replace kb8 := blk_cell KB4.out 8; replace kb9 := blk_cell KB4.out 9; replace kb10 := blk_cell KB4.out 10; replace kb11 := blk_cell KB4.out 11; replace kb12 := blk_cell KB4.out 12; replace kb13 := blk_cell KB4.out 13; replace kb14 := blk_cell KB4.out 14; replace kb15 := blk_cell KB4.out 15; replace kb16 := blk_cell KB4.out 16; replace kb17 := blk_cell KB4.out 17; clear hb))
     go_ret
     exact ⟨by rw [HF.out]; rfl, HB4.out⟩
   ·have t3 : decide (r3 < 0) = true := decide_eq_true (by rw [he3, szT_no c3_]; decide)
    have HF := Aside0.mk (show szT (totObs x) left = -1 from szT_no (by unfold totObs; show ¬ ((totItem x.f2 + totService x.f3 + x.f4.length + rowsTot totMessage x.f5 : Nat) : Int) ≤ left; omega))
    clear c3_ he3 c1_ he1 hs1 c2_ he2 hs2
    go_enter Tryz.func27, Tryz.ntmps27
    go_wp2_with (first | ((with_reducible refine gate_dst (N := 2) rfl ?_); refine box_event ?hg (N := 2) ?hd (cs := #[.int .i64 x.f0, .int .i64 x.f1, .int .i64 x.f2.f0, .int .i64 x.f2.f1, .slice A4 x.f2.f2.length c4, .int .i64 x.f3.f0, .slice A6 x.f3.f1.length c6, .slice A7 x.f3.f2.length c7, .slice A8 x.f4.length c8, .slice A9 x.f5.length c9, .int .i64 x.f6.f0, .int .i64 x.f6.f1, .int .i64 x.f6.f2, .int .i64 x.f6.f3, .int .i64 x.f6.f4, .int .i64 x.f6.f5, .int .i64 x.f6.f6, .int .i64 x.f6.f7]) (t := 83) ?hr ?_; (case hd => rfl); (case hg => rfl); (case hr => first | (go_simp; done) | (go_simp; rfl)); intro g1 hg wb hbox hb; have HB0 := Aside0.mk hb; have KB0 := Aside0.mk hbox; have kb0 := blk_cell hbox 0; have kb1 := blk_cell hbox 1; have kb2 := blk_cell hbox 2; have kb3 := blk_cell hbox 3; have kb4 := blk_cell hbox 4; have kb5 := blk_cell hbox 5; have kb6 := blk_cell hbox 6; have kb7 := blk_cell hbox 7; have kb8 := blk_cell hbox 8; have kb9 := blk_cell hbox 9; have kb10 := blk_cell hbox 10; have kb11 := blk_cell hbox 11; have kb12 := blk_cell hbox 12; have kb13 := blk_cell hbox 13; have kb14 := blk_cell hbox 14; have kb15 := blk_cell hbox 15; have kb16 := blk_cell hbox 16; have kb17 := blk_cell hbox 17; clear hb hbox hg) | (go_at_call 42; refine (szItem_calls x.f2 A4 c4 left _ (Kd.C_below HR4.out HB0.out) HC4.out HL0.out HM0.out (HFT.out.1)).mono ?_; rintro e wd ⟨he, hb⟩; rw [← HE1.out] at he; subst he; have HB1 := Aside0.mk (below_step HB0.out hb); have KB1 := Aside0.mk (blk_below KB0.out hb); replace kb0 := blk_cell KB1.out 0; replace kb1 := blk_cell KB1.out 1; replace kb2 := blk_cell KB1.out 2; replace kb3 := blk_cell KB1.out 3; replace kb4 := blk_cell KB1.out 4; replace kb5 := blk_cell KB1.out 5; replace kb6 := blk_cell KB1.out 6; replace kb7 := blk_cell KB1.out 7; replace kb8 := blk_cell KB1.out 8; replace kb9 := blk_cell KB1.out 9; replace kb10 := blk_cell KB1.out 10; replace kb11 := blk_cell KB1.out 11; replace kb12 := blk_cell KB1.out 12; replace kb13 := blk_cell KB1.out 13; replace kb14 := blk_cell KB1.out 14; replace kb15 := blk_cell KB1.out 15; replace kb16 := blk_cell KB1.out 16; replace kb17 := blk_cell KB1.out 17; clear hb) | (go_at_call 43; refine (szService_calls x.f3 A6 c6 A7 c7 r1 _ (Kd.C_below HR6.out HB1.out) HC6.out (Kd.C_below HR7.out HB1.out) HC7.out HL1.out HM1.out (HFT.out.2.1)).mono ?_; rintro e wd ⟨he, hb⟩; rw [← HE2.out] at he; subst he; have HB2 := Aside0.mk (below_step HB1.out hb); have KB2 := Aside0.mk (blk_below KB1.out hb); replace kb0 := blk_cell KB2.out 0; replace kb1 := blk_cell KB2.out 1; replace kb2 := blk_cell KB2.out 2; replace kb3 := blk_cell KB2.out 3; replace kb4 := blk_cell KB2.out 4; replace kb5 := blk_cell KB2.out 5; replace kb6 := blk_cell KB2.out 6; replace kb7 := blk_cell KB2.out 7; replace kb8 := blk_cell KB2.out 8; replace kb9 := blk_cell KB2.out 9; replace kb10 := blk_cell KB2.out 10; replace kb11 := blk_cell KB2.out 11; replace kb12 := blk_cell KB2.out 12; replace kb13 := blk_cell KB2.out 13; replace kb14 := blk_cell KB2.out 14; replace kb15 := blk_cell KB2.out 15; replace kb16 := blk_cell KB2.out 16; replace kb17 := blk_cell KB2.out 17; clear hb) | (go_at_call 44; refine (szAckS_calls A8 c8 x.f4 r2 _ (Kd.C_below HR8.out HB2.out) HC8.out HL2.out HM2.out (HFT.out.2.2.1)).mono ?_; rintro e wd ⟨he, hb⟩; rw [← HE3.out] at he; subst he; have HB3 := Aside0.mk (below_step HB2.out hb); have KB3 := Aside0.mk (blk_below KB2.out hb); replace kb0 := blk_cell KB3.out 0; replace kb1 := blk_cell KB3.out 1; replace kb2 := blk_cell KB3.out 2; replace kb3 := blk_cell KB3.out 3; replace kb4 := blk_cell KB3.out 4; replace kb5 := blk_cell KB3.out 5; replace kb6 := blk_cell KB3.out 6; replace kb7 := blk_cell KB3.out 7; replace kb8 := blk_cell KB3.out 8; replace kb9 := blk_cell KB3.out 9; replace kb10 := blk_cell KB3.out 10; replace kb11 := blk_cell KB3.out 11; replace kb12 := blk_cell KB3.out 12; replace kb13 := blk_cell KB3.out 13; replace kb14 := blk_cell KB3.out 14; replace kb15 := blk_cell KB3.out 15; replace kb16 := blk_cell KB3.out 16; replace kb17 := blk_cell KB3.out 17; clear hb))
    go_ret
    exact ⟨by rw [HF.out]; rfl, HB3.out⟩
  ·have t2 : decide (r2 < 0) = true := decide_eq_true (by rw [he2, szT_no c2_]; decide)
   have HF := Aside0.mk (show szT (totObs x) left = -1 from szT_no (by unfold totObs; show ¬ ((totItem x.f2 + totService x.f3 + x.f4.length + rowsTot totMessage x.f5 : Nat) : Int) ≤ left; omega))
   clear c2_ he2 c1_ he1 hs1
   go_enter Tryz.func27, Tryz.ntmps27
   go_wp2_with (first | ((with_reducible refine gate_dst (N := 2) rfl ?_); refine box_event ?hg (N := 2) ?hd (cs := #[.int .i64 x.f0, .int .i64 x.f1, .int .i64 x.f2.f0, .int .i64 x.f2.f1, .slice A4 x.f2.f2.length c4, .int .i64 x.f3.f0, .slice A6 x.f3.f1.length c6, .slice A7 x.f3.f2.length c7, .slice A8 x.f4.length c8, .slice A9 x.f5.length c9, .int .i64 x.f6.f0, .int .i64 x.f6.f1, .int .i64 x.f6.f2, .int .i64 x.f6.f3, .int .i64 x.f6.f4, .int .i64 x.f6.f5, .int .i64 x.f6.f6, .int .i64 x.f6.f7]) (t := 83) ?hr ?_; (case hd => rfl); (case hg => rfl); (case hr => first | (go_simp; done) | (go_simp; rfl)); intro g1 hg wb hbox hb; have HB0 := Aside0.mk hb; have KB0 := Aside0.mk hbox; have kb0 := blk_cell hbox 0; have kb1 := blk_cell hbox 1; have kb2 := blk_cell hbox 2; have kb3 := blk_cell hbox 3; have kb4 := blk_cell hbox 4; have kb5 := blk_cell hbox 5; have kb6 := blk_cell hbox 6; have kb7 := blk_cell hbox 7; have kb8 := blk_cell hbox 8; have kb9 := blk_cell hbox 9; have kb10 := blk_cell hbox 10; have kb11 := blk_cell hbox 11; have kb12 := blk_cell hbox 12; have kb13 := blk_cell hbox 13; have kb14 := blk_cell hbox 14; have kb15 := blk_cell hbox 15; have kb16 := blk_cell hbox 16; have kb17 := blk_cell hbox 17; clear hb hbox hg) | (go_at_call 42; refine (szItem_calls x.f2 A4 c4 left _ (Kd.C_below HR4.out HB0.out) HC4.out HL0.out HM0.out (HFT.out.1)).mono ?_; rintro e wd ⟨he, hb⟩; rw [← HE1.out] at he; subst he; have HB1 := Aside0.mk (below_step HB0.out hb); have KB1 := Aside0.mk (blk_below KB0.out hb); replace kb0 := blk_cell KB1.out 0; replace kb1 := blk_cell KB1.out 1; replace kb2 := blk_cell KB1.out 2; replace kb3 := blk_cell KB1.out 3; replace kb4 := blk_cell KB1.out 4; replace kb5 := blk_cell KB1.out 5; replace kb6 := blk_cell KB1.out 6; replace kb7 := blk_cell KB1.out 7; replace kb8 := blk_cell KB1.out 8; replace kb9 := blk_cell KB1.out 9; replace kb10 := blk_cell KB1.out 10; replace kb11 := blk_cell KB1.out 11; replace kb12 := blk_cell KB1.out 12; replace kb13 := blk_cell KB1.out 13; replace kb14 := blk_cell KB1.out 14; replace kb15 := blk_cell KB1.out 15; replace kb16 := blk_cell KB1.out 16; replace kb17 := blk_cell KB1.out 17; clear hb) | (go_at_call 43; refine (szService_calls x.f3 A6 c6 A7 c7 r1 _ (Kd.C_below HR6.out HB1.out) HC6.out (Kd.C_below HR7.out HB1.out) HC7.out HL1.out HM1.out (HFT.out.2.1)).mono ?_; rintro e wd ⟨he, hb⟩; rw [← HE2.out] at he; subst he; have HB2 := Aside0.mk (below_step HB1.out hb); have KB2 := Aside0.mk (blk_below KB1.out hb); replace kb0 := blk_cell KB2.out 0; replace kb1 := blk_cell KB2.out 1; replace kb2 := blk_cell KB2.out 2; replace kb3 := blk_cell KB2.out 3; replace kb4 := blk_cell KB2.out 4; replace kb5 := blk_cell KB2.out 5; replace kb6 := blk_cell KB2.out 6; replace kb7 := blk_cell KB2.out 7; replace kb8 := blk_cell KB2.out 8; replace kb9 := blk_cell KB2.out 9; replace kb10 := blk_cell KB2.out 10; replace kb11 := blk_cell KB2.out 11; replace kb12 := blk_cell KB2.out 12; replace kb13 := blk_cell KB2.out 13; replace kb14 := blk_cell KB2.out 14; replace kb15 := blk_cell KB2.out 15; replace kb16 := blk_cell KB2.out 16; replace kb17 := blk_cell KB2.out 17; clear hb))
   go_ret
   exact ⟨by rw [HF.out]; rfl, HB2.out⟩
 ·have t1 : decide (r1 < 0) = true := decide_eq_true (by rw [he1, szT_no c1_]; decide)
  have HF := Aside0.mk (show szT (totObs x) left = -1 from szT_no (by unfold totObs; show ¬ ((totItem x.f2 + totService x.f3 + x.f4.length + rowsTot totMessage x.f5 : Nat) : Int) ≤ left; omega))
  clear c1_ he1
  go_enter Tryz.func27, Tryz.ntmps27
  go_wp2_with (first | ((with_reducible refine gate_dst (N := 2) rfl ?_); refine box_event ?hg (N := 2) ?hd (cs := #[.int .i64 x.f0, .int .i64 x.f1, .int .i64 x.f2.f0, .int .i64 x.f2.f1, .slice A4 x.f2.f2.length c4, .int .i64 x.f3.f0, .slice A6 x.f3.f1.length c6, .slice A7 x.f3.f2.length c7, .slice A8 x.f4.length c8, .slice A9 x.f5.length c9, .int .i64 x.f6.f0, .int .i64 x.f6.f1, .int .i64 x.f6.f2, .int .i64 x.f6.f3, .int .i64 x.f6.f4, .int .i64 x.f6.f5, .int .i64 x.f6.f6, .int .i64 x.f6.f7]) (t := 83) ?hr ?_; (case hd => rfl); (case hg => rfl); (case hr => first | (go_simp; done) | (go_simp; rfl)); intro g1 hg wb hbox hb; have HB0 := Aside0.mk hb; have KB0 := Aside0.mk hbox; have kb0 := blk_cell hbox 0; have kb1 := blk_cell hbox 1; have kb2 := blk_cell hbox 2; have kb3 := blk_cell hbox 3; have kb4 := blk_cell hbox 4; have kb5 := blk_cell hbox 5; have kb6 := blk_cell hbox 6; have kb7 := blk_cell hbox 7; have kb8 := blk_cell hbox 8; have kb9 := blk_cell hbox 9; have kb10 := blk_cell hbox 10; have kb11 := blk_cell hbox 11; have kb12 := blk_cell hbox 12; have kb13 := blk_cell hbox 13; have kb14 := blk_cell hbox 14; have kb15 := blk_cell hbox 15; have kb16 := blk_cell hbox 16; have kb17 := blk_cell hbox 17; clear hb hbox hg) | (go_at_call 42; refine (szItem_calls x.f2 A4 c4 left _ (Kd.C_below HR4.out HB0.out) HC4.out HL0.out HM0.out (HFT.out.1)).mono ?_; rintro e wd ⟨he, hb⟩; rw [← HE1.out] at he; subst he; have HB1 := Aside0.mk (below_step HB0.out hb); have KB1 := Aside0.mk (blk_below KB0.out hb); replace kb0 := blk_cell KB1.out 0; replace kb1 := blk_cell KB1.out 1; replace kb2 := blk_cell KB1.out 2; replace kb3 := blk_cell KB1.out 3; replace kb4 := blk_cell KB1.out 4; replace kb5 := blk_cell KB1.out 5; replace kb6 := blk_cell KB1.out 6; replace kb7 := blk_cell KB1.out 7; replace kb8 := blk_cell KB1.out 8; replace kb9 := blk_cell KB1.out 9; replace kb10 := blk_cell KB1.out 10; replace kb11 := blk_cell KB1.out 11; replace kb12 := blk_cell KB1.out 12; replace kb13 := blk_cell KB1.out 13; replace kb14 := blk_cell KB1.out 14; replace kb15 := blk_cell KB1.out 15; replace kb16 := blk_cell KB1.out 16; replace kb17 := blk_cell KB1.out 17; clear hb))
  go_ret
  exact ⟨by rw [HF.out]; rfl, HB1.out⟩
theorem size_83 : (Tryz.prog.info? 83).map (·.size) = some 18 := by kernel_rfl
set_option maxHeartbeats 8000000 in
set_option maxRecDepth 100000 in
theorem szObsS_calls (A0 : Option Addr) (c0 : Nat) (l0 : List S83) (left : Int) (w : World) (hr0 : Kd.C k83 w A0 l0.length l0) (hc0 : l0.length ≤ c0) (h0 : 0 ≤ left) (h1 : left ≤ 1048576) (hf : l0.length ≤ 9223372036854775807 ∧ ∀ y ∈ l0, ObsFit y) :
 Calls Tryz.prog 13 #[.slice A0 l0.length c0, .int .i64 left] w fun e w' => e = .returned (.int .i64 (szT (rowsTot totObs l0) left)) ∧ Below w.heap.size w w' := by
 have hu := Tryz.underlying83
 have HR := Aside0.mk hr0
 have HFA := Aside0.mk hf.2
 have e : wrap64 (left - (l0.length : Int)) = left - (l0.length : Int) := w64 (by have := hf.1; omega) (by omega)
 by_cases c : left - (l0.length : Int) < 0
 ·have t : decide (wrap64 (left - (l0.length : Int)) < 0) = true := by rw [e]; exact decide_eq_true c
  have HF := Aside0.mk (show szT (rowsTot totObs l0) left = -1 from szT_no (by unfold rowsTot; omega))
  clear e c hr0 hc0 h0 h1 hf
  go_enter Tryz.func13, Tryz.ntmps13
  go_wp2
  go_ret
  exact ⟨by rw [HF.out]; rfl, Below.refl _ _⟩
 ·have t : decide (wrap64 (left - (l0.length : Int)) < 0) = false := by rw [e]; exact decide_eq_false c
  have HE := Aside0.mk e
  have HL := Aside0.mk (show 0 ≤ left - (l0.length : Int) by omega)
  have HM := Aside0.mk h1
  clear e c hr0 hc0 h0 h1 hf
  go_enter Tryz.func13, Tryz.ntmps13
  go_wp2
  go_loopg [1, 5] l0.length (fun gk v1 v5 w' => ∃ (i : Nat) (b : Int), v1 = .int .i64 b ∧ v5 = .int .i64 (i : Nat) ∧ Aside0 (gk + i = l0.length) ∧ Aside0 (b = left - (l0.length : Int) - (sumTo totObs l0 i : Nat) ∧ 0 ≤ b) ∧ Aside0 (Below w.heap.size w w'))
  case atStart => exact ⟨0, _, rfl, rfl, ⟨by omega⟩, ⟨by rw [HE.out, sumTo_zero]; have := HL.out; omega⟩, ⟨Below.refl _ _⟩⟩
  case round =>
   clear t
   obtain ⟨i, b, rfl, rfl, HG, HI, HB⟩ := hrel
   by_cases hlt : i < l0.length
   ·obtain ⟨k1, hk1⟩ : ∃ m, gk = m + 1 := ⟨gk - 1, by have := HG.out; omega⟩
    subst hk1
    obtain ⟨ad, cs, ha, _, hK, hcl0⟩ := Kd.C_get HR.out z83 (i : Int) (by omega) (by omega)
    have hcl : ∀ j u, cs[j]? = some u → w.cell? (ad.add (i * 18 + j)) = some u := hcl0
    obtain ⟨A4, c4, A6, c6, A7, c7, A8, c8, A9, c9, hcs, hl4, hC4, hl6, hC6, hl7, hC7, hl8, hC8, hl9, hC9⟩ := k83_open hK
    cases ha
    obtain ⟨x, hx⟩ : ∃ x, x = rd_T83 l0 (i : Int) := ⟨_, rfl⟩
    have hx' : l0.getD (i : Int).toNat z83 = x := hx.symm
    rw [hx'] at hcs hl4 hC4 hl6 hC6 hl7 hC7 hl8 hC8 hl9 hC9
    have HCS := Aside0.mk hcs
    have HCL := Aside0.mk (show ∀ j u, cs[j]? = some u → wr.cell? ((ad.add (i * 18)).add j) = some u from fun j u h => by rw [add_add]; exact (HB.out.cell (World.block_lt_of_cell? w _ (hcl j u h))).trans (hcl j u h))
    have HSZ := Aside0.mk (show (Tryz.prog.info? 83).map (·.size) = some cs.length by rw [hcs]; exact size_83)
    clear hcl0 hcl hK hcs hx'
    have HX := Aside0.mk (show x = l0[i] by rw [hx]; simp [rd_T83, List.getD, hlt])
    have HFX := Aside0.mk (show ObsFit x from HFA.out x (by rw [HX.out]; exact List.getElem_mem hlt))
    have HSU := Aside0.mk (show sumTo totObs l0 (i + 1) = sumTo totObs l0 i + totObs x by rw [HX.out]; exact sumTo_succ _ l0 i hlt)
    have HSL := Aside0.mk (sumTo_le totObs l0 (i + 1))
    have HL4 := Aside0.mk hl4
    have HC4 := Aside0.mk (Kd.C_below hC4 HB.out)
    have HL6 := Aside0.mk hl6
    have HC6 := Aside0.mk (Kd.C_below hC6 HB.out)
    have HL7 := Aside0.mk hl7
    have HC7 := Aside0.mk (Kd.C_below hC7 HB.out)
    have HL8 := Aside0.mk hl8
    have HC8 := Aside0.mk (Kd.C_below hC8 HB.out)
    have HL9 := Aside0.mk hl9
    have HC9 := Aside0.mk (Kd.C_below hC9 HB.out)
    obtain ⟨r, he⟩ : ∃ r, r = szT (totObs x) b := ⟨_, rfl⟩
    have HE2 := Aside0.mk he
    have HBL := Aside0.mk (show b ≤ 1048576 by have := HI.out.1; have := HM.out; omega)
    clear hx hl4 hC4 hl6 hC6 hl7 hC7 hl8 hC8 hl9 hC9
    by_cases c : ((totObs x : Nat) : Int) ≤ b
    ·as_aux_lemma =>
     have hr : r = b - ((totObs x : Nat) : Int) := by rw [he, szT_yes c]
     have t : decide (r < 0) = false := decide_eq_false (by omega)
     have HR2 := Aside0.mk (And.intro hr (show 0 ≤ r by omega))
     clear c he hr
     go_wp2_with (first | ((with_reducible refine gate_dst (N := 21) rfl ?_); refine wpList_load_at rfl 83 (.tmp 20) rfl _ rfl cs _ HCL.out hu rfl HSZ.out ?_) | (go_at_call 27; refine (show Calls Tryz.prog 27 #[.agg cs.toArray, .int .i64 b] _ (fun e w' => e = .returned (.int .i64 (szT (totObs x) b)) ∧ Below _ _ w') from by rw [HCS.out]; exact szObs_calls x A4 c4 A6 c6 A7 c7 A8 c8 A9 c9 b _ HC4.out HL4.out HC6.out HL6.out HC7.out HL7.out HC8.out HL8.out HC9.out HL9.out HI.out.2 HBL.out HFX.out).mono ?_; rintro e wd ⟨he, hb⟩; rw [← HE2.out] at he; subst he; have HB2 := Aside0.mk (below_step HB.out hb); clear hb))
     go_roundg k1
     case measure => omega
     case rel => exact ⟨i + 1, r, rfl, by rw [w64n (by have := HL.out; have := HM.out; omega)], ⟨by have := HG.out; omega⟩, ⟨by have := HR2.out; have := HI.out.1; have := HSU.out; omega⟩, HB2⟩
    ·as_aux_lemma =>
     have t : decide (r < 0) = true := decide_eq_true (by rw [he, szT_no c]; decide)
     have HF := Aside0.mk (show szT (rowsTot totObs l0) left = -1 from szT_no (by unfold rowsTot; have := HI.out.1; have := HSU.out; have := HSL.out; omega))
     clear c he
     go_wp2_with (first | ((with_reducible refine gate_dst (N := 21) rfl ?_); refine wpList_load_at rfl 83 (.tmp 20) rfl _ rfl cs _ HCL.out hu rfl HSZ.out ?_) | (go_at_call 27; refine (show Calls Tryz.prog 27 #[.agg cs.toArray, .int .i64 b] _ (fun e w' => e = .returned (.int .i64 (szT (totObs x) b)) ∧ Below _ _ w') from by rw [HCS.out]; exact szObs_calls x A4 c4 A6 c6 A7 c7 A8 c8 A9 c9 b _ HC4.out HL4.out HC6.out HL6.out HC7.out HL7.out HC8.out HL8.out HC9.out HL9.out HI.out.2 HBL.out HFX.out).mono ?_; rintro e wd ⟨he, hb⟩; rw [← HE2.out] at he; subst he; have HB2 := Aside0.mk (below_step HB.out hb); clear hb))
     go_ret
     exact ⟨by rw [HF.out]; rfl, HB2.out⟩
   ·as_aux_lemma =>
    have hi : i = l0.length := by have := HG.out; omega
    have HF := Aside0.mk (show szT (rowsTot totObs l0) left = b by have := HI.out; rw [hi] at this; rw [this.1]; rw [szT_yes (by unfold rowsTot; omega)]; unfold rowsTot; omega)
    have tlt : decide (i < l0.length) = false := decide_eq_false hlt
    clear hlt hi
    go_wp2
    go_ret
    exact ⟨by rw [HF.out]; rfl, HB.out⟩
set_option maxHeartbeats 8000000 in
set_option maxRecDepth 100000 in
theorem szReport_calls (x : S24) (A1 : Option Addr) (c1 : Nat) (left : Int) (w : World) (hr1 : Kd.C k83 w A1 x.f1.length x.f1) (hc1 : x.f1.length ≤ c1) (h0 : 0 ≤ left) (h1 : left ≤ 1048576) (hf : x.f1.length ≤ 9223372036854775807 ∧ ∀ y ∈ x.f1, ObsFit y) :
 Calls Tryz.prog 4 #[.agg #[.int .i64 x.f0, .slice A1 x.f1.length c1], .int .i64 left] w fun e w' => e = .returned (.int .i64 (szT (rowsTot totObs x.f1) left)) ∧ Below w.heap.size w w' := by
 have hu := Tryz.underlying24
 have HR1 := Aside0.mk hr1
 have HC1 := Aside0.mk hc1
 have HFT := Aside0.mk hf
 clear hf hr1 hc1
 have HL0 := Aside0.mk h0
 have HM0 := Aside0.mk h1
 obtain ⟨r1, he1⟩ : ∃ r, r = szT (rowsTot totObs x.f1) left := ⟨_, rfl⟩
 have HE1 := Aside0.mk he1
 by_cases c1_ : ((rowsTot totObs x.f1 : Nat) : Int) ≤ left
 ·have hs1 : r1 = left - ((rowsTot totObs x.f1 : Nat) : Int) := by rw [he1, szT_yes c1_]
  have t1 : decide (r1 < 0) = false := decide_eq_false (by rw [he1, szT_yes c1_]; omega)
  have HL1 := Aside0.mk (show 0 ≤ r1 by rw [he1, szT_yes c1_]; omega)
  have HM1 := Aside0.mk (show r1 ≤ 1048576 by have := HM0.out; rw [he1, szT_yes c1_]; omega)
  have HF := Aside0.mk (show szT (rowsTot totObs x.f1) left = r1 by rw [hs1]; exact szT_yes (by show ((rowsTot totObs x.f1 : Nat) : Int) ≤ left; omega))
  clear c1_ he1 hs1
  go_enter Tryz.func4, Tryz.ntmps4
  go_wp2_with (first | ((with_reducible refine gate_dst (N := 2) rfl ?_); refine box_event ?hg (N := 2) ?hd (cs := #[.int .i64 x.f0, .slice A1 x.f1.length c1]) (t := 24) ?hr ?_; (case hd => rfl); (case hg => rfl); (case hr => first | (go_simp; done) | (go_simp; rfl)); intro g1 hg wb hbox hb; have HB0 := Aside0.mk hb; have KB0 := Aside0.mk hbox; have kb0 := blk_cell hbox 0; have kb1 := blk_cell hbox 1; clear hb hbox hg) | (go_at_call 13; refine (szObsS_calls A1 c1 x.f1 left _ (Kd.C_below HR1.out HB0.out) HC1.out HL0.out HM0.out HFT.out).mono ?_; rintro e wd ⟨he, hb⟩; rw [← HE1.out] at he; subst he; have HB1 := Aside0.mk (below_step HB0.out hb); have KB1 := Aside0.mk (blk_below KB0.out hb); replace kb0 := blk_cell KB1.out 0; replace kb1 := blk_cell KB1.out 1; clear hb))
  go_ret
  exact ⟨by rw [HF.out]; rfl, HB1.out⟩
 ·have t1 : decide (r1 < 0) = true := decide_eq_true (by rw [he1, szT_no c1_]; decide)
  have HF := Aside0.mk (show szT (rowsTot totObs x.f1) left = -1 from szT_no (by show ¬ ((rowsTot totObs x.f1 : Nat) : Int) ≤ left; omega))
  clear c1_ he1
  go_enter Tryz.func4, Tryz.ntmps4
  go_wp2_with (first | ((with_reducible refine gate_dst (N := 2) rfl ?_); refine box_event ?hg (N := 2) ?hd (cs := #[.int .i64 x.f0, .slice A1 x.f1.length c1]) (t := 24) ?hr ?_; (case hd => rfl); (case hg => rfl); (case hr => first | (go_simp; done) | (go_simp; rfl)); intro g1 hg wb hbox hb; have HB0 := Aside0.mk hb; have KB0 := Aside0.mk hbox; have kb0 := blk_cell hbox 0; have kb1 := blk_cell hbox 1; clear hb hbox hg) | (go_at_call 13; refine (szObsS_calls A1 c1 x.f1 left _ (Kd.C_below HR1.out HB0.out) HC1.out HL0.out HM0.out HFT.out).mono ?_; rintro e wd ⟨he, hb⟩; rw [← HE1.out] at he; subst he; have HB1 := Aside0.mk (below_step HB0.out hb); have KB1 := Aside0.mk (blk_below KB0.out hb); replace kb0 := blk_cell KB1.out 0; replace kb1 := blk_cell KB1.out 1; clear hb))
  go_ret
  exact ⟨by rw [HF.out]; rfl, HB1.out⟩

end Go.Proofs.YtibhaklgajkalaaGreatDoor.YTell
