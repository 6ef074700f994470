/- T7 -/
import Derived.Test.YtibhaklgajkalaaGreatDoorYTellx0
import Derived.Test.YtibhaklgajkalaaGreatDoorYTellT1
import Derived.Test.YtibhaklgajkalaaGreatDoorYTellT3
import Derived.Test.YtibhaklgajkalaaGreatDoorYTellT4
namespace Go.Proofs.YtibhaklgajkalaaGreatDoor.YTell
open Go.RowKit Go.Proofs.YtibhaklgajkalaaGreatDoorW.PrintWords Go.Proofs.YtibhaklgajkalaaGreatDoorW.PrintLast Go.Proofs.YtibhaklgajkalaaGreatDoorW.PrintMore
attribute [local go_sem] max2_int min2_int max_two min_two max_three min_three max_four min_four
set_option linter.unusedVariables false
set_option linter.unusedSimpArgs false
open Go.Proofs.YtibhaklgajkalaaGreatDoor.Num
theorem AllSame.uncons {u : Value} {l cs : List Value} (h : AllSame (u :: l) cs) : ∃ u' l', cs = u' :: l' ∧ Same u u' ∧ AllSame l l' := by
 cases h with
 | cons h1 h2 => exact ⟨_, _, rfl, h1, h2⟩
theorem wpList_mark {Pr : Program} {ops : Array Oper} {rest : List Oper} {o : Oper} {a : Act} {Q : Exit → Act → World → Prop} {w0 W : World} {S : Nat → Prop} (hN : o.dst = none) (hgd : o.guard = none) (t : TypeId) (p x : Operand) (ho : o.op = .store t p x) {g j e : Nat} {cur : Array Value} {u u' : Value}
 (haddr : a.eval p = .pointer (some ⟨g, j, none⟩)) (hx : a.eval x = u') (ht : (Pr.info? t).map (·.size) = some 1) (hu : u'.cells.toList = [u']) (hone : u'.oneCell' = true) (hb : W.heap[g]? = some (.cells cur e (0, 0))) (hc : W.cell? ⟨g, j, none⟩ = some u) (hs : Same u u')
 (hB : Below w0.heap.size w0 W) (hP : S g) (hg : w0.heap.size ≤ g) (h : ∀ W', Scrib w0 S W W' → wpList Pr ops Q rest a W') : wpList Pr ops Q (o :: rest) a W := by
 refine wpList_plain hgd fun K hK => ?_
 have hrun : (Instr.storeAt t (.pointer (some ⟨g, j, none⟩)) u').run Pr W = .ok () (W.setCell ⟨g, j, none⟩ u') := by
  have hj : j < cur.size := by
   rw [blk_cell hb] at hc
   exact (Array.getElem?_eq_some_iff.1 hc).1
  exact run_store_run t u' [u'] hb hu ht (by show j + 1 ≤ cur.size; omega) (fun q hq => by rw [List.mem_singleton.1 hq]; exact hone)
 unfold Oper.wp execOp
 simp only [ho, haddr, hx, Sem.run_bind, Sem.run_pure, Result.andThen_ok, hrun]
 show K (a.put o.dst undef) _
 rw [hN]
 exact hK a _ (h _ (Scrib.one hB hP hg hc hs))
theorem Scrib.slice {w0 w W : World} {P : Nat → Prop} (h : Scrib w0 P w W) {g j e : Nat} {cur : Array Value} {A : Option Addr} {n c : Nat} (hP : P g) (hb : w.heap[g]? = some (.cells cur e (0, 0))) (hc : w.cell? ⟨g, j, none⟩ = some (.slice A n c)) : W.cell? ⟨g, j, none⟩ = some (.slice A n c) := by
 obtain ⟨u', h1, h2⟩ := h.cell hP hb hc
 rw [h2.of_slice] at h1
 exact h1
theorem isz_3 : (Tryz.prog.info? 3).map (·.size) = some 1 := by kernel_rfl
theorem isz_4 : (Tryz.prog.info? 4).map (·.size) = some 1 := by kernel_rfl
theorem AllSame.unnil {cs : List Value} (h : AllSame [] cs) : cs = [] := by
 cases h
 rfl
set_option maxHeartbeats 8000000 in
set_option maxRecDepth 100000 in
theorem markByte_sh (w0 w : World) (P : Nat → Prop) (v : Value) (l : List Int) (a : Int) (ha0 : 0 ≤ a) (htot : a + l.length ≤ 281474976710656) (hP : ∀ k, P k → w0.heap.size ≤ k) (hB : Below w0.heap.size w0 w) (hs : ShRow P 5 1 ShByte w v l) :
 Calls Tryz.prog 11 #[v, .int .i64 a] w fun e w' => ∃ b', e = .returned (.int .i64 b') ∧ b' = a + l.length ∧ Scrib w0 P w w' := by
 obtain ⟨A1, c1, hv⟩ := hs.slice
 subst hv
 have HS := Aside0.mk hs
 have HA := Aside0.mk ha0
 have HT := Aside0.mk htot
 have HPP := Aside0.mk hP
 have HB := Aside0.mk hB
 clear hs ha0 htot hP hB
 go_enter Tryz.func11, Tryz.ntmps11
 go_wp2
 go_loopg [1, 5] l.length (fun gk v1 v5 w' => ∃ (i : Nat) (b : Int), v1 = .int .i64 b ∧ v5 = .int .i64 (i : Nat) ∧ Aside0 (b = a + i) ∧ Aside0 (gk + i = l.length) ∧ Aside0 (Scrib w0 P w w'))
 case atStart => exact ⟨0, a, rfl, rfl, ⟨by simp⟩, ⟨by omega⟩, ⟨Scrib.refl P HB.out⟩⟩
 case round =>
  obtain ⟨i, b, rfl, rfl, HBE, HG, HSC⟩ := hrel
  by_cases hlt : i < l.length
  ·obtain ⟨k1, hk1⟩ : ∃ m, gk = m + 1 := ⟨gk - 1, by have := HG.out; omega⟩
   subst hk1
   obtain ⟨g, cur, cs, hA, hPg, hbk, hcl, hD, hcc, hfr⟩ := ShRow.elem (HS.out.scrib (ShByte.stable P) HSC.out) i hlt
   subst hA
   obtain ⟨z, rfl⟩ := hD
   have q0 := hcc 0 _ rfl
   have r0 := hfr i
   rw [Nat.mul_one, Nat.add_zero] at q0
   have Q0 := Aside0.mk q0
   have HPG := Aside0.mk hPg
   have HBK := Aside0.mk hbk
   have hb0 : 0 ≤ b := by have := HBE.out; have := HA.out; omega
   have hb2 : b ≤ 281474976710656 := by have := HBE.out; have := HT.out; omega
   clear hPg hbk hcl hcc hfr
   go_wp2_with fail
   go_roundg k1
   case measure => omega
   case rel => exact ⟨i + 1, b + 1, rfl, by rw [w64n (by have := HT.out; have := HA.out; omega)], ⟨by have := HBE.out; omega⟩, ⟨by have := HG.out; omega⟩, ⟨HSC.out.trans ((Scrib.refl P HSC.out.below).seti HPG.out (HPP.out _ HPG.out) HBK.out Q0.out _)⟩⟩
  ·have hi : i = l.length := by have := HG.out; omega
   have HF := Aside0.mk (show b = a + l.length by have := HBE.out; rwa [hi] at this)
   have tlt : decide (i < l.length) = false := decide_eq_false hlt
   clear hlt hi
   go_wp2
   go_ret
   exact ⟨b, rfl, HF.out, HSC.out⟩
def mtEntry (x : S158) : Nat := 1 + x.f1.length
def ShEntry (P : Nat → Prop) (w : World) (x : S158) (cs : List Value) : Prop := ∃ (a0 : Int) (v1 : Value), cs = [.int .i64 a0, v1] ∧ ShRow P 5 1 ShByte w v1 x.f1
theorem ShEntry.stable (P : Nat → Prop) : Stable P (ShEntry P) := by
 rintro w0 w W x cs cs' hS ha0 ⟨a0, v1, rfl, h1⟩
 obtain ⟨u0, l0, rfl, s0, ha1⟩ := ha0.uncons
 obtain ⟨b0, rfl⟩ := s0.of_int
 obtain ⟨u1, l1, rfl, s1, ha2⟩ := ha1.uncons
 obtain ⟨A1, c1, e1⟩ := h1.slice
 subst e1
 have t1 := s1.of_slice
 subst t1
 have hn := ha2.unnil
 subst hn
 exact ⟨b0, _, rfl, h1.scrib (ShByte.stable P) hS⟩
theorem ShEntry.of_M {w : World} {base : Nat} {ok P : Nat → Prop} {x : S158} {cs : List Value} (hok : ∀ k, ok k → P k) (h : k158.M w base ok x cs) : ShEntry P w x cs := by
 obtain ⟨v1, hc, h1⟩ := k158_openM h
 subst hc
 exact ⟨_, _, rfl, ShRow.bytes h1 hok⟩
set_option maxHeartbeats 8000000 in
set_option maxRecDepth 100000 in
theorem markEntry_sh (w0 w : World) (P : Nat → Prop) (v : Value) (l : List S158) (a : Int) (ha0 : 0 ≤ a) (htot : a + sumTo mtEntry l l.length ≤ 281474976710656) (hlen : l.length ≤ 281474976710656) (hP : ∀ k, P k → w0.heap.size ≤ k) (hB : Below w0.heap.size w0 w) (hf : ∀ y ∈ l, EntryLim y) (hs : ShRow P 158 2 (ShEntry P) w v l) :
 Calls Tryz.prog 66 #[v, .int .i64 a] w fun e w' => ∃ b', e = .returned (.int .i64 b') ∧ b' = a + sumTo mtEntry l l.length ∧ Scrib w0 P w w' := by
 obtain ⟨A1, c1, hv⟩ := hs.slice
 subst hv
 have HS := Aside0.mk hs
 have HA := Aside0.mk ha0
 have HT := Aside0.mk htot
 have HLEN := Aside0.mk hlen
 have HPP := Aside0.mk hP
 have HB := Aside0.mk hB
 have HFT := Aside0.mk hf
 clear hs ha0 htot hlen hP hB hf
 go_enter Tryz.func66, Tryz.ntmps66
 go_wp2
 go_loopg [1, 5] l.length (fun gk v1 v5 w' => ∃ (i : Nat) (b : Int), v1 = .int .i64 b ∧ v5 = .int .i64 (i : Nat) ∧ Aside0 (b = a + sumTo mtEntry l i) ∧ Aside0 (gk + i = l.length) ∧ Aside0 (Scrib w0 P w w'))
 case atStart => exact ⟨0, a, rfl, rfl, ⟨by rw [sumTo_zero]; omega⟩, ⟨by omega⟩, ⟨Scrib.refl P HB.out⟩⟩
 case round =>
  obtain ⟨i, b, rfl, rfl, HBE, HG, HSC⟩ := hrel
  by_cases hlt : i < l.length
  ·as_aux_lemma =>
   obtain ⟨k1, hk1⟩ : ∃ m, gk = m + 1 := ⟨gk - 1, by have := HG.out; omega⟩
   subst hk1
   have HLT := Aside0.mk hlt
   obtain ⟨x, hx⟩ : ∃ x, x = l[i] := ⟨_, rfl⟩
   have HXL := Aside0.mk hx
   have HLX := Aside0.mk (show EntryLim x from by have := HFT.out l[i] (List.getElem_mem hlt); rwa [← hx] at this)
   have HTK := Aside0.mk (show sumTo mtEntry l (i + 1) = sumTo mtEntry l i + mtEntry x by rw [sumTo_succ _ l i hlt, ← hx])
   have HTOT := Aside0.mk (show b + (mtEntry x : Nat) ≤ 281474976710656 by have h1 := sumTo_le mtEntry l (i + 1); have h2 := HTK.out; have h3 := HBE.out; have h4 := HT.out; omega)
   have HMT := Aside0.mk (show mtEntry x = 1 + x.f1.length from rfl)
   have HB0 := Aside0.mk (show 0 ≤ b by have := HBE.out; have := HA.out; omega)
   clear hx
   obtain ⟨g, cur, cs, hA, hPg, hbk, hcl, hD, hcc, hfr⟩ := ShRow.elem (HS.out.scrib (ShEntry.stable P) HSC.out) i HLT.out
   subst hA
   rw [← HXL.out] at hD
   obtain ⟨a0, v1, rfl, h1⟩ := hD
   obtain ⟨A1, c1, e1⟩ := h1.slice
   subst e1
   have Q0 := Aside0.mk (hcc 0 _ rfl)
   rw [Nat.add_zero] at Q0
   have Q1 := Aside0.mk (hcc 1 _ rfl)
   have HPG := Aside0.mk hPg
   have HBK := Aside0.mk hbk
   have HR1 := Aside0.mk h1
   have SEG := Aside0.mk (Scrib.refl P HSC.out.below)
   clear hPg hbk hcl hcc hfr h1
   have hb0 : 0 ≤ b := HB0.out
   have hb2 : b + 1 ≤ 281474976710656 := by have := HTOT.out; have := HMT.out; have := HB0.out; omega
   go_wp2_with ((with_reducible refine gate_store (t := 3) (p := 16) rfl ?_); obtain ⟨u, hu1, hu2⟩ := SEG.out.cell HPG.out HBK.out Q0.out; obtain ⟨z, hz⟩ := hu2.of_int; subst hz; obtain ⟨cur1, hb1, _, _⟩ := SEG.out.cells _ _ _ HPG.out HBK.out; refine wpList_mark rfl rfl 3 (.tmp 16) _ rfl (g := g) (j := i * 2) rfl rfl isz_3 rfl rfl hb1 hu1 (.int _ _ _) SEG.out.below HPG.out (HPP.out _ HPG.out) ?_; intro W' hW'; replace SEG := Aside0.mk (SEG.out.trans hW'); clear hu1 hu2 hb1 hW'; have qc := SEG.out.slice HPG.out HBK.out Q1.out)
   refine (markByte_sh w0 _ P _ x.f1 (b + 1) ?p1 ?p2 HPP.out ?pB ?pS).mono ?_
   case p1 => have := HB0.out; omega
   case p2 => have := HTOT.out; have := HMT.out; have := HB0.out; omega
   case pB => exact SEG.out.below
   case pS => exact HR1.out.scrib (ShByte.stable P) SEG.out
   rintro e w0_ ⟨b0, rfl, hb, hsc⟩
   replace HSC := Aside0.mk (HSC.out.trans (SEG.out.trans hsc))
   have HBN0 := Aside0.mk hb
   replace HB0 := Aside0.mk (show 0 ≤ b0 by have := HB0.out; have := HBN0.out; omega)
   clear hb hsc hb0 hb2 SEG qc HPG HBK HR1 Q0 Q1
   go_wp2_with fail
   go_roundg k1
   case measure => omega
   case rel => exact ⟨i + 1, b0, rfl, by rw [w64n (by have := HLEN.out; have := HLT.out; omega)], ⟨by have := HBE.out; have := HTK.out; have := HMT.out; have := HBN0.out; omega⟩, ⟨by have := HG.out; omega⟩, ⟨HSC.out⟩⟩
  ·as_aux_lemma =>
   have hi : i = l.length := by have := HG.out; omega
   have HF := Aside0.mk (show b = a + sumTo mtEntry l l.length by have := HBE.out; rwa [hi] at this)
   have tlt : decide (i < l.length) = false := decide_eq_false hlt
   clear hlt hi
   go_wp2
   go_ret
   exact ⟨b, rfl, HF.out, HSC.out⟩
def mtItem (x : S40) : Nat := 2 + x.f2.length
def ShItem (P : Nat → Prop) (w : World) (x : S40) (cs : List Value) : Prop := ∃ (a0 : Int) (a1 : Int) (v2 : Value), cs = [.int .i64 a0, .int .i64 a1, v2] ∧ ShRow P 5 1 ShByte w v2 x.f2
theorem ShItem.stable (P : Nat → Prop) : Stable P (ShItem P) := by
 rintro w0 w W x cs cs' hS ha0 ⟨a0, a1, v2, rfl, h2⟩
 obtain ⟨u0, l0, rfl, s0, ha1⟩ := ha0.uncons
 obtain ⟨b0, rfl⟩ := s0.of_int
 obtain ⟨u1, l1, rfl, s1, ha2⟩ := ha1.uncons
 obtain ⟨b1, rfl⟩ := s1.of_int
 obtain ⟨u2, l2, rfl, s2, ha3⟩ := ha2.uncons
 obtain ⟨A2, c2, e2⟩ := h2.slice
 subst e2
 have t2 := s2.of_slice
 subst t2
 have hn := ha3.unnil
 subst hn
 exact ⟨b0, b1, _, rfl, h2.scrib (ShByte.stable P) hS⟩
theorem ShItem.of_M {w : World} {base : Nat} {ok P : Nat → Prop} {x : S40} {cs : List Value} (hok : ∀ k, ok k → P k) (h : k40.M w base ok x cs) : ShItem P w x cs := by
 obtain ⟨v2, hc, h2⟩ := k40_openM h
 subst hc
 exact ⟨_, _, _, rfl, ShRow.bytes h2 hok⟩
set_option maxHeartbeats 8000000 in
set_option maxRecDepth 100000 in
theorem markItem_sh (w0 w : World) (P : Nat → Prop) (v : Value) (l : List S40) (a : Int) (ha0 : 0 ≤ a) (htot : a + sumTo mtItem l l.length ≤ 281474976710656) (hlen : l.length ≤ 281474976710656) (hP : ∀ k, P k → w0.heap.size ≤ k) (hB : Below w0.heap.size w0 w) (hf : ∀ y ∈ l, ItemLim y) (hs : ShRow P 40 3 (ShItem P) w v l) :
 Calls Tryz.prog 38 #[v, .int .i64 a] w fun e w' => ∃ b', e = .returned (.int .i64 b') ∧ b' = a + sumTo mtItem l l.length ∧ Scrib w0 P w w' := by
 obtain ⟨A1, c1, hv⟩ := hs.slice
 subst hv
 have HS := Aside0.mk hs
 have HA := Aside0.mk ha0
 have HT := Aside0.mk htot
 have HLEN := Aside0.mk hlen
 have HPP := Aside0.mk hP
 have HB := Aside0.mk hB
 have HFT := Aside0.mk hf
 clear hs ha0 htot hlen hP hB hf
 go_enter Tryz.func38, Tryz.ntmps38
 go_wp2
 go_loopg [1, 5] l.length (fun gk v1 v5 w' => ∃ (i : Nat) (b : Int), v1 = .int .i64 b ∧ v5 = .int .i64 (i : Nat) ∧ Aside0 (b = a + sumTo mtItem l i) ∧ Aside0 (gk + i = l.length) ∧ Aside0 (Scrib w0 P w w'))
 case atStart => exact ⟨0, a, rfl, rfl, ⟨by rw [sumTo_zero]; omega⟩, ⟨by omega⟩, ⟨Scrib.refl P HB.out⟩⟩
 case round =>
  obtain ⟨i, b, rfl, rfl, HBE, HG, HSC⟩ := hrel
  by_cases hlt : i < l.length
  ·as_aux_lemma =>
   obtain ⟨k1, hk1⟩ : ∃ m, gk = m + 1 := ⟨gk - 1, by have := HG.out; omega⟩
   subst hk1
   have HLT := Aside0.mk hlt
   obtain ⟨x, hx⟩ : ∃ x, x = l[i] := ⟨_, rfl⟩
   have HXL := Aside0.mk hx
   have HLX := Aside0.mk (show ItemLim x from by have := HFT.out l[i] (List.getElem_mem hlt); rwa [← hx] at this)
   have HTK := Aside0.mk (show sumTo mtItem l (i + 1) = sumTo mtItem l i + mtItem x by rw [sumTo_succ _ l i hlt, ← hx])
   have HTOT := Aside0.mk (show b + (mtItem x : Nat) ≤ 281474976710656 by have h1 := sumTo_le mtItem l (i + 1); have h2 := HTK.out; have h3 := HBE.out; have h4 := HT.out; omega)
   have HMT := Aside0.mk (show mtItem x = 2 + x.f2.length from rfl)
   have HB0 := Aside0.mk (show 0 ≤ b by have := HBE.out; have := HA.out; omega)
   clear hx
   obtain ⟨g, cur, cs, hA, hPg, hbk, hcl, hD, hcc, hfr⟩ := ShRow.elem (HS.out.scrib (ShItem.stable P) HSC.out) i HLT.out
   subst hA
   rw [← HXL.out] at hD
   obtain ⟨a0, a1, v2, rfl, h2⟩ := hD
   obtain ⟨A2, c2, e2⟩ := h2.slice
   subst e2
   have Q0 := Aside0.mk (hcc 0 _ rfl)
   rw [Nat.add_zero] at Q0
   have Q1 := Aside0.mk (hcc 1 _ rfl)
   have Q2 := Aside0.mk (hcc 2 _ rfl)
   have HPG := Aside0.mk hPg
   have HBK := Aside0.mk hbk
   have HR2 := Aside0.mk h2
   have SEG := Aside0.mk (Scrib.refl P HSC.out.below)
   clear hPg hbk hcl hcc hfr h2
   have hb0 : 0 ≤ b := HB0.out
   have hb2 : b + 2 ≤ 281474976710656 := by have := HTOT.out; have := HMT.out; have := HB0.out; omega
   go_wp2_with (first | ((with_reducible refine gate_store (t := 3) (p := 16) rfl ?_); obtain ⟨u, hu1, hu2⟩ := SEG.out.cell HPG.out HBK.out Q0.out; obtain ⟨z, hz⟩ := hu2.of_int; subst hz; obtain ⟨cur1, hb1, _, _⟩ := SEG.out.cells _ _ _ HPG.out HBK.out; refine wpList_mark rfl rfl 3 (.tmp 16) _ rfl (g := g) (j := i * 3) rfl rfl isz_3 rfl rfl hb1 hu1 (.int _ _ _) SEG.out.below HPG.out (HPP.out _ HPG.out) ?_; intro W' hW'; replace SEG := Aside0.mk (SEG.out.trans hW'); clear hu1 hu2 hb1 hW') | ((with_reducible refine gate_store (t := 3) (p := 23) rfl ?_); obtain ⟨u, hu1, hu2⟩ := SEG.out.cell HPG.out HBK.out Q1.out; obtain ⟨z, hz⟩ := hu2.of_int; subst hz; obtain ⟨cur1, hb1, _, _⟩ := SEG.out.cells _ _ _ HPG.out HBK.out; refine wpList_mark rfl rfl 3 (.tmp 23) _ rfl (g := g) (j := i * 3 + 1) rfl rfl isz_3 rfl rfl hb1 hu1 (.int _ _ _) SEG.out.below HPG.out (HPP.out _ HPG.out) ?_; intro W' hW'; replace SEG := Aside0.mk (SEG.out.trans hW'); clear hu1 hu2 hb1 hW'; have qc := SEG.out.slice HPG.out HBK.out Q2.out))
   refine (markByte_sh w0 _ P _ x.f2 (b + 1 + 1) ?p1 ?p2 HPP.out ?pB ?pS).mono ?_
   case p1 => have := HB0.out; omega
   case p2 => have := HTOT.out; have := HMT.out; have := HB0.out; omega
   case pB => exact SEG.out.below
   case pS => exact HR2.out.scrib (ShByte.stable P) SEG.out
   rintro e w0_ ⟨b0, rfl, hb, hsc⟩
   replace HSC := Aside0.mk (HSC.out.trans (SEG.out.trans hsc))
   have HBN0 := Aside0.mk hb
   replace HB0 := Aside0.mk (show 0 ≤ b0 by have := HB0.out; have := HBN0.out; omega)
   clear hb hsc hb0 hb2 SEG qc HPG HBK HR2 Q0 Q1 Q2
   go_wp2_with fail
   go_roundg k1
   case measure => omega
   case rel => exact ⟨i + 1, b0, rfl, by rw [w64n (by have := HLEN.out; have := HLT.out; omega)], ⟨by have := HBE.out; have := HTK.out; have := HMT.out; have := HBN0.out; omega⟩, ⟨by have := HG.out; omega⟩, ⟨HSC.out⟩⟩
  ·as_aux_lemma =>
   have hi : i = l.length := by have := HG.out; omega
   have HF := Aside0.mk (show b = a + sumTo mtItem l l.length by have := HBE.out; rwa [hi] at this)
   have tlt : decide (i < l.length) = false := decide_eq_false hlt
   clear hlt hi
   go_wp2
   go_ret
   exact ⟨b, rfl, HF.out, HSC.out⟩
def mtSession (x : S126) : Nat := 3 + x.f3.length
def ShSession (P : Nat → Prop) (w : World) (x : S126) (cs : List Value) : Prop := ∃ (a0 : Int) (a1 : Int) (a2 : Int) (v3 : Value), cs = [.int .i64 a0, .int .i64 a1, .int .i64 a2, v3] ∧ ShRow P 5 1 ShByte w v3 x.f3
theorem ShSession.stable (P : Nat → Prop) : Stable P (ShSession P) := by
 rintro w0 w W x cs cs' hS ha0 ⟨a0, a1, a2, v3, rfl, h3⟩
 obtain ⟨u0, l0, rfl, s0, ha1⟩ := ha0.uncons
 obtain ⟨b0, rfl⟩ := s0.of_int
 obtain ⟨u1, l1, rfl, s1, ha2⟩ := ha1.uncons
 obtain ⟨b1, rfl⟩ := s1.of_int
 obtain ⟨u2, l2, rfl, s2, ha3⟩ := ha2.uncons
 obtain ⟨b2, rfl⟩ := s2.of_int
 obtain ⟨u3, l3, rfl, s3, ha4⟩ := ha3.uncons
 obtain ⟨A3, c3, e3⟩ := h3.slice
 subst e3
 have t3 := s3.of_slice
 subst t3
 have hn := ha4.unnil
 subst hn
 exact ⟨b0, b1, b2, _, rfl, h3.scrib (ShByte.stable P) hS⟩
theorem ShSession.of_M {w : World} {base : Nat} {ok P : Nat → Prop} {x : S126} {cs : List Value} (hok : ∀ k, ok k → P k) (h : k126.M w base ok x cs) : ShSession P w x cs := by
 obtain ⟨v3, hc, h3⟩ := k126_openM h
 subst hc
 exact ⟨_, _, _, _, rfl, ShRow.bytes h3 hok⟩
set_option maxHeartbeats 8000000 in
set_option maxRecDepth 100000 in
theorem markSession_sh (w0 w : World) (P : Nat → Prop) (v : Value) (l : List S126) (a : Int) (ha0 : 0 ≤ a) (htot : a + sumTo mtSession l l.length ≤ 281474976710656) (hlen : l.length ≤ 281474976710656) (hP : ∀ k, P k → w0.heap.size ≤ k) (hB : Below w0.heap.size w0 w) (hf : ∀ y ∈ l, SessionLim y) (hs : ShRow P 126 4 (ShSession P) w v l) :
 Calls Tryz.prog 39 #[v, .int .i64 a] w fun e w' => ∃ b', e = .returned (.int .i64 b') ∧ b' = a + sumTo mtSession l l.length ∧ Scrib w0 P w w' := by
 obtain ⟨A1, c1, hv⟩ := hs.slice
 subst hv
 have HS := Aside0.mk hs
 have HA := Aside0.mk ha0
 have HT := Aside0.mk htot
 have HLEN := Aside0.mk hlen
 have HPP := Aside0.mk hP
 have HB := Aside0.mk hB
 have HFT := Aside0.mk hf
 clear hs ha0 htot hlen hP hB hf
 go_enter Tryz.func39, Tryz.ntmps39
 go_wp2
 go_loopg [1, 5] l.length (fun gk v1 v5 w' => ∃ (i : Nat) (b : Int), v1 = .int .i64 b ∧ v5 = .int .i64 (i : Nat) ∧ Aside0 (b = a + sumTo mtSession l i) ∧ Aside0 (gk + i = l.length) ∧ Aside0 (Scrib w0 P w w'))
 case atStart => exact ⟨0, a, rfl, rfl, ⟨by rw [sumTo_zero]; omega⟩, ⟨by omega⟩, ⟨Scrib.refl P HB.out⟩⟩
 case round =>
  obtain ⟨i, b, rfl, rfl, HBE, HG, HSC⟩ := hrel
  by_cases hlt : i < l.length
  ·as_aux_lemma =>
   obtain ⟨k1, hk1⟩ : ∃ m, gk = m + 1 := ⟨gk - 1, by have := HG.out; omega⟩
   subst hk1
   have HLT := Aside0.mk hlt
   obtain ⟨x, hx⟩ : ∃ x, x = l[i] := ⟨_, rfl⟩
   have HXL := Aside0.mk hx
   have HLX := Aside0.mk (show SessionLim x from by have := HFT.out l[i] (List.getElem_mem hlt); rwa [← hx] at this)
   have HTK := Aside0.mk (show sumTo mtSession l (i + 1) = sumTo mtSession l i + mtSession x by rw [sumTo_succ _ l i hlt, ← hx])
   have HTOT := Aside0.mk (show b + (mtSession x : Nat) ≤ 281474976710656 by have h1 := sumTo_le mtSession l (i + 1); have h2 := HTK.out; have h3 := HBE.out; have h4 := HT.out; omega)
   have HMT := Aside0.mk (show mtSession x = 3 + x.f3.length from rfl)
   have HB0 := Aside0.mk (show 0 ≤ b by have := HBE.out; have := HA.out; omega)
   clear hx
   obtain ⟨g, cur, cs, hA, hPg, hbk, hcl, hD, hcc, hfr⟩ := ShRow.elem (HS.out.scrib (ShSession.stable P) HSC.out) i HLT.out
   subst hA
   rw [← HXL.out] at hD
   obtain ⟨a0, a1, a2, v3, rfl, h3⟩ := hD
   obtain ⟨A3, c3, e3⟩ := h3.slice
   subst e3
   have Q0 := Aside0.mk (hcc 0 _ rfl)
   rw [Nat.add_zero] at Q0
   have Q1 := Aside0.mk (hcc 1 _ rfl)
   have Q2 := Aside0.mk (hcc 2 _ rfl)
   have Q3 := Aside0.mk (hcc 3 _ rfl)
   have HPG := Aside0.mk hPg
   have HBK := Aside0.mk hbk
   have HR3 := Aside0.mk h3
   have SEG := Aside0.mk (Scrib.refl P HSC.out.below)
   clear hPg hbk hcl hcc hfr h3
   have hb0 : 0 ≤ b := HB0.out
   have hb2 : b + 3 ≤ 281474976710656 := by have := HTOT.out; have := HMT.out; have := HB0.out; omega
   go_wp2_with (first | ((with_reducible refine gate_store (t := 3) (p := 16) rfl ?_); obtain ⟨u, hu1, hu2⟩ := SEG.out.cell HPG.out HBK.out Q0.out; obtain ⟨z, hz⟩ := hu2.of_int; subst hz; obtain ⟨cur1, hb1, _, _⟩ := SEG.out.cells _ _ _ HPG.out HBK.out; refine wpList_mark rfl rfl 3 (.tmp 16) _ rfl (g := g) (j := i * 4) rfl rfl isz_3 rfl rfl hb1 hu1 (.int _ _ _) SEG.out.below HPG.out (HPP.out _ HPG.out) ?_; intro W' hW'; replace SEG := Aside0.mk (SEG.out.trans hW'); clear hu1 hu2 hb1 hW') | ((with_reducible refine gate_store (t := 3) (p := 23) rfl ?_); obtain ⟨u, hu1, hu2⟩ := SEG.out.cell HPG.out HBK.out Q1.out; obtain ⟨z, hz⟩ := hu2.of_int; subst hz; obtain ⟨cur1, hb1, _, _⟩ := SEG.out.cells _ _ _ HPG.out HBK.out; refine wpList_mark rfl rfl 3 (.tmp 23) _ rfl (g := g) (j := i * 4 + 1) rfl rfl isz_3 rfl rfl hb1 hu1 (.int _ _ _) SEG.out.below HPG.out (HPP.out _ HPG.out) ?_; intro W' hW'; replace SEG := Aside0.mk (SEG.out.trans hW'); clear hu1 hu2 hb1 hW') | ((with_reducible refine gate_store (t := 3) (p := 30) rfl ?_); obtain ⟨u, hu1, hu2⟩ := SEG.out.cell HPG.out HBK.out Q2.out; obtain ⟨z, hz⟩ := hu2.of_int; subst hz; obtain ⟨cur1, hb1, _, _⟩ := SEG.out.cells _ _ _ HPG.out HBK.out; refine wpList_mark rfl rfl 3 (.tmp 30) _ rfl (g := g) (j := i * 4 + 2) rfl rfl isz_3 rfl rfl hb1 hu1 (.int _ _ _) SEG.out.below HPG.out (HPP.out _ HPG.out) ?_; intro W' hW'; replace SEG := Aside0.mk (SEG.out.trans hW'); clear hu1 hu2 hb1 hW'; have qc := SEG.out.slice HPG.out HBK.out Q3.out))
   refine (markByte_sh w0 _ P _ x.f3 (b + 1 + 1 + 1) ?p1 ?p2 HPP.out ?pB ?pS).mono ?_
   case p1 => have := HB0.out; omega
   case p2 => have := HTOT.out; have := HMT.out; have := HB0.out; omega
   case pB => exact SEG.out.below
   case pS => exact HR3.out.scrib (ShByte.stable P) SEG.out
   rintro e w0_ ⟨b0, rfl, hb, hsc⟩
   replace HSC := Aside0.mk (HSC.out.trans (SEG.out.trans hsc))
   have HBN0 := Aside0.mk hb
   replace HB0 := Aside0.mk (show 0 ≤ b0 by have := HB0.out; have := HBN0.out; omega)
   clear hb hsc hb0 hb2 SEG qc HPG HBK HR3 Q0 Q1 Q2 Q3
   go_wp2_with fail
   go_roundg k1
   case measure => omega
   case rel => exact ⟨i + 1, b0, rfl, by rw [w64n (by have := HLEN.out; have := HLT.out; omega)], ⟨by have := HBE.out; have := HTK.out; have := HMT.out; have := HBN0.out; omega⟩, ⟨by have := HG.out; omega⟩, ⟨HSC.out⟩⟩
  ·as_aux_lemma =>
   have hi : i = l.length := by have := HG.out; omega
   have HF := Aside0.mk (show b = a + sumTo mtSession l l.length by have := HBE.out; rwa [hi] at this)
   have tlt : decide (i < l.length) = false := decide_eq_false hlt
   clear hlt hi
   go_wp2
   go_ret
   exact ⟨b, rfl, HF.out, HSC.out⟩
def mtAck (x : S53) : Nat := 5
def ShAck (w : World) (x : S53) (cs : List Value) : Prop := ∃ (a0 : Int) (a1 : Int) (a2 : Int) (a3 : Int) (a4 : Int), cs = [.int .i64 a0, .int .i64 a1, .int .i64 a2, .int .i64 a3, .int .i64 a4]
theorem ShAck.stable (P : Nat → Prop) : Stable P ShAck := by
 rintro w0 w W x cs cs' hS ha0 ⟨a0, a1, a2, a3, a4, rfl⟩
 obtain ⟨u0, l0, rfl, s0, ha1⟩ := ha0.uncons
 obtain ⟨b0, rfl⟩ := s0.of_int
 obtain ⟨u1, l1, rfl, s1, ha2⟩ := ha1.uncons
 obtain ⟨b1, rfl⟩ := s1.of_int
 obtain ⟨u2, l2, rfl, s2, ha3⟩ := ha2.uncons
 obtain ⟨b2, rfl⟩ := s2.of_int
 obtain ⟨u3, l3, rfl, s3, ha4⟩ := ha3.uncons
 obtain ⟨b3, rfl⟩ := s3.of_int
 obtain ⟨u4, l4, rfl, s4, ha5⟩ := ha4.uncons
 obtain ⟨b4, rfl⟩ := s4.of_int
 have hn := ha5.unnil
 subst hn
 exact ⟨b0, b1, b2, b3, b4, rfl⟩
theorem ShAck.of_M {w : World} {base : Nat} {ok : Nat → Prop} {x : S53} {cs : List Value} (h : k53.M w base ok x cs) : ShAck w x cs := by
 have hk := k53_open (k53.K_of_M h)
 exact ⟨_, _, _, _, _, hk⟩
set_option maxHeartbeats 8000000 in
set_option maxRecDepth 100000 in
theorem markAck_sh (w0 w : World) (P : Nat → Prop) (v : Value) (l : List S53) (a : Int) (ha0 : 0 ≤ a) (htot : a + sumTo mtAck l l.length ≤ 281474976710656) (hlen : l.length ≤ 281474976710656) (hP : ∀ k, P k → w0.heap.size ≤ k) (hB : Below w0.heap.size w0 w) (hf : ∀ y ∈ l, True) (hs : ShRow P 53 5 ShAck w v l) :
 Calls Tryz.prog 40 #[v, .int .i64 a] w fun e w' => ∃ b', e = .returned (.int .i64 b') ∧ b' = a + sumTo mtAck l l.length ∧ Scrib w0 P w w' := by
 obtain ⟨A1, c1, hv⟩ := hs.slice
 subst hv
 have HS := Aside0.mk hs
 have HA := Aside0.mk ha0
 have HT := Aside0.mk htot
 have HLEN := Aside0.mk hlen
 have HPP := Aside0.mk hP
 have HB := Aside0.mk hB
 have HFT := Aside0.mk hf
 clear hs ha0 htot hlen hP hB hf
 go_enter Tryz.func40, Tryz.ntmps40
 go_wp2
 go_loopg [1, 5] l.length (fun gk v1 v5 w' => ∃ (i : Nat) (b : Int), v1 = .int .i64 b ∧ v5 = .int .i64 (i : Nat) ∧ Aside0 (b = a + sumTo mtAck l i) ∧ Aside0 (gk + i = l.length) ∧ Aside0 (Scrib w0 P w w'))
 case atStart => exact ⟨0, a, rfl, rfl, ⟨by rw [sumTo_zero]; omega⟩, ⟨by omega⟩, ⟨Scrib.refl P HB.out⟩⟩
 case round =>
  obtain ⟨i, b, rfl, rfl, HBE, HG, HSC⟩ := hrel
  by_cases hlt : i < l.length
  ·as_aux_lemma =>
   obtain ⟨k1, hk1⟩ : ∃ m, gk = m + 1 := ⟨gk - 1, by have := HG.out; omega⟩
   subst hk1
   have HLT := Aside0.mk hlt
   obtain ⟨x, hx⟩ : ∃ x, x = l[i] := ⟨_, rfl⟩
   have HXL := Aside0.mk hx
   have HLX := Aside0.mk (show True from trivial)
   have HTK := Aside0.mk (show sumTo mtAck l (i + 1) = sumTo mtAck l i + mtAck x by rw [sumTo_succ _ l i hlt, ← hx])
   have HTOT := Aside0.mk (show b + (mtAck x : Nat) ≤ 281474976710656 by have h1 := sumTo_le mtAck l (i + 1); have h2 := HTK.out; have h3 := HBE.out; have h4 := HT.out; omega)
   have HMT := Aside0.mk (show mtAck x = 5 from rfl)
   have HB0 := Aside0.mk (show 0 ≤ b by have := HBE.out; have := HA.out; omega)
   clear hx
   obtain ⟨g, cur, cs, hA, hPg, hbk, hcl, hD, hcc, hfr⟩ := ShRow.elem (HS.out.scrib (ShAck.stable P) HSC.out) i HLT.out
   subst hA
   rw [← HXL.out] at hD
   obtain ⟨a0, a1, a2, a3, a4, rfl⟩ := hD
   have Q0 := Aside0.mk (hcc 0 _ rfl)
   rw [Nat.add_zero] at Q0
   have Q1 := Aside0.mk (hcc 1 _ rfl)
   have Q2 := Aside0.mk (hcc 2 _ rfl)
   have Q3 := Aside0.mk (hcc 3 _ rfl)
   have Q4 := Aside0.mk (hcc 4 _ rfl)
   have HPG := Aside0.mk hPg
   have HBK := Aside0.mk hbk
   have SEG := Aside0.mk (Scrib.refl P HSC.out.below)
   clear hPg hbk hcl hcc hfr
   have hb0 : 0 ≤ b := HB0.out
   have hb2 : b + 5 ≤ 281474976710656 := by have := HTOT.out; have := HMT.out; have := HB0.out; omega
   go_wp2_with (first | ((with_reducible refine gate_store (t := 3) (p := 16) rfl ?_); obtain ⟨u, hu1, hu2⟩ := SEG.out.cell HPG.out HBK.out Q0.out; obtain ⟨z, hz⟩ := hu2.of_int; subst hz; obtain ⟨cur1, hb1, _, _⟩ := SEG.out.cells _ _ _ HPG.out HBK.out; refine wpList_mark rfl rfl 3 (.tmp 16) _ rfl (g := g) (j := i * 5) rfl rfl isz_3 rfl rfl hb1 hu1 (.int _ _ _) SEG.out.below HPG.out (HPP.out _ HPG.out) ?_; intro W' hW'; replace SEG := Aside0.mk (SEG.out.trans hW'); clear hu1 hu2 hb1 hW') | ((with_reducible refine gate_store (t := 3) (p := 23) rfl ?_); obtain ⟨u, hu1, hu2⟩ := SEG.out.cell HPG.out HBK.out Q1.out; obtain ⟨z, hz⟩ := hu2.of_int; subst hz; obtain ⟨cur1, hb1, _, _⟩ := SEG.out.cells _ _ _ HPG.out HBK.out; refine wpList_mark rfl rfl 3 (.tmp 23) _ rfl (g := g) (j := i * 5 + 1) rfl rfl isz_3 rfl rfl hb1 hu1 (.int _ _ _) SEG.out.below HPG.out (HPP.out _ HPG.out) ?_; intro W' hW'; replace SEG := Aside0.mk (SEG.out.trans hW'); clear hu1 hu2 hb1 hW') | ((with_reducible refine gate_store (t := 3) (p := 30) rfl ?_); obtain ⟨u, hu1, hu2⟩ := SEG.out.cell HPG.out HBK.out Q2.out; obtain ⟨z, hz⟩ := hu2.of_int; subst hz; obtain ⟨cur1, hb1, _, _⟩ := SEG.out.cells _ _ _ HPG.out HBK.out; refine wpList_mark rfl rfl 3 (.tmp 30) _ rfl (g := g) (j := i * 5 + 2) rfl rfl isz_3 rfl rfl hb1 hu1 (.int _ _ _) SEG.out.below HPG.out (HPP.out _ HPG.out) ?_; intro W' hW'; replace SEG := Aside0.mk (SEG.out.trans hW'); clear hu1 hu2 hb1 hW') | ((with_reducible refine gate_store (t := 3) (p := 37) rfl ?_); obtain ⟨u, hu1, hu2⟩ := SEG.out.cell HPG.out HBK.out Q3.out; obtain ⟨z, hz⟩ := hu2.of_int; subst hz; obtain ⟨cur1, hb1, _, _⟩ := SEG.out.cells _ _ _ HPG.out HBK.out; refine wpList_mark rfl rfl 3 (.tmp 37) _ rfl (g := g) (j := i * 5 + 3) rfl rfl isz_3 rfl rfl hb1 hu1 (.int _ _ _) SEG.out.below HPG.out (HPP.out _ HPG.out) ?_; intro W' hW'; replace SEG := Aside0.mk (SEG.out.trans hW'); clear hu1 hu2 hb1 hW') | ((with_reducible refine gate_store (t := 3) (p := 44) rfl ?_); obtain ⟨u, hu1, hu2⟩ := SEG.out.cell HPG.out HBK.out Q4.out; obtain ⟨z, hz⟩ := hu2.of_int; subst hz; obtain ⟨cur1, hb1, _, _⟩ := SEG.out.cells _ _ _ HPG.out HBK.out; refine wpList_mark rfl rfl 3 (.tmp 44) _ rfl (g := g) (j := i * 5 + 4) rfl rfl isz_3 rfl rfl hb1 hu1 (.int _ _ _) SEG.out.below HPG.out (HPP.out _ HPG.out) ?_; intro W' hW'; replace SEG := Aside0.mk (SEG.out.trans hW'); clear hu1 hu2 hb1 hW'))
   go_roundg k1
   case measure => omega
   case rel => exact ⟨i + 1, b + 1 + 1 + 1 + 1 + 1, rfl, by rw [w64n (by have := HLEN.out; have := HLT.out; omega)], ⟨by have := HBE.out; have := HTK.out; have := HMT.out; omega⟩, ⟨by have := HG.out; omega⟩, ⟨HSC.out.trans SEG.out⟩⟩
  ·as_aux_lemma =>
   have hi : i = l.length := by have := HG.out; omega
   have HF := Aside0.mk (show b = a + sumTo mtAck l l.length by have := HBE.out; rwa [hi] at this)
   have tlt : decide (i < l.length) = false := decide_eq_false hlt
   clear hlt hi
   go_wp2
   go_ret
   exact ⟨b, rfl, HF.out, HSC.out⟩
def mtMessage (x : S129) : Nat := 8 + sumTo mtEntry x.f8 x.f8.length + x.f9.length
def ShMessage (P : Nat → Prop) (w : World) (x : S129) (cs : List Value) : Prop := ∃ (a0 : Int) (a1 : Int) (a2 : Int) (a3 : Int) (a4 : Int) (a5 : Int) (a6 : Int) (a7 : Bool) (v8 : Value) (v9 : Value), cs = [.int .i64 a0, .int .i64 a1, .int .i64 a2, .int .i64 a3, .int .i64 a4, .int .i64 a5, .int .i64 a6, .bool a7, v8, v9] ∧ ShRow P 158 2 (ShEntry P) w v8 x.f8 ∧ ShRow P 5 1 ShByte w v9 x.f9
theorem ShMessage.stable (P : Nat → Prop) : Stable P (ShMessage P) := by
 rintro w0 w W x cs cs' hS ha0 ⟨a0, a1, a2, a3, a4, a5, a6, a7, v8, v9, rfl, h8, h9⟩
 obtain ⟨u0, l0, rfl, s0, ha1⟩ := ha0.uncons
 obtain ⟨b0, rfl⟩ := s0.of_int
 obtain ⟨u1, l1, rfl, s1, ha2⟩ := ha1.uncons
 obtain ⟨b1, rfl⟩ := s1.of_int
 obtain ⟨u2, l2, rfl, s2, ha3⟩ := ha2.uncons
 obtain ⟨b2, rfl⟩ := s2.of_int
 obtain ⟨u3, l3, rfl, s3, ha4⟩ := ha3.uncons
 obtain ⟨b3, rfl⟩ := s3.of_int
 obtain ⟨u4, l4, rfl, s4, ha5⟩ := ha4.uncons
 obtain ⟨b4, rfl⟩ := s4.of_int
 obtain ⟨u5, l5, rfl, s5, ha6⟩ := ha5.uncons
 obtain ⟨b5, rfl⟩ := s5.of_int
 obtain ⟨u6, l6, rfl, s6, ha7⟩ := ha6.uncons
 obtain ⟨b6, rfl⟩ := s6.of_int
 obtain ⟨u7, l7, rfl, s7, ha8⟩ := ha7.uncons
 obtain ⟨b7, rfl⟩ := s7.of_bool
 obtain ⟨u8, l8, rfl, s8, ha9⟩ := ha8.uncons
 obtain ⟨A8, c8, e8⟩ := h8.slice
 subst e8
 have t8 := s8.of_slice
 subst t8
 obtain ⟨u9, l9, rfl, s9, ha10⟩ := ha9.uncons
 obtain ⟨A9, c9, e9⟩ := h9.slice
 subst e9
 have t9 := s9.of_slice
 subst t9
 have hn := ha10.unnil
 subst hn
 exact ⟨b0, b1, b2, b3, b4, b5, b6, b7, _, _, rfl, h8.scrib (ShEntry.stable P) hS, h9.scrib (ShByte.stable P) hS⟩
theorem ShMessage.of_M {w : World} {base : Nat} {ok P : Nat → Prop} {x : S129} {cs : List Value} (hok : ∀ k, ok k → P k) (h : k129.M w base ok x cs) : ShMessage P w x cs := by
 obtain ⟨v8, v9, hc, h8, h9⟩ := k129_openM h
 subst hc
 exact ⟨_, _, _, _, _, _, _, _, _, _, rfl, ShRow.of_R h8 hok (fun _ _ h => ShEntry.of_M hok h), ShRow.bytes h9 hok⟩
set_option maxHeartbeats 8000000 in
set_option maxRecDepth 100000 in
theorem markMessage_sh (w0 w : World) (P : Nat → Prop) (v : Value) (l : List S129) (a : Int) (ha0 : 0 ≤ a) (htot : a + sumTo mtMessage l l.length ≤ 281474976710656) (hlen : l.length ≤ 281474976710656) (hP : ∀ k, P k → w0.heap.size ≤ k) (hB : Below w0.heap.size w0 w) (hf : ∀ y ∈ l, MessageLim y) (hs : ShRow P 129 10 (ShMessage P) w v l) :
 Calls Tryz.prog 41 #[v, .int .i64 a] w fun e w' => ∃ b', e = .returned (.int .i64 b') ∧ b' = a + sumTo mtMessage l l.length ∧ Scrib w0 P w w' := by
 obtain ⟨A1, c1, hv⟩ := hs.slice
 subst hv
 have HS := Aside0.mk hs
 have HA := Aside0.mk ha0
 have HT := Aside0.mk htot
 have HLEN := Aside0.mk hlen
 have HPP := Aside0.mk hP
 have HB := Aside0.mk hB
 have HFT := Aside0.mk hf
 clear hs ha0 htot hlen hP hB hf
 go_enter Tryz.func41, Tryz.ntmps41
 go_wp2
 go_loopg [1, 5] l.length (fun gk v1 v5 w' => ∃ (i : Nat) (b : Int), v1 = .int .i64 b ∧ v5 = .int .i64 (i : Nat) ∧ Aside0 (b = a + sumTo mtMessage l i) ∧ Aside0 (gk + i = l.length) ∧ Aside0 (Scrib w0 P w w'))
 case atStart => exact ⟨0, a, rfl, rfl, ⟨by rw [sumTo_zero]; omega⟩, ⟨by omega⟩, ⟨Scrib.refl P HB.out⟩⟩
 case round =>
  obtain ⟨i, b, rfl, rfl, HBE, HG, HSC⟩ := hrel
  by_cases hlt : i < l.length
  ·as_aux_lemma =>
   obtain ⟨k1, hk1⟩ : ∃ m, gk = m + 1 := ⟨gk - 1, by have := HG.out; omega⟩
   subst hk1
   have HLT := Aside0.mk hlt
   obtain ⟨x, hx⟩ : ∃ x, x = l[i] := ⟨_, rfl⟩
   have HXL := Aside0.mk hx
   have HLX := Aside0.mk (show MessageLim x from by have := HFT.out l[i] (List.getElem_mem hlt); rwa [← hx] at this)
   have HTK := Aside0.mk (show sumTo mtMessage l (i + 1) = sumTo mtMessage l i + mtMessage x by rw [sumTo_succ _ l i hlt, ← hx])
   have HTOT := Aside0.mk (show b + (mtMessage x : Nat) ≤ 281474976710656 by have h1 := sumTo_le mtMessage l (i + 1); have h2 := HTK.out; have h3 := HBE.out; have h4 := HT.out; omega)
   have HMT := Aside0.mk (show mtMessage x = 8 + sumTo mtEntry x.f8 x.f8.length + x.f9.length from rfl)
   have HB0 := Aside0.mk (show 0 ≤ b by have := HBE.out; have := HA.out; omega)
   clear hx
   obtain ⟨g, cur, cs, hA, hPg, hbk, hcl, hD, hcc, hfr⟩ := ShRow.elem (HS.out.scrib (ShMessage.stable P) HSC.out) i HLT.out
   subst hA
   rw [← HXL.out] at hD
   obtain ⟨a0, a1, a2, a3, a4, a5, a6, a7, v8, v9, rfl, h8, h9⟩ := hD
   obtain ⟨A8, c8, e8⟩ := h8.slice
   subst e8
   obtain ⟨A9, c9, e9⟩ := h9.slice
   subst e9
   have Q0 := Aside0.mk (hcc 0 _ rfl)
   rw [Nat.add_zero] at Q0
   have Q1 := Aside0.mk (hcc 1 _ rfl)
   have Q2 := Aside0.mk (hcc 2 _ rfl)
   have Q3 := Aside0.mk (hcc 3 _ rfl)
   have Q4 := Aside0.mk (hcc 4 _ rfl)
   have Q5 := Aside0.mk (hcc 5 _ rfl)
   have Q6 := Aside0.mk (hcc 6 _ rfl)
   have Q7 := Aside0.mk (hcc 7 _ rfl)
   have Q8 := Aside0.mk (hcc 8 _ rfl)
   have HPG := Aside0.mk hPg
   have HBK := Aside0.mk hbk
   have HR8 := Aside0.mk h8
   have SEG := Aside0.mk (Scrib.refl P HSC.out.below)
   clear hPg hbk hcl hcc hfr h8 h9
   have hb0 : 0 ≤ b := HB0.out
   have hb2 : b + 8 ≤ 281474976710656 := by have := HTOT.out; have := HMT.out; have := HB0.out; omega
   go_wp2_with (first | ((with_reducible refine gate_store (t := 3) (p := 16) rfl ?_); obtain ⟨u, hu1, hu2⟩ := SEG.out.cell HPG.out HBK.out Q0.out; obtain ⟨z, hz⟩ := hu2.of_int; subst hz; obtain ⟨cur1, hb1, _, _⟩ := SEG.out.cells _ _ _ HPG.out HBK.out; refine wpList_mark rfl rfl 3 (.tmp 16) _ rfl (g := g) (j := i * 10) rfl rfl isz_3 rfl rfl hb1 hu1 (.int _ _ _) SEG.out.below HPG.out (HPP.out _ HPG.out) ?_; intro W' hW'; replace SEG := Aside0.mk (SEG.out.trans hW'); clear hu1 hu2 hb1 hW') | ((with_reducible refine gate_store (t := 3) (p := 23) rfl ?_); obtain ⟨u, hu1, hu2⟩ := SEG.out.cell HPG.out HBK.out Q1.out; obtain ⟨z, hz⟩ := hu2.of_int; subst hz; obtain ⟨cur1, hb1, _, _⟩ := SEG.out.cells _ _ _ HPG.out HBK.out; refine wpList_mark rfl rfl 3 (.tmp 23) _ rfl (g := g) (j := i * 10 + 1) rfl rfl isz_3 rfl rfl hb1 hu1 (.int _ _ _) SEG.out.below HPG.out (HPP.out _ HPG.out) ?_; intro W' hW'; replace SEG := Aside0.mk (SEG.out.trans hW'); clear hu1 hu2 hb1 hW') | ((with_reducible refine gate_store (t := 3) (p := 30) rfl ?_); obtain ⟨u, hu1, hu2⟩ := SEG.out.cell HPG.out HBK.out Q2.out; obtain ⟨z, hz⟩ := hu2.of_int; subst hz; obtain ⟨cur1, hb1, _, _⟩ := SEG.out.cells _ _ _ HPG.out HBK.out; refine wpList_mark rfl rfl 3 (.tmp 30) _ rfl (g := g) (j := i * 10 + 2) rfl rfl isz_3 rfl rfl hb1 hu1 (.int _ _ _) SEG.out.below HPG.out (HPP.out _ HPG.out) ?_; intro W' hW'; replace SEG := Aside0.mk (SEG.out.trans hW'); clear hu1 hu2 hb1 hW') | ((with_reducible refine gate_store (t := 3) (p := 37) rfl ?_); obtain ⟨u, hu1, hu2⟩ := SEG.out.cell HPG.out HBK.out Q3.out; obtain ⟨z, hz⟩ := hu2.of_int; subst hz; obtain ⟨cur1, hb1, _, _⟩ := SEG.out.cells _ _ _ HPG.out HBK.out; refine wpList_mark rfl rfl 3 (.tmp 37) _ rfl (g := g) (j := i * 10 + 3) rfl rfl isz_3 rfl rfl hb1 hu1 (.int _ _ _) SEG.out.below HPG.out (HPP.out _ HPG.out) ?_; intro W' hW'; replace SEG := Aside0.mk (SEG.out.trans hW'); clear hu1 hu2 hb1 hW') | ((with_reducible refine gate_store (t := 3) (p := 44) rfl ?_); obtain ⟨u, hu1, hu2⟩ := SEG.out.cell HPG.out HBK.out Q4.out; obtain ⟨z, hz⟩ := hu2.of_int; subst hz; obtain ⟨cur1, hb1, _, _⟩ := SEG.out.cells _ _ _ HPG.out HBK.out; refine wpList_mark rfl rfl 3 (.tmp 44) _ rfl (g := g) (j := i * 10 + 4) rfl rfl isz_3 rfl rfl hb1 hu1 (.int _ _ _) SEG.out.below HPG.out (HPP.out _ HPG.out) ?_; intro W' hW'; replace SEG := Aside0.mk (SEG.out.trans hW'); clear hu1 hu2 hb1 hW') | ((with_reducible refine gate_store (t := 3) (p := 51) rfl ?_); obtain ⟨u, hu1, hu2⟩ := SEG.out.cell HPG.out HBK.out Q5.out; obtain ⟨z, hz⟩ := hu2.of_int; subst hz; obtain ⟨cur1, hb1, _, _⟩ := SEG.out.cells _ _ _ HPG.out HBK.out; refine wpList_mark rfl rfl 3 (.tmp 51) _ rfl (g := g) (j := i * 10 + 5) rfl rfl isz_3 rfl rfl hb1 hu1 (.int _ _ _) SEG.out.below HPG.out (HPP.out _ HPG.out) ?_; intro W' hW'; replace SEG := Aside0.mk (SEG.out.trans hW'); clear hu1 hu2 hb1 hW') | ((with_reducible refine gate_store (t := 3) (p := 58) rfl ?_); obtain ⟨u, hu1, hu2⟩ := SEG.out.cell HPG.out HBK.out Q6.out; obtain ⟨z, hz⟩ := hu2.of_int; subst hz; obtain ⟨cur1, hb1, _, _⟩ := SEG.out.cells _ _ _ HPG.out HBK.out; refine wpList_mark rfl rfl 3 (.tmp 58) _ rfl (g := g) (j := i * 10 + 6) rfl rfl isz_3 rfl rfl hb1 hu1 (.int _ _ _) SEG.out.below HPG.out (HPP.out _ HPG.out) ?_; intro W' hW'; replace SEG := Aside0.mk (SEG.out.trans hW'); clear hu1 hu2 hb1 hW') | ((with_reducible refine gate_store (t := 4) (p := 67) rfl ?_); obtain ⟨u, hu1, hu2⟩ := SEG.out.cell HPG.out HBK.out Q7.out; obtain ⟨z, hz⟩ := hu2.of_bool; subst hz; obtain ⟨cur1, hb1, _, _⟩ := SEG.out.cells _ _ _ HPG.out HBK.out; refine wpList_mark rfl rfl 4 (.tmp 67) _ rfl (g := g) (j := i * 10 + 7) rfl rfl isz_4 rfl rfl hb1 hu1 (.bool _ _) SEG.out.below HPG.out (HPP.out _ HPG.out) ?_; intro W' hW'; replace SEG := Aside0.mk (SEG.out.trans hW'); clear hu1 hu2 hb1 hW'; have qc := SEG.out.slice HPG.out HBK.out Q8.out))
   refine (markEntry_sh w0 _ P _ x.f8 (b + 1 + 1 + 1 + 1 + 1 + 1 + 1 + 1) ?p1 ?p2 ?p3 HPP.out ?pB ?p4 ?pS).mono ?_
   case p3 => exact HLX.out.2.1.1
   case p4 => exact HLX.out.2.1.2
   case p1 => have := HB0.out; omega
   case p2 => have := HTOT.out; have := HMT.out; have := HB0.out; omega
   case pB => exact SEG.out.below
   case pS => exact HR8.out.scrib (ShEntry.stable P) SEG.out
   rintro e w0_ ⟨b0, rfl, hb, hsc⟩
   replace HSC := Aside0.mk (HSC.out.trans (SEG.out.trans hsc))
   have HBN0 := Aside0.mk hb
   replace HB0 := Aside0.mk (show 0 ≤ b0 by have := HB0.out; have := HBN0.out; omega)
   clear hb hsc hb0 hb2 SEG qc HPG HBK HR8 Q0 Q1 Q2 Q3 Q4 Q5 Q6 Q7 Q8
   obtain ⟨g, cur, cs, hA, hPg, hbk, hcl, hD, hcc, hfr⟩ := ShRow.elem (HS.out.scrib (ShMessage.stable P) HSC.out) i HLT.out
   injection hA with hA
   injection hA with hA _ _
   subst hA
   rw [← HXL.out] at hD
   obtain ⟨a0, a1, a2, a3, a4, a5, a6, a7, v8, v9, rfl, h8, h9⟩ := hD
   obtain ⟨A8, c8, e8⟩ := h8.slice
   subst e8
   obtain ⟨A9, c9, e9⟩ := h9.slice
   subst e9
   have Q9 := Aside0.mk (hcc 9 _ rfl)
   have HPG := Aside0.mk hPg
   have HBK := Aside0.mk hbk
   have HR9 := Aside0.mk h9
   have SEG := Aside0.mk (Scrib.refl P HSC.out.below)
   clear hPg hbk hcl hcc hfr h8 h9
   have hb0 : 0 ≤ b0 := HB0.out
   have hb2 : b0 + 0 ≤ 281474976710656 := by have := HTOT.out; have := HMT.out; have := HB0.out; have := HBN0.out; omega
   have qc := SEG.out.slice HPG.out HBK.out Q9.out
   go_wp2_with fail
   refine (markByte_sh w0 _ P _ x.f9 (b0) ?p1 ?p2 HPP.out ?pB ?pS).mono ?_
   case p1 => have := HB0.out; omega
   case p2 => have := HTOT.out; have := HMT.out; have := HB0.out; have := HBN0.out; omega
   case pB => exact SEG.out.below
   case pS => exact HR9.out.scrib (ShByte.stable P) SEG.out
   rintro e w1_ ⟨b1, rfl, hb, hsc⟩
   replace HSC := Aside0.mk (HSC.out.trans (SEG.out.trans hsc))
   have HBN1 := Aside0.mk hb
   replace HB0 := Aside0.mk (show 0 ≤ b1 by have := HB0.out; have := HBN1.out; omega)
   clear hb hsc hb0 hb2 SEG qc HPG HBK HR9 Q9
   go_wp2_with fail
   go_roundg k1
   case measure => omega
   case rel => exact ⟨i + 1, b1, rfl, by rw [w64n (by have := HLEN.out; have := HLT.out; omega)], ⟨by have := HBE.out; have := HTK.out; have := HMT.out; have := HBN0.out; have := HBN1.out; omega⟩, ⟨by have := HG.out; omega⟩, ⟨HSC.out⟩⟩
  ·as_aux_lemma =>
   have hi : i = l.length := by have := HG.out; omega
   have HF := Aside0.mk (show b = a + sumTo mtMessage l l.length by have := HBE.out; rwa [hi] at this)
   have tlt : decide (i < l.length) = false := decide_eq_false hlt
   clear hlt hi
   go_wp2
   go_ret
   exact ⟨b, rfl, HF.out, HSC.out⟩
def mtObs (x : S50) : Nat := 13 + x.f2.f2.length + sumTo mtItem x.f3.f1 x.f3.f1.length + sumTo mtSession x.f3.f2 x.f3.f2.length + sumTo mtAck x.f4 x.f4.length + sumTo mtMessage x.f5 x.f5.length
def ShObs (P : Nat → Prop) (w : World) (x : S50) (cs : List Value) : Prop := ∃ (a0 : Int) (a1 : Int) (a2 : Int) (a3 : Int) (v4 : Value) (a5 : Int) (v6 : Value) (v7 : Value) (v8 : Value) (v9 : Value) (a10 : Int) (a11 : Int) (a12 : Int) (a13 : Int) (a14 : Int) (a15 : Int) (a16 : Int) (a17 : Int), cs = [.int .i64 a0, .int .i64 a1, .int .i64 a2, .int .i64 a3, v4, .int .i64 a5, v6, v7, v8, v9, .int .i64 a10, .int .i64 a11, .int .i64 a12, .int .i64 a13, .int .i64 a14, .int .i64 a15, .int .i64 a16, .int .i64 a17] ∧ ShRow P 5 1 ShByte w v4 x.f2.f2 ∧ ShRow P 40 3 (ShItem P) w v6 x.f3.f1 ∧ ShRow P 126 4 (ShSession P) w v7 x.f3.f2 ∧ ShRow P 53 5 ShAck w v8 x.f4 ∧ ShRow P 129 10 (ShMessage P) w v9 x.f5
theorem ShObs.stable (P : Nat → Prop) : Stable P (ShObs P) := by
 rintro w0 w W x cs cs' hS ha0 ⟨a0, a1, a2, a3, v4, a5, v6, v7, v8, v9, a10, a11, a12, a13, a14, a15, a16, a17, rfl, h4, h6, h7, h8, h9⟩
 obtain ⟨u0, l0, rfl, s0, ha1⟩ := ha0.uncons
 obtain ⟨b0, rfl⟩ := s0.of_int
 obtain ⟨u1, l1, rfl, s1, ha2⟩ := ha1.uncons
 obtain ⟨b1, rfl⟩ := s1.of_int
 obtain ⟨u2, l2, rfl, s2, ha3⟩ := ha2.uncons
 obtain ⟨b2, rfl⟩ := s2.of_int
 obtain ⟨u3, l3, rfl, s3, ha4⟩ := ha3.uncons
 obtain ⟨b3, rfl⟩ := s3.of_int
 obtain ⟨u4, l4, rfl, s4, ha5⟩ := ha4.uncons
 obtain ⟨A4, c4, e4⟩ := h4.slice
 subst e4
 have t4 := s4.of_slice
 subst t4
 obtain ⟨u5, l5, rfl, s5, ha6⟩ := ha5.uncons
 obtain ⟨b5, rfl⟩ := s5.of_int
 obtain ⟨u6, l6, rfl, s6, ha7⟩ := ha6.uncons
 obtain ⟨A6, c6, e6⟩ := h6.slice
 subst e6
 have t6 := s6.of_slice
 subst t6
 obtain ⟨u7, l7, rfl, s7, ha8⟩ := ha7.uncons
 obtain ⟨A7, c7, e7⟩ := h7.slice
 subst e7
 have t7 := s7.of_slice
 subst t7
 obtain ⟨u8, l8, rfl, s8, ha9⟩ := ha8.uncons
 obtain ⟨A8, c8, e8⟩ := h8.slice
 subst e8
 have t8 := s8.of_slice
 subst t8
 obtain ⟨u9, l9, rfl, s9, ha10⟩ := ha9.uncons
 obtain ⟨A9, c9, e9⟩ := h9.slice
 subst e9
 have t9 := s9.of_slice
 subst t9
 obtain ⟨u10, l10, rfl, s10, ha11⟩ := ha10.uncons
 obtain ⟨b10, rfl⟩ := s10.of_int
 obtain ⟨u11, l11, rfl, s11, ha12⟩ := ha11.uncons
 obtain ⟨b11, rfl⟩ := s11.of_int
 obtain ⟨u12, l12, rfl, s12, ha13⟩ := ha12.uncons
 obtain ⟨b12, rfl⟩ := s12.of_int
 obtain ⟨u13, l13, rfl, s13, ha14⟩ := ha13.uncons
 obtain ⟨b13, rfl⟩ := s13.of_int
 obtain ⟨u14, l14, rfl, s14, ha15⟩ := ha14.uncons
 obtain ⟨b14, rfl⟩ := s14.of_int
 obtain ⟨u15, l15, rfl, s15, ha16⟩ := ha15.uncons
 obtain ⟨b15, rfl⟩ := s15.of_int
 obtain ⟨u16, l16, rfl, s16, ha17⟩ := ha16.uncons
 obtain ⟨b16, rfl⟩ := s16.of_int
 obtain ⟨u17, l17, rfl, s17, ha18⟩ := ha17.uncons
 obtain ⟨b17, rfl⟩ := s17.of_int
 have hn := ha18.unnil
 subst hn
 exact ⟨b0, b1, b2, b3, _, b5, _, _, _, _, b10, b11, b12, b13, b14, b15, b16, b17, rfl, h4.scrib (ShByte.stable P) hS, h6.scrib (ShItem.stable P) hS, h7.scrib (ShSession.stable P) hS, h8.scrib (ShAck.stable P) hS, h9.scrib (ShMessage.stable P) hS⟩
theorem ShObs.of_M {w : World} {base : Nat} {ok P : Nat → Prop} {x : S50} {cs : List Value} (hok : ∀ k, ok k → P k) (h : k50.M w base ok x cs) : ShObs P w x cs := by
 obtain ⟨v4, v6, v7, v8, v9, hc, h4, h6, h7, h8, h9⟩ := k50_openM h
 subst hc
 exact ⟨_, _, _, _, _, _, _, _, _, _, _, _, _, _, _, _, _, _, rfl, ShRow.bytes h4 hok, ShRow.of_R h6 hok (fun _ _ h => ShItem.of_M hok h), ShRow.of_R h7 hok (fun _ _ h => ShSession.of_M hok h), ShRow.of_R h8 hok (fun _ _ h => ShAck.of_M h), ShRow.of_R h9 hok (fun _ _ h => ShMessage.of_M hok h)⟩
set_option maxHeartbeats 8000000 in
set_option maxRecDepth 100000 in
theorem markObs_sh (w0 w : World) (P : Nat → Prop) (v : Value) (l : List S50) (a : Int) (ha0 : 0 ≤ a) (htot : a + sumTo mtObs l l.length ≤ 281474976710656) (hlen : l.length ≤ 281474976710656) (hP : ∀ k, P k → w0.heap.size ≤ k) (hB : Below w0.heap.size w0 w) (hf : ∀ y ∈ l, ObsLim y) (hs : ShRow P 50 18 (ShObs P) w v l) :
 Calls Tryz.prog 26 #[v, .int .i64 a] w fun e w' => ∃ b', e = .returned (.int .i64 b') ∧ b' = a + sumTo mtObs l l.length ∧ Scrib w0 P w w' := by
 obtain ⟨A1, c1, hv⟩ := hs.slice
 subst hv
 have HS := Aside0.mk hs
 have HA := Aside0.mk ha0
 have HT := Aside0.mk htot
 have HLEN := Aside0.mk hlen
 have HPP := Aside0.mk hP
 have HB := Aside0.mk hB
 have HFT := Aside0.mk hf
 clear hs ha0 htot hlen hP hB hf
 go_enter Tryz.func26, Tryz.ntmps26
 go_wp2
 go_loopg [1, 5] l.length (fun gk v1 v5 w' => ∃ (i : Nat) (b : Int), v1 = .int .i64 b ∧ v5 = .int .i64 (i : Nat) ∧ Aside0 (b = a + sumTo mtObs l i) ∧ Aside0 (gk + i = l.length) ∧ Aside0 (Scrib w0 P w w'))
 case atStart => exact ⟨0, a, rfl, rfl, ⟨by rw [sumTo_zero]; omega⟩, ⟨by omega⟩, ⟨Scrib.refl P HB.out⟩⟩
 case round =>
  obtain ⟨i, b, rfl, rfl, HBE, HG, HSC⟩ := hrel
  by_cases hlt : i < l.length
  ·as_aux_lemma =>
   obtain ⟨k1, hk1⟩ : ∃ m, gk = m + 1 := ⟨gk - 1, by have := HG.out; omega⟩
   subst hk1
   have HLT := Aside0.mk hlt
   obtain ⟨x, hx⟩ : ∃ x, x = l[i] := ⟨_, rfl⟩
   have HXL := Aside0.mk hx
   have HLX := Aside0.mk (show ObsLim x from by have := HFT.out l[i] (List.getElem_mem hlt); rwa [← hx] at this)
   have HTK := Aside0.mk (show sumTo mtObs l (i + 1) = sumTo mtObs l i + mtObs x by rw [sumTo_succ _ l i hlt, ← hx])
   have HTOT := Aside0.mk (show b + (mtObs x : Nat) ≤ 281474976710656 by have h1 := sumTo_le mtObs l (i + 1); have h2 := HTK.out; have h3 := HBE.out; have h4 := HT.out; omega)
   have HMT := Aside0.mk (show mtObs x = 13 + x.f2.f2.length + sumTo mtItem x.f3.f1 x.f3.f1.length + sumTo mtSession x.f3.f2 x.f3.f2.length + sumTo mtAck x.f4 x.f4.length + sumTo mtMessage x.f5 x.f5.length from rfl)
   have HB0 := Aside0.mk (show 0 ≤ b by have := HBE.out; have := HA.out; omega)
   clear hx
   obtain ⟨g, cur, cs, hA, hPg, hbk, hcl, hD, hcc, hfr⟩ := ShRow.elem (HS.out.scrib (ShObs.stable P) HSC.out) i HLT.out
   subst hA
   rw [← HXL.out] at hD
   obtain ⟨a0, a1, a2, a3, v4, a5, v6, v7, v8, v9, a10, a11, a12, a13, a14, a15, a16, a17, rfl, h4, h6, h7, h8, h9⟩ := hD
   obtain ⟨A4, c4, e4⟩ := h4.slice
   subst e4
   obtain ⟨A6, c6, e6⟩ := h6.slice
   subst e6
   obtain ⟨A7, c7, e7⟩ := h7.slice
   subst e7
   obtain ⟨A8, c8, e8⟩ := h8.slice
   subst e8
   obtain ⟨A9, c9, e9⟩ := h9.slice
   subst e9
   have Q0 := Aside0.mk (hcc 0 _ rfl)
   rw [Nat.add_zero] at Q0
   have Q1 := Aside0.mk (hcc 1 _ rfl)
   have Q2 := Aside0.mk (hcc 2 _ rfl)
   have Q3 := Aside0.mk (hcc 3 _ rfl)
   have Q4 := Aside0.mk (hcc 4 _ rfl)
   have HPG := Aside0.mk hPg
   have HBK := Aside0.mk hbk
   have HR4 := Aside0.mk h4
   have SEG := Aside0.mk (Scrib.refl P HSC.out.below)
   clear hPg hbk hcl hcc hfr h4 h6 h7 h8 h9
   have hb0 : 0 ≤ b := HB0.out
   have hb2 : b + 4 ≤ 281474976710656 := by have := HTOT.out; have := HMT.out; have := HB0.out; omega
   go_wp2_with (first | ((with_reducible refine gate_store (t := 3) (p := 16) rfl ?_); obtain ⟨u, hu1, hu2⟩ := SEG.out.cell HPG.out HBK.out Q0.out; obtain ⟨z, hz⟩ := hu2.of_int; subst hz; obtain ⟨cur1, hb1, _, _⟩ := SEG.out.cells _ _ _ HPG.out HBK.out; refine wpList_mark rfl rfl 3 (.tmp 16) _ rfl (g := g) (j := i * 18) rfl rfl isz_3 rfl rfl hb1 hu1 (.int _ _ _) SEG.out.below HPG.out (HPP.out _ HPG.out) ?_; intro W' hW'; replace SEG := Aside0.mk (SEG.out.trans hW'); clear hu1 hu2 hb1 hW') | ((with_reducible refine gate_store (t := 3) (p := 23) rfl ?_); obtain ⟨u, hu1, hu2⟩ := SEG.out.cell HPG.out HBK.out Q1.out; obtain ⟨z, hz⟩ := hu2.of_int; subst hz; obtain ⟨cur1, hb1, _, _⟩ := SEG.out.cells _ _ _ HPG.out HBK.out; refine wpList_mark rfl rfl 3 (.tmp 23) _ rfl (g := g) (j := i * 18 + 1) rfl rfl isz_3 rfl rfl hb1 hu1 (.int _ _ _) SEG.out.below HPG.out (HPP.out _ HPG.out) ?_; intro W' hW'; replace SEG := Aside0.mk (SEG.out.trans hW'); clear hu1 hu2 hb1 hW') | ((with_reducible refine gate_store (t := 3) (p := 31) rfl ?_); obtain ⟨u, hu1, hu2⟩ := SEG.out.cell HPG.out HBK.out Q2.out; obtain ⟨z, hz⟩ := hu2.of_int; subst hz; obtain ⟨cur1, hb1, _, _⟩ := SEG.out.cells _ _ _ HPG.out HBK.out; refine wpList_mark rfl rfl 3 (.tmp 31) _ rfl (g := g) (j := i * 18 + 2) rfl rfl isz_3 rfl rfl hb1 hu1 (.int _ _ _) SEG.out.below HPG.out (HPP.out _ HPG.out) ?_; intro W' hW'; replace SEG := Aside0.mk (SEG.out.trans hW'); clear hu1 hu2 hb1 hW') | ((with_reducible refine gate_store (t := 3) (p := 39) rfl ?_); obtain ⟨u, hu1, hu2⟩ := SEG.out.cell HPG.out HBK.out Q3.out; obtain ⟨z, hz⟩ := hu2.of_int; subst hz; obtain ⟨cur1, hb1, _, _⟩ := SEG.out.cells _ _ _ HPG.out HBK.out; refine wpList_mark rfl rfl 3 (.tmp 39) _ rfl (g := g) (j := i * 18 + 3) rfl rfl isz_3 rfl rfl hb1 hu1 (.int _ _ _) SEG.out.below HPG.out (HPP.out _ HPG.out) ?_; intro W' hW'; replace SEG := Aside0.mk (SEG.out.trans hW'); clear hu1 hu2 hb1 hW'; have qc := SEG.out.slice HPG.out HBK.out Q4.out))
   refine (markByte_sh w0 _ P _ x.f2.f2 (b + 1 + 1 + 1 + 1) ?p1 ?p2 HPP.out ?pB ?pS).mono ?_
   case p1 => have := HB0.out; omega
   case p2 => have := HTOT.out; have := HMT.out; have := HB0.out; omega
   case pB => exact SEG.out.below
   case pS => exact HR4.out.scrib (ShByte.stable P) SEG.out
   rintro e w0_ ⟨b0, rfl, hb, hsc⟩
   replace HSC := Aside0.mk (HSC.out.trans (SEG.out.trans hsc))
   have HBN0 := Aside0.mk hb
   replace HB0 := Aside0.mk (show 0 ≤ b0 by have := HB0.out; have := HBN0.out; omega)
   clear hb hsc hb0 hb2 SEG qc HPG HBK HR4 Q0 Q1 Q2 Q3 Q4
   obtain ⟨g, cur, cs, hA, hPg, hbk, hcl, hD, hcc, hfr⟩ := ShRow.elem (HS.out.scrib (ShObs.stable P) HSC.out) i HLT.out
   injection hA with hA
   injection hA with hA _ _
   subst hA
   rw [← HXL.out] at hD
   obtain ⟨a0, a1, a2, a3, v4, a5, v6, v7, v8, v9, a10, a11, a12, a13, a14, a15, a16, a17, rfl, h4, h6, h7, h8, h9⟩ := hD
   obtain ⟨A4, c4, e4⟩ := h4.slice
   subst e4
   obtain ⟨A6, c6, e6⟩ := h6.slice
   subst e6
   obtain ⟨A7, c7, e7⟩ := h7.slice
   subst e7
   obtain ⟨A8, c8, e8⟩ := h8.slice
   subst e8
   obtain ⟨A9, c9, e9⟩ := h9.slice
   subst e9
   have Q5 := Aside0.mk (hcc 5 _ rfl)
   have Q6 := Aside0.mk (hcc 6 _ rfl)
   have HPG := Aside0.mk hPg
   have HBK := Aside0.mk hbk
   have HR6 := Aside0.mk h6
   have SEG := Aside0.mk (Scrib.refl P HSC.out.below)
   clear hPg hbk hcl hcc hfr h4 h6 h7 h8 h9
   have hb0 : 0 ≤ b0 := HB0.out
   have hb2 : b0 + 1 ≤ 281474976710656 := by have := HTOT.out; have := HMT.out; have := HB0.out; have := HBN0.out; omega
   go_wp2_with ((with_reducible refine gate_store (t := 3) (p := 55) rfl ?_); obtain ⟨u, hu1, hu2⟩ := SEG.out.cell HPG.out HBK.out Q5.out; obtain ⟨z, hz⟩ := hu2.of_int; subst hz; obtain ⟨cur1, hb1, _, _⟩ := SEG.out.cells _ _ _ HPG.out HBK.out; refine wpList_mark rfl rfl 3 (.tmp 55) _ rfl (g := g) (j := i * 18 + 5) rfl rfl isz_3 rfl rfl hb1 hu1 (.int _ _ _) SEG.out.below HPG.out (HPP.out _ HPG.out) ?_; intro W' hW'; replace SEG := Aside0.mk (SEG.out.trans hW'); clear hu1 hu2 hb1 hW'; have qc := SEG.out.slice HPG.out HBK.out Q6.out)
   refine (markItem_sh w0 _ P _ x.f3.f1 (b0 + 1) ?p1 ?p2 ?p3 HPP.out ?pB ?p4 ?pS).mono ?_
   case p3 => exact HLX.out.2.2.1.1
   case p4 => exact HLX.out.2.2.1.2
   case p1 => have := HB0.out; omega
   case p2 => have := HTOT.out; have := HMT.out; have := HB0.out; have := HBN0.out; omega
   case pB => exact SEG.out.below
   case pS => exact HR6.out.scrib (ShItem.stable P) SEG.out
   rintro e w1_ ⟨b1, rfl, hb, hsc⟩
   replace HSC := Aside0.mk (HSC.out.trans (SEG.out.trans hsc))
   have HBN1 := Aside0.mk hb
   replace HB0 := Aside0.mk (show 0 ≤ b1 by have := HB0.out; have := HBN1.out; omega)
   clear hb hsc hb0 hb2 SEG qc HPG HBK HR6 Q5 Q6
   obtain ⟨g, cur, cs, hA, hPg, hbk, hcl, hD, hcc, hfr⟩ := ShRow.elem (HS.out.scrib (ShObs.stable P) HSC.out) i HLT.out
   injection hA with hA
   injection hA with hA _ _
   subst hA
   rw [← HXL.out] at hD
   obtain ⟨a0, a1, a2, a3, v4, a5, v6, v7, v8, v9, a10, a11, a12, a13, a14, a15, a16, a17, rfl, h4, h6, h7, h8, h9⟩ := hD
   obtain ⟨A4, c4, e4⟩ := h4.slice
   subst e4
   obtain ⟨A6, c6, e6⟩ := h6.slice
   subst e6
   obtain ⟨A7, c7, e7⟩ := h7.slice
   subst e7
   obtain ⟨A8, c8, e8⟩ := h8.slice
   subst e8
   obtain ⟨A9, c9, e9⟩ := h9.slice
   subst e9
   have Q7 := Aside0.mk (hcc 7 _ rfl)
   have HPG := Aside0.mk hPg
   have HBK := Aside0.mk hbk
   have HR7 := Aside0.mk h7
   have SEG := Aside0.mk (Scrib.refl P HSC.out.below)
   clear hPg hbk hcl hcc hfr h4 h6 h7 h8 h9
   have hb0 : 0 ≤ b1 := HB0.out
   have hb2 : b1 + 0 ≤ 281474976710656 := by have := HTOT.out; have := HMT.out; have := HB0.out; have := HBN0.out; have := HBN1.out; omega
   have qc := SEG.out.slice HPG.out HBK.out Q7.out
   go_wp2_with fail
   refine (markSession_sh w0 _ P _ x.f3.f2 (b1) ?p1 ?p2 ?p3 HPP.out ?pB ?p4 ?pS).mono ?_
   case p3 => exact HLX.out.2.2.2.1.1
   case p4 => exact HLX.out.2.2.2.1.2
   case p1 => have := HB0.out; omega
   case p2 => have := HTOT.out; have := HMT.out; have := HB0.out; have := HBN0.out; have := HBN1.out; omega
   case pB => exact SEG.out.below
   case pS => exact HR7.out.scrib (ShSession.stable P) SEG.out
   rintro e w2_ ⟨b2, rfl, hb, hsc⟩
   replace HSC := Aside0.mk (HSC.out.trans (SEG.out.trans hsc))
   have HBN2 := Aside0.mk hb
   replace HB0 := Aside0.mk (show 0 ≤ b2 by have := HB0.out; have := HBN2.out; omega)
   clear hb hsc hb0 hb2 SEG qc HPG HBK HR7 Q7
   obtain ⟨g, cur, cs, hA, hPg, hbk, hcl, hD, hcc, hfr⟩ := ShRow.elem (HS.out.scrib (ShObs.stable P) HSC.out) i HLT.out
   injection hA with hA
   injection hA with hA _ _
   subst hA
   rw [← HXL.out] at hD
   obtain ⟨a0, a1, a2, a3, v4, a5, v6, v7, v8, v9, a10, a11, a12, a13, a14, a15, a16, a17, rfl, h4, h6, h7, h8, h9⟩ := hD
   obtain ⟨A4, c4, e4⟩ := h4.slice
   subst e4
   obtain ⟨A6, c6, e6⟩ := h6.slice
   subst e6
   obtain ⟨A7, c7, e7⟩ := h7.slice
   subst e7
   obtain ⟨A8, c8, e8⟩ := h8.slice
   subst e8
   obtain ⟨A9, c9, e9⟩ := h9.slice
   subst e9
   have Q8 := Aside0.mk (hcc 8 _ rfl)
   have HPG := Aside0.mk hPg
   have HBK := Aside0.mk hbk
   have HR8 := Aside0.mk h8
   have SEG := Aside0.mk (Scrib.refl P HSC.out.below)
   clear hPg hbk hcl hcc hfr h4 h6 h7 h8 h9
   have hb0 : 0 ≤ b2 := HB0.out
   have hb2 : b2 + 0 ≤ 281474976710656 := by have := HTOT.out; have := HMT.out; have := HB0.out; have := HBN0.out; have := HBN1.out; have := HBN2.out; omega
   have qc := SEG.out.slice HPG.out HBK.out Q8.out
   go_wp2_with fail
   refine (markAck_sh w0 _ P _ x.f4 (b2) ?p1 ?p2 ?p3 HPP.out ?pB ?p4 ?pS).mono ?_
   case p3 => exact HLX.out.2.2.2.2.1.1
   case p4 => exact fun _ _ => trivial
   case p1 => have := HB0.out; omega
   case p2 => have := HTOT.out; have := HMT.out; have := HB0.out; have := HBN0.out; have := HBN1.out; have := HBN2.out; omega
   case pB => exact SEG.out.below
   case pS => exact HR8.out.scrib (ShAck.stable P) SEG.out
   rintro e w3_ ⟨b3, rfl, hb, hsc⟩
   replace HSC := Aside0.mk (HSC.out.trans (SEG.out.trans hsc))
   have HBN3 := Aside0.mk hb
   replace HB0 := Aside0.mk (show 0 ≤ b3 by have := HB0.out; have := HBN3.out; omega)
   clear hb hsc hb0 hb2 SEG qc HPG HBK HR8 Q8
   obtain ⟨g, cur, cs, hA, hPg, hbk, hcl, hD, hcc, hfr⟩ := ShRow.elem (HS.out.scrib (ShObs.stable P) HSC.out) i HLT.out
   injection hA with hA
   injection hA with hA _ _
   subst hA
   rw [← HXL.out] at hD
   obtain ⟨a0, a1, a2, a3, v4, a5, v6, v7, v8, v9, a10, a11, a12, a13, a14, a15, a16, a17, rfl, h4, h6, h7, h8, h9⟩ := hD
   obtain ⟨A4, c4, e4⟩ := h4.slice
   subst e4
   obtain ⟨A6, c6, e6⟩ := h6.slice
   subst e6
   obtain ⟨A7, c7, e7⟩ := h7.slice
   subst e7
   obtain ⟨A8, c8, e8⟩ := h8.slice
   subst e8
   obtain ⟨A9, c9, e9⟩ := h9.slice
   subst e9
   have Q9 := Aside0.mk (hcc 9 _ rfl)
   have HPG := Aside0.mk hPg
   have HBK := Aside0.mk hbk
   have HR9 := Aside0.mk h9
   have SEG := Aside0.mk (Scrib.refl P HSC.out.below)
   clear hPg hbk hcl hcc hfr h4 h6 h7 h8 h9
   have hb0 : 0 ≤ b3 := HB0.out
   have hb2 : b3 + 0 ≤ 281474976710656 := by have := HTOT.out; have := HMT.out; have := HB0.out; have := HBN0.out; have := HBN1.out; have := HBN2.out; have := HBN3.out; omega
   have qc := SEG.out.slice HPG.out HBK.out Q9.out
   go_wp2_with fail
   refine (markMessage_sh w0 _ P _ x.f5 (b3) ?p1 ?p2 ?p3 HPP.out ?pB ?p4 ?pS).mono ?_
   case p3 => exact HLX.out.2.2.2.2.2.1
   case p4 => exact HLX.out.2.2.2.2.2.2
   case p1 => have := HB0.out; omega
   case p2 => have := HTOT.out; have := HMT.out; have := HB0.out; have := HBN0.out; have := HBN1.out; have := HBN2.out; have := HBN3.out; omega
   case pB => exact SEG.out.below
   case pS => exact HR9.out.scrib (ShMessage.stable P) SEG.out
   rintro e w4_ ⟨b4, rfl, hb, hsc⟩
   replace HSC := Aside0.mk (HSC.out.trans (SEG.out.trans hsc))
   have HBN4 := Aside0.mk hb
   replace HB0 := Aside0.mk (show 0 ≤ b4 by have := HB0.out; have := HBN4.out; omega)
   clear hb hsc hb0 hb2 SEG qc HPG HBK HR9 Q9
   obtain ⟨g, cur, cs, hA, hPg, hbk, hcl, hD, hcc, hfr⟩ := ShRow.elem (HS.out.scrib (ShObs.stable P) HSC.out) i HLT.out
   injection hA with hA
   injection hA with hA _ _
   subst hA
   rw [← HXL.out] at hD
   obtain ⟨a0, a1, a2, a3, v4, a5, v6, v7, v8, v9, a10, a11, a12, a13, a14, a15, a16, a17, rfl, h4, h6, h7, h8, h9⟩ := hD
   obtain ⟨A4, c4, e4⟩ := h4.slice
   subst e4
   obtain ⟨A6, c6, e6⟩ := h6.slice
   subst e6
   obtain ⟨A7, c7, e7⟩ := h7.slice
   subst e7
   obtain ⟨A8, c8, e8⟩ := h8.slice
   subst e8
   obtain ⟨A9, c9, e9⟩ := h9.slice
   subst e9
   have Q10 := Aside0.mk (hcc 10 _ rfl)
   have Q11 := Aside0.mk (hcc 11 _ rfl)
   have Q12 := Aside0.mk (hcc 12 _ rfl)
   have Q13 := Aside0.mk (hcc 13 _ rfl)
   have Q14 := Aside0.mk (hcc 14 _ rfl)
   have Q15 := Aside0.mk (hcc 15 _ rfl)
   have Q16 := Aside0.mk (hcc 16 _ rfl)
   have Q17 := Aside0.mk (hcc 17 _ rfl)
   have HPG := Aside0.mk hPg
   have HBK := Aside0.mk hbk
   have SEG := Aside0.mk (Scrib.refl P HSC.out.below)
   clear hPg hbk hcl hcc hfr h4 h6 h7 h8 h9
   have hb0 : 0 ≤ b4 := HB0.out
   have hb2 : b4 + 8 ≤ 281474976710656 := by have := HTOT.out; have := HMT.out; have := HB0.out; have := HBN0.out; have := HBN1.out; have := HBN2.out; have := HBN3.out; have := HBN4.out; omega
   go_wp2_with (first | ((with_reducible refine gate_store (t := 3) (p := 93) rfl ?_); obtain ⟨u, hu1, hu2⟩ := SEG.out.cell HPG.out HBK.out Q10.out; obtain ⟨z, hz⟩ := hu2.of_int; subst hz; obtain ⟨cur1, hb1, _, _⟩ := SEG.out.cells _ _ _ HPG.out HBK.out; refine wpList_mark rfl rfl 3 (.tmp 93) _ rfl (g := g) (j := i * 18 + 10) rfl rfl isz_3 rfl rfl hb1 hu1 (.int _ _ _) SEG.out.below HPG.out (HPP.out _ HPG.out) ?_; intro W' hW'; replace SEG := Aside0.mk (SEG.out.trans hW'); clear hu1 hu2 hb1 hW') | ((with_reducible refine gate_store (t := 3) (p := 101) rfl ?_); obtain ⟨u, hu1, hu2⟩ := SEG.out.cell HPG.out HBK.out Q11.out; obtain ⟨z, hz⟩ := hu2.of_int; subst hz; obtain ⟨cur1, hb1, _, _⟩ := SEG.out.cells _ _ _ HPG.out HBK.out; refine wpList_mark rfl rfl 3 (.tmp 101) _ rfl (g := g) (j := i * 18 + 11) rfl rfl isz_3 rfl rfl hb1 hu1 (.int _ _ _) SEG.out.below HPG.out (HPP.out _ HPG.out) ?_; intro W' hW'; replace SEG := Aside0.mk (SEG.out.trans hW'); clear hu1 hu2 hb1 hW') | ((with_reducible refine gate_store (t := 3) (p := 109) rfl ?_); obtain ⟨u, hu1, hu2⟩ := SEG.out.cell HPG.out HBK.out Q12.out; obtain ⟨z, hz⟩ := hu2.of_int; subst hz; obtain ⟨cur1, hb1, _, _⟩ := SEG.out.cells _ _ _ HPG.out HBK.out; refine wpList_mark rfl rfl 3 (.tmp 109) _ rfl (g := g) (j := i * 18 + 12) rfl rfl isz_3 rfl rfl hb1 hu1 (.int _ _ _) SEG.out.below HPG.out (HPP.out _ HPG.out) ?_; intro W' hW'; replace SEG := Aside0.mk (SEG.out.trans hW'); clear hu1 hu2 hb1 hW') | ((with_reducible refine gate_store (t := 3) (p := 117) rfl ?_); obtain ⟨u, hu1, hu2⟩ := SEG.out.cell HPG.out HBK.out Q13.out; obtain ⟨z, hz⟩ := hu2.of_int; subst hz; obtain ⟨cur1, hb1, _, _⟩ := SEG.out.cells _ _ _ HPG.out HBK.out; refine wpList_mark rfl rfl 3 (.tmp 117) _ rfl (g := g) (j := i * 18 + 13) rfl rfl isz_3 rfl rfl hb1 hu1 (.int _ _ _) SEG.out.below HPG.out (HPP.out _ HPG.out) ?_; intro W' hW'; replace SEG := Aside0.mk (SEG.out.trans hW'); clear hu1 hu2 hb1 hW') | ((with_reducible refine gate_store (t := 3) (p := 125) rfl ?_); obtain ⟨u, hu1, hu2⟩ := SEG.out.cell HPG.out HBK.out Q14.out; obtain ⟨z, hz⟩ := hu2.of_int; subst hz; obtain ⟨cur1, hb1, _, _⟩ := SEG.out.cells _ _ _ HPG.out HBK.out; refine wpList_mark rfl rfl 3 (.tmp 125) _ rfl (g := g) (j := i * 18 + 14) rfl rfl isz_3 rfl rfl hb1 hu1 (.int _ _ _) SEG.out.below HPG.out (HPP.out _ HPG.out) ?_; intro W' hW'; replace SEG := Aside0.mk (SEG.out.trans hW'); clear hu1 hu2 hb1 hW') | ((with_reducible refine gate_store (t := 3) (p := 133) rfl ?_); obtain ⟨u, hu1, hu2⟩ := SEG.out.cell HPG.out HBK.out Q15.out; obtain ⟨z, hz⟩ := hu2.of_int; subst hz; obtain ⟨cur1, hb1, _, _⟩ := SEG.out.cells _ _ _ HPG.out HBK.out; refine wpList_mark rfl rfl 3 (.tmp 133) _ rfl (g := g) (j := i * 18 + 15) rfl rfl isz_3 rfl rfl hb1 hu1 (.int _ _ _) SEG.out.below HPG.out (HPP.out _ HPG.out) ?_; intro W' hW'; replace SEG := Aside0.mk (SEG.out.trans hW'); clear hu1 hu2 hb1 hW') | ((with_reducible refine gate_store (t := 3) (p := 141) rfl ?_); obtain ⟨u, hu1, hu2⟩ := SEG.out.cell HPG.out HBK.out Q16.out; obtain ⟨z, hz⟩ := hu2.of_int; subst hz; obtain ⟨cur1, hb1, _, _⟩ := SEG.out.cells _ _ _ HPG.out HBK.out; refine wpList_mark rfl rfl 3 (.tmp 141) _ rfl (g := g) (j := i * 18 + 16) rfl rfl isz_3 rfl rfl hb1 hu1 (.int _ _ _) SEG.out.below HPG.out (HPP.out _ HPG.out) ?_; intro W' hW'; replace SEG := Aside0.mk (SEG.out.trans hW'); clear hu1 hu2 hb1 hW') | ((with_reducible refine gate_store (t := 3) (p := 149) rfl ?_); obtain ⟨u, hu1, hu2⟩ := SEG.out.cell HPG.out HBK.out Q17.out; obtain ⟨z, hz⟩ := hu2.of_int; subst hz; obtain ⟨cur1, hb1, _, _⟩ := SEG.out.cells _ _ _ HPG.out HBK.out; refine wpList_mark rfl rfl 3 (.tmp 149) _ rfl (g := g) (j := i * 18 + 17) rfl rfl isz_3 rfl rfl hb1 hu1 (.int _ _ _) SEG.out.below HPG.out (HPP.out _ HPG.out) ?_; intro W' hW'; replace SEG := Aside0.mk (SEG.out.trans hW'); clear hu1 hu2 hb1 hW'))
   go_roundg k1
   case measure => omega
   case rel => exact ⟨i + 1, b4 + 1 + 1 + 1 + 1 + 1 + 1 + 1 + 1, rfl, by rw [w64n (by have := HLEN.out; have := HLT.out; omega)], ⟨by have := HBE.out; have := HTK.out; have := HMT.out; have := HBN0.out; have := HBN1.out; have := HBN2.out; have := HBN3.out; have := HBN4.out; omega⟩, ⟨by have := HG.out; omega⟩, ⟨HSC.out.trans SEG.out⟩⟩
  ·as_aux_lemma =>
   have hi : i = l.length := by have := HG.out; omega
   have HF := Aside0.mk (show b = a + sumTo mtObs l l.length by have := HBE.out; rwa [hi] at this)
   have tlt : decide (i < l.length) = false := decide_eq_false hlt
   clear hlt hi
   go_wp2
   go_ret
   exact ⟨b, rfl, HF.out, HSC.out⟩

end Go.Proofs.YtibhaklgajkalaaGreatDoor.YTell
