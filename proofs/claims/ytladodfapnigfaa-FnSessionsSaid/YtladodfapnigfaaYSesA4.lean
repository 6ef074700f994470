/- A4 -/
import Derived.Test.YtladodfapnigfaaYSesx0
import Derived.Deep.LoopGhost
namespace Go.Proofs.Ytladodfapnigfaa.YSes
open Go.RowKit Go.Proofs.YtladodfapnigfaaW.PrintWords Go.Proofs.YtladodfapnigfaaW.PrintLast Go.Proofs.YtladodfapnigfaaW.PrintMore
attribute [local go_sem] max2_int min2_int max_two min_two max_three min_three max_four min_four
set_option linter.unusedVariables false
set_option linter.unusedSimpArgs false
/-- How many sessions stand ahead of a client's place, and whether its session is there. -/
def cntS (l : List S74) (k : Int) : Nat := l.countP (fun x => decide (x.f0 < k))
def thereS (l : List S74) (k : Int) : Bool := decide (cntS l k < l.length) && decide ((rd_T74 l (cntS l k : Nat)).f0 = k)
theorem rd_nat (l : List S74) (i : Nat) (h : i < l.length) : rd_T74 l (i : Nat) = l[i] := by simp [rd_T74, List.getD, h]
/-- A list whose first i elements meet p and whose others do not: i meet it. -/
theorem countP_edge {α : Type} (p : α → Bool) : ∀ (l : List α) (i : Nat), i ≤ l.length → (∀ t (h : t < l.length), t < i → p l[t] = true) → (∀ t (h : t < l.length), i ≤ t → p l[t] = false) → l.countP p = i
 | [], i, hi, _, _ => by simp at hi; simp [hi]
 | a :: r, 0, _, _, h2 => by
  rw [List.countP_eq_zero]
  intro x hx
  obtain ⟨t, ht, rfl⟩ := List.getElem_of_mem hx
  simp [h2 t ht (Nat.zero_le _)]
 | a :: r, i + 1, hi, h1, h2 => by
  have ha : p a = true := h1 0 (by simp) (Nat.succ_pos _)
  rw [List.countP_cons_of_pos ha, countP_edge p r i (by simpa using hi) (fun t h ht => h1 (t + 1) (by simpa using h) (by omega)) (fun t h ht => h2 (t + 1) (by simpa using h) (by omega))]
set_option maxHeartbeats 4000000 in
set_option maxRecDepth 100000 in
theorem keyOf.calls (a b c : Int) (d : Value) (w : World) : Calls Try.prog 80 #[.agg #[.int .i64 a, .int .i64 b, .int .i64 c, d]] w fun e w' => e = .returned (.int .i64 a) ∧ Below w.heap.size w w' := by
 have hu := Try.underlying74
 go_enter Try.func80, Try.ntmps80
 go_wp2
 go_ret
 exact ⟨rfl, by repeat (first | exact Below.refl _ _ | apply below_drew1 | apply pw_below_drewN | apply below_alloc)⟩
set_option maxHeartbeats 4000000 in
set_option maxRecDepth 100000 in
theorem cmpOf.calls (a b c k : Int) (A : Option Addr) (n cap gb : Nat) (w : World) (hb : w.heap[gb]? = some (.cells #[.func (.func 80) #[] #[]] 108 (0, 0))) :
 Calls Try.prog 85 #[.agg #[.int .i64 a, .int .i64 b, .int .i64 c, .slice A n cap], .int .i64 k, .pointer (some ⟨gb, 0, none⟩)] w fun e w' => e = .returned (.int .i64 (wrap64 (a - k))) ∧ Below w.heap.size w w' := by
 have hu := Try.underlying74
 have HB0 := Aside0.mk hb
 clear hb
 go_enter Try.func85, Try.ntmps85
 go_wp2_with (first | ((with_reducible refine gate_dst (N := 3) rfl ?_); refine box_event ?hg (N := 3) ?hd (cs := #[.int .i64 a, .int .i64 b, .int .i64 c, .slice A n cap]) (t := 74) ?hr ?_; (case hd => rfl); (case hg => rfl); (case hr => first | (go_simp; done) | (go_simp; rfl)); intro gx hg w1 hbox hb; have HB1 := Aside0.mk hb; have kx0 := blk_cell hbox 0; have kx1 := blk_cell hbox 1; have kx2 := blk_cell hbox 2; have kx3 := blk_cell hbox 3; have kb := blk_cell (blk_below HB0.out hb) 0; clear hb hbox hg) | (go_at_call 80; refine (keyOf.calls a b c _ _).mono ?_; rintro e w2 ⟨rfl, hb⟩; have HB := Aside0.mk (below_step HB1.out hb); clear hb kx0 kx1 kx2 kx3 kb))
 go_ret
 exact ⟨rfl, HB.out⟩
set_option maxHeartbeats 8000000 in
set_option maxRecDepth 100000 in
theorem bsearch.calls (A : Option Addr) (c : Nat) (l : List S74) (k : Int) (gb : Nat) (w0 w : World) (hr : Kd.C k74 w0 A l.length l) (hbl : Below w0.heap.size w0 w) (hn : l.length ≤ 1048576)
 (hgb : w.heap[gb]? = some (.cells #[.func (.func 80) #[] #[]] 108 (0, 0)))
 (hk : 0 ≤ k ∧ k ≤ 4294967296) (hx : ∀ x ∈ l, 0 ≤ x.f0 ∧ x.f0 ≤ 4294967296) (hs : ∀ a b, a ≤ b → b < l.length → (rd_T74 l (a : Nat)).f0 ≤ (rd_T74 l (b : Nat)).f0) :
 Calls Try.prog 84 #[.slice A l.length c, .int .i64 k, .func (.func 85) #[] #[.pointer (some ⟨gb, 0, none⟩)]] w fun e w' => e = .returned (.tuple #[.int .i64 (cntS l k : Nat), .bool (thereS l k)]) ∧ Below w.heap.size w w' := by
 have hu := Try.underlying74
 have HR := Aside0.mk hr
 have HB0 := Aside0.mk hbl
 have HN := Aside0.mk hn
 have HG := Aside0.mk hgb
 have HK := Aside0.mk hk
 have HX := Aside0.mk hx
 have HS := Aside0.mk hs
 have hc64 : ∀ i : Nat, i < l.length → wrap64 ((rd_T74 l (i : Nat)).f0 - k) = (rd_T74 l (i : Nat)).f0 - k := fun i hi => by
  have := hx l[i] (List.getElem_mem hi)
  rw [rd_nat l i hi]
  unfold wrap64; omega
 have H64 := Aside0.mk hc64
 clear hr hbl hn hgb hk hx hs hc64
 generalize hcnt : cntS l k = cnt
 have CN := Aside0.mk hcnt
 clear hcnt
 generalize hfin : thereS l k = fin
 have FIN := Aside0.mk hfin
 clear hfin
 go_enter Try.func84, Try.ntmps84
 go_wp2
 go_loopg [9, 10] l.length (fun kx s9 s10 wr => ∃ lo hi : Nat, s9 = .int .i64 lo ∧ s10 = .int .i64 hi ∧ Aside0 (lo ≤ hi ∧ hi ≤ l.length ∧ hi - lo ≤ kx) ∧ Aside0 (Below w.heap.size w wr) ∧ Aside0 ((∀ t, t < lo → (rd_T74 l (t : Nat)).f0 < k) ∧ (∀ t, hi ≤ t → t < l.length → k ≤ (rd_T74 l (t : Nat)).f0)))
 case atStart => exact ⟨0, l.length, rfl, rfl, ⟨by omega⟩, ⟨Below.refl _ _⟩, ⟨fun t ht => absurd ht (Nat.not_lt_zero _), fun t h1 h2 => by omega⟩⟩
 case round =>
  obtain ⟨lo, hi, rfl, rfl, HL, HB, I⟩ := hrel
  have hlh := HL.out.1
  have hin := HL.out.2.1
  have hn := HN.out
  by_cases hlt : lo < hi
  ·obtain ⟨m, hm⟩ : ∃ m, m = (lo + hi) / 2 := ⟨_, rfl⟩
   have hml : lo ≤ m ∧ m < hi := by omega
   have hm2 : ((lo : Int) + (hi : Int)) / 2 = (m : Int) := by omega
   obtain ⟨ad, A3, c3, ha, hx0, hx1, hx2, hx3, hl3, hC⟩ := at_T74 HR.out (m : Int) (by omega) (by omega)
   cases ha
   have h64 := H64.out m (by omega)
   obtain ⟨x, hx⟩ : ∃ x, x = rd_T74 l (m : Int) := ⟨_, rfl⟩
   rw [← hx] at hx0 hx1 hx2 hx3 hl3 hC h64
   rw [Int.toNat_natCast] at hx0 hx1 hx2 hx3
   have hbb := below_step HB0.out HB.out
   replace hx0 := (hbb.cell (World.block_lt_of_cell? w0 _ hx0)).trans hx0
   replace hx1 := (hbb.cell (World.block_lt_of_cell? w0 _ hx1)).trans hx1
   replace hx2 := (hbb.cell (World.block_lt_of_cell? w0 _ hx2)).trans hx2
   replace hx3 := (hbb.cell (World.block_lt_of_cell? w0 _ hx3)).trans hx3
   have HX0 := Aside0.mk hx
   have H64x := Aside0.mk h64
   have HM := Aside0.mk hml
   have HMe := Aside0.mk hm
   have hm1 : m < l.length := by omega
   clear hbb hl3 hC hx h64 hm hml
   by_cases hyx : x.f0 - k < 0
   ·go_wp2_with (go_at_call 85; refine (cmpOf.calls x.f0 x.f1 x.f2 k A3 x.f3.length c3 gb _ ?x1).mono ?_; (case x1 => exact blk_below HG.out (by repeat (first | exact HB.out | apply below_drew1 | apply pw_below_drewN))); rw [H64x.out]; rintro e w2 ⟨rfl, hb⟩; have HB2 := Aside0.mk hb; clear hb)
    go_roundg (hi - (m + 1))
    case measure => have := HL.out; have := HM.out; omega
    case rel =>
     refine ⟨m + 1, hi, by first | go_num | (congr 1; omega), rfl, ⟨by have := HL.out; have := HM.out; omega⟩, ⟨below_step HB.out HB2.out⟩, ⟨fun t ht => ?_, I.out.2⟩⟩
     have := HS.out t m (by omega) (by have := HL.out; have := HM.out; omega)
     rw [← HX0.out] at this
     omega
   ·go_wp2_with (go_at_call 85; refine (cmpOf.calls x.f0 x.f1 x.f2 k A3 x.f3.length c3 gb _ ?x1).mono ?_; (case x1 => exact blk_below HG.out (by repeat (first | exact HB.out | apply below_drew1 | apply pw_below_drewN))); rw [H64x.out]; rintro e w2 ⟨rfl, hb⟩; have HB2 := Aside0.mk hb; clear hb)
    go_roundg (m - lo)
    case measure => have := HL.out; have := HM.out; omega
    case rel =>
     refine ⟨lo, m, rfl, by first | go_num | (congr 1; omega), ⟨by have := HL.out; have := HM.out; omega⟩, ⟨below_step HB.out HB2.out⟩, ⟨I.out.1, fun t h1 h2 => ?_⟩⟩
     have := HS.out m t h1 h2
     rw [← HX0.out] at this
     omega
  ·obtain rfl : hi = lo := by omega
   have ecnt : cntS l k = hi := by
    refine countP_edge _ l hi hin (fun t h ht => ?_) (fun t h ht => ?_)
    ·have := I.out.1 t ht
     rw [rd_nat l t h] at this
     exact decide_eq_true this
    ·have := I.out.2 t ht h
     rw [rd_nat l t h] at this
     exact decide_eq_false (by omega)
   have ecc : cnt = hi := CN.out.symm.trans ecnt
   subst ecc
   clear ecnt
   have hf : fin = (decide (cnt < l.length) && decide ((rd_T74 l (cnt : Nat)).f0 = k)) := by rw [← FIN.out, thereS, CN.out]
   have HF := Aside0.mk hf
   clear hf
   by_cases hlt2 : cnt < l.length
   ·obtain ⟨ad, A3, c3, ha, hx0, hx1, hx2, hx3, hl3, hC⟩ := at_T74 HR.out (cnt : Int) (by omega) (by omega)
    cases ha
    have h64 := H64.out cnt (by omega)
    obtain ⟨x, hx⟩ : ∃ x, x = rd_T74 l (cnt : Int) := ⟨_, rfl⟩
    rw [← hx] at hx0 hx1 hx2 hx3 hl3 hC h64
    rw [Int.toNat_natCast] at hx0 hx1 hx2 hx3
    have hbb := below_step HB0.out HB.out
    replace hx0 := (hbb.cell (World.block_lt_of_cell? w0 _ hx0)).trans hx0
    replace hx1 := (hbb.cell (World.block_lt_of_cell? w0 _ hx1)).trans hx1
    replace hx2 := (hbb.cell (World.block_lt_of_cell? w0 _ hx2)).trans hx2
    replace hx3 := (hbb.cell (World.block_lt_of_cell? w0 _ hx3)).trans hx3
    have HX0 := Aside0.mk hx
    have H64x := Aside0.mk h64
    clear hbb hl3 hC hx h64
    by_cases hyx : x.f0 - k = 0
    ·go_wp2_with (go_at_call 85; refine (cmpOf.calls x.f0 x.f1 x.f2 k A3 x.f3.length c3 gb _ ?x1).mono ?_; (case x1 => exact blk_below HG.out (by repeat (first | exact HB.out | apply below_drew1 | apply pw_below_drewN))); rw [H64x.out]; rintro e w2 ⟨rfl, hb⟩; have HB2 := Aside0.mk hb; clear hb)
     go_ret2
     refine ⟨?_, below_step HB.out HB2.out⟩
     rw [HF.out, decide_eq_true hlt2, ← HX0.out, decide_eq_true (by omega)]
     rfl
    ·have hyb : (x.f0 - k == 0) = false := by simpa using hyx
     go_wp2_with (go_at_call 85; refine (cmpOf.calls x.f0 x.f1 x.f2 k A3 x.f3.length c3 gb _ ?x1).mono ?_; (case x1 => exact blk_below HG.out (by repeat (first | exact HB.out | apply below_drew1 | apply pw_below_drewN))); rw [H64x.out]; rintro e w2 ⟨rfl, hb⟩; have HB2 := Aside0.mk hb; clear hb)
     go_ret2
     refine ⟨?_, below_step HB.out HB2.out⟩
     rw [HF.out, decide_eq_true hlt2, ← HX0.out, decide_eq_false (by omega)]
     rfl
   ·go_wp2
    go_ret2
    refine ⟨?_, HB.out⟩
    rw [HF.out, decide_eq_false hlt2]
    rfl

set_option maxHeartbeats 8000000 in
set_option maxRecDepth 100000 in
theorem search.calls (A : Option Addr) (c : Nat) (l : List S74) (k : Int) (w0 w : World) (hr : Kd.C k74 w0 A l.length l) (hbl : Below w0.heap.size w0 w) (hn : l.length ≤ 1048576)
 (hk : 0 ≤ k ∧ k ≤ 4294967296) (hx : ∀ x ∈ l, 0 ≤ x.f0 ∧ x.f0 ≤ 4294967296) (hs : ∀ a b, a ≤ b → b < l.length → (rd_T74 l (a : Nat)).f0 ≤ (rd_T74 l (b : Nat)).f0) :
 Calls Try.prog 79 #[.slice A l.length c, .int .i64 k, .func (.func 80) #[] #[]] w fun e w' => e = .returned (.tuple #[.int .i64 (cntS l k : Nat), .bool (thereS l k)]) ∧ Below w.heap.size w w' := by
 have hmf : ∀ (fn : Fn) (first cap : Array Value) (w : World), (Instr.makeFunc fn first cap).run Try.prog w = .ok (.func fn first cap) w := fun _ _ _ _ => rfl
 have HR := Aside0.mk hr
 have HB0 := Aside0.mk hbl
 have HN := Aside0.mk hn
 have HK := Aside0.mk hk
 have HX := Aside0.mk hx
 have HS := Aside0.mk hs
 clear hr hbl hn hk hx hs
 go_enter Try.func79, Try.ntmps79
 go_wp2_with (first | ((with_reducible refine gate_dst (N := 5) rfl ?_); refine box_event ?hg (N := 5) ?hd (cs := #[.func (.func 80) #[] #[]]) (t := 108) ?hr ?_; (case hd => rfl); (case hg => rfl); (case hr => first | (go_simp; done) | (go_simp; rfl)); intro gb hg w1 hbox hb; have HB1 := Aside0.mk hb; have BK := Aside0.mk hbox; clear hb hbox hg) | (go_at_call 84; refine (bsearch.calls A c l k gb w0 _ HR.out ?x1 HN.out BK.out HK.out HX.out HS.out).mono ?_; (case x1 => exact below_step HB0.out HB1.out); rintro e w2 ⟨rfl, hb⟩; have HB2 := Aside0.mk hb; clear hb))
 go_ret2
 exact ⟨rfl, below_step HB1.out HB2.out⟩

end Go.Proofs.Ytladodfapnigfaa.YSes
