/- T11 -/
import Derived.Test.YtibhaklgajkalaaGreatDoorYTellx0
import Derived.Test.YtibhaklgajkalaaGreatDoorYTellT1
import Derived.Test.YtibhaklgajkalaaGreatDoorYTellT10
import Derived.Lib.BufferOld
namespace Go.Proofs.YtibhaklgajkalaaGreatDoor.YTell
open Go.RowKit Go.Proofs.YtibhaklgajkalaaGreatDoorW.PrintWords Go.Proofs.YtibhaklgajkalaaGreatDoorW.PrintLast Go.Proofs.YtibhaklgajkalaaGreatDoorW.PrintMore
attribute [local go_sem] max2_int min2_int max_two min_two max_three min_three max_four min_four
set_option linter.unusedVariables false
set_option linter.unusedSimpArgs false
open Go.Proofs.YtibhaklgajkalaaGreatDoor.Num
def ints11 (o : S50) : List Int := [o.f0, o.f1, o.f6.f0, o.f6.f1, o.f6.f2, o.f6.f3, o.f6.f4, o.f6.f5, o.f6.f6, o.f6.f7, (o.f5.length : Int)]
def ackInts (a : S53) : List Int := [a.f0, a.f1, a.f2, a.f3, a.f4]
def ackD (a : S53) : List UInt8 := [97, 58] ++ joinD (ackInts a)
def itemOn (o : S50) : Prop := o.f2.f0 ≠ 0 ∨ o.f2.f1 ≠ 0 ∨ 0 < o.f2.f2.length
def svcOn (o : S50) : Prop := o.f3.f0 ≠ 0 ∨ 0 < o.f3.f1.length
instance (o : S50) : Decidable (itemOn o) := by unfold itemOn; exact inferInstance
instance (o : S50) : Decidable (svcOn o) := by unfold svcOn; exact inferInstance
def partsA (o : S50) : List (List UInt8) := (ints11 o).map Lib.itoa ++ o.f4.map ackD
def partsB (o : S50) : List (List UInt8) := partsA o ++ (if itemOn o then [tellD [105] o.f2] else [])
def obsParts (o : S50) : List (List UInt8) := partsB o ++ (if svcOn o then ([115, 58] ++ Lib.itoa o.f3.f0) :: o.f3.f1.map (tellD [107]) else [])
def lineD (o : S50) : List UInt8 := Lib.join (obsParts o) [32] ++ [10]
def textD (code : Int) (obs : List S50) : List UInt8 := [99, 111, 100, 101, 32] ++ Lib.itoa code ++ [10] ++ obs.flatMap lineD
def AckOk (a : S53) : Prop := ∀ n ∈ ackInts a, IntOk n
structure ObsOk (o : S50) : Prop where
 ints : ∀ n ∈ ints11 o, IntOk n
 acks : ∀ a ∈ o.f4, AckOk a
 item : ItemOk o.f2
 base : IntOk o.f3.f0
 kept : ∀ x ∈ o.f3.f1, ItemOk x
 l4 : o.f4.length ≤ 1048576
 l5 : o.f5.length ≤ 1048576
 l31 : o.f3.f1.length ≤ 1048576
theorem textD_take (code : Int) (obs : List S50) (i : Nat) : (textD code (obs.take i)).length ≤ (textD code obs).length := by
 unfold textD
 have h : (obs.take i).flatMap lineD ++ (obs.drop i).flatMap lineD = obs.flatMap lineD := by rw [← List.flatMap_append, List.take_append_drop]
 have := congrArg List.length h
 simp only [List.length_append] at this ⊢
 omega
theorem textD_step (code : Int) (obs : List S50) (i : Nat) (h : i < obs.length) : textD code (obs.take (i + 1)) = textD code (obs.take i) ++ lineD obs[i] := by
 unfold textD
 rw [List.take_succ_eq_append_getElem h, List.flatMap_append]
 simp
theorem wpList_put_row {Pr : Program} {ops : Array Oper} {rest : List Oper} {o : Oper} {a : Act} {W : World} {Q : Exit → Act → World → Prop} (hgd : o.guard = none) (ty : TypeId) (x y : Operand) (ho : o.op = .store ty x y)
 (g : Nat) (cells : Array Value) (hx : a.eval x = .pointer (some ⟨g, 0, none⟩)) (hy : a.eval y = .agg cells)
 (t : TypeId) (old : Array Value) (hg : W.heap[g]? = some (.cells old t (0, 0))) (hi : (Pr.info? ty).map (·.size) = some cells.size)
 (hold : old.size = cells.size) (h1 : cells.all (·.oneCell') = true)
 (h : ∀ W', W'.heap[g]? = some (.cells cells t (0, 0)) → (∀ w0 : World, Below w0.heap.size w0 W → w0.heap.size ≤ g → Below w0.heap.size w0 W') → Kept W W' (fun k => k = g) → wpList Pr ops Q rest (a.put o.dst undef) W') : wpList Pr ops Q (o :: rest) a W :=
 wpList_store_row hgd ty x y ho g cells hx hy t old hg hi hold h1 (h _ (setRow_heap _ g _ _ t (0, 0) hg) (fun w0 hb hge => ⟨hb.os, hb.tape, hb.output, by rw [setRow_size]; exact hb.size, fun k hk => (setRow_other W g k cells (by omega)).trans (hb.block k hk)⟩)
  ⟨by rw [setRow_size]; exact Nat.le_refl _, fun i _ hn => setRow_other W g i cells hn⟩)
theorem split_calls (w : World) (xs : List (List UInt8)) (hne : xs ≠ []) (hx : ∀ x ∈ xs, ∀ b ∈ x, b ≠ 58) (hlen : (Lib.join xs [58]).length < 4294967281) (hxl : xs.length ≤ 1000) (he : Env w) :
 Calls Tryz.prog 20 #[.string ⟨(Lib.join xs [58]).toArray⟩, .string ⟨#[58]⟩] w fun e w' => ∃ v, e = .returned v ∧ Kd.R Kd.string 9 w' w.heap.size (fun _ => True) v (xs.map strB) ∧ Below w.heap.size w w' := by
 obtain ⟨m, hm⟩ := he.len
 refine (Tryz.strings_Split ⟨(Lib.join xs [58]).toArray⟩ ⟨#[58]⟩ m w (by rw [Lib.size_eq]; exact hlen) hm (by decide)).mono ?_
 rintro e w' ⟨rfl, rfl⟩
 obtain ⟨h1, h2⟩ := split_join 58 xs hne hx
 have hc : Lib.countB ⟨(Lib.join xs [58]).toArray⟩ ⟨#[58]⟩ + 1 = xs.length := h1
 have hs : Lib.splitB ⟨#[58]⟩ 0 (Lib.countB ⟨(Lib.join xs [58]).toArray⟩ ⟨#[58]⟩) ⟨(Lib.join xs [58]).toArray⟩ = xs.map strB := by
  have hd := Lib.splitB_data ⟨#[58]⟩ 0 (Lib.countB ⟨(Lib.join xs [58]).toArray⟩ ⟨#[58]⟩) ⟨(Lib.join xs [58]).toArray⟩
  rw [show Lib.countB ⟨(Lib.join xs [58]).toArray⟩ ⟨#[58]⟩ = xs.length - 1 by omega] at hd ⊢
  have hd2 : (Lib.splitB ⟨#[58]⟩ 0 (xs.length - 1) ⟨(Lib.join xs [58]).toArray⟩).map (·.data.toList) = xs := hd.trans h2
  have : ((Lib.splitB ⟨#[58]⟩ 0 (xs.length - 1) ⟨(Lib.join xs [58]).toArray⟩).map (·.data.toList)).map strB = xs.map strB := by rw [hd2]
  rw [List.map_map] at this
  rw [← this]
  exact ((List.map_congr_left (fun x _ => by exact ba_eq (by simp [strB]))).trans (List.map_id _)).symm
 rw [hs, hc]
 refine ⟨_, rfl, ⟨fun _ _ => trivial, (xs.map strB).map Value.string, ?_, ?_⟩, below_alloc (Below.refl _ _) _⟩
 ·have h2 := World.ownsRow_lit (base := w.heap.size) (e := 9) (size := 1) w ((xs.map strB).map Value.string).toArray xs.length (Nat.le_refl _) (by simp only [maxLen]; omega) (by simp)
  show (w.alloc _).ownsRow w.heap.size 9 1 _ _ _
  simpa using h2
 ·exact ⟨by simp [Kd.string, Kd.scalar], fun j p hp => by
   show ((((xs.map strB).map Value.string).drop (j * 1)).take 1) = [Value.string p]
   rw [Nat.mul_one]
   have hj : j < (xs.map strB).length := (List.getElem?_eq_some_iff.1 hp).1
   rw [List.drop_eq_getElem_cons (by simpa using hj), List.take_succ_cons, List.take_zero]
   have := (List.getElem?_eq_some_iff.1 hp).2
   simp [← this]⟩
theorem ints_reps (w : World) (base : Nat) (ok : Nat → Prop) (l : List Int) : Reps (Kd.M (Kd.int .i64) w base ok) (Kd.int .i64).sz l (l.map (Value.int .i64)) := by
 refine ⟨by simp [Kd.int, Kd.scalar], fun j p hp => ?_⟩
 show (((l.map (Value.int .i64)).drop (j * 1)).take 1) = [Value.int .i64 p]
 rw [Nat.mul_one]
 have hj : j < l.length := (List.getElem?_eq_some_iff.1 hp).1
 rw [List.drop_eq_getElem_cons (by simpa using hj), List.take_succ_cons, List.take_zero]
 have := (List.getElem?_eq_some_iff.1 hp).2
 simp [← this]
theorem joinedLit (W : World) (ns : List Int) (cells : Array Value) (hcells : cells = (ns.map (Value.int .i64)).toArray) (n : Nat) (hn : n = ns.length) (h0 : 0 < ns.length) (hok : ∀ n ∈ ns, IntOk n) (hl : ns.length ≤ 1000) (he : Env W) :
 Calls Tryz.prog 21 #[.slice (some ⟨W.heap.size, 0, none⟩) n n] (W.alloc (.cells cells 3)) fun e w' => e = .returned (.string ⟨(joinD ns).toArray⟩) ∧ Below W.heap.size W w' := by
 subst hcells hn
 have hC : Kd.C (Kd.int .i64) (W.alloc (.cells (ns.map (Value.int .i64)).toArray 3)) (some ⟨W.heap.size, 0, none⟩) ns.length ns := by
  have hr : Kd.R (Kd.int .i64) 3 (W.alloc (.cells (ns.map (Value.int .i64)).toArray 3)) W.heap.size (fun _ => True) (.slice (some ⟨W.heap.size, 0, none⟩) ns.length ns.length) ns := by
   refine ⟨fun _ _ => trivial, ns.map (Value.int .i64), ?_, ?_⟩
   ·have h2 := World.ownsRow_lit (base := W.heap.size) (e := 3) (size := 1) W (ns.map (Value.int .i64)).toArray ns.length (Nat.le_refl _) (by simp only [maxLen]; omega) (by simp)
    show (W.alloc _).ownsRow W.heap.size 3 1 _ _ _
    simpa using h2
   ·exact ints_reps _ _ _ ns
  obtain ⟨A, c, he2, _, hC⟩ := Kd.R_reads hr
  injection he2 with h1 _ _
  rw [h1]
  exact hC
 refine (joined_calls _ _ ns _ hC (Nat.le_refl _) hok h0 hl (he.below (below_alloc (Below.refl _ _) _))).mono ?_
 rintro e w' ⟨rfl, hb⟩
 exact ⟨rfl, below_step (below_alloc (Below.refl _ _) _) hb⟩
theorem app_str {ops : Array Oper} {rest : List Oper} {o : Oper} {a : Act} {Q : Exit → Act → World → Prop} {wr W : World} (hgd : o.guard = none) (s x : Operand) (ho : o.op = .call { callee := .builtin .append, args := #[s, x], argTypes := #[65, 65] })
 (v : Value) (xs : List (List UInt8)) (y : List UInt8) (zs : List (List UInt8)) (hz : xs ++ [y] = zs) (p : ByteArray) (hp : p = strB y) (hs : a.eval s = v) (hx : a.eval x = .slice (some ⟨W.heap.size, 0, none⟩) 1 1) (HO : Kd.R Kd.string 9 W wr.heap.size (fun _ => True) v (xs.map strB)) (HB : Below wr.heap.size wr W) (hl : xs.length ≤ 1099511627776)
 (h : ∀ v1 w1, Kd.R Kd.string 9 w1 wr.heap.size (fun _ => True) v1 (zs.map strB) → Below wr.heap.size wr w1 → W.grownBy w1 v.ownBlock → wpList Tryz.prog ops Q rest (a.put o.dst v1) w1) : wpList Tryz.prog ops Q (o :: rest) a (W.alloc (.cells #[.string p] 9)) := by
 refine Kd.R_append Kd.string (w0 := wr) wr.heap.size hgd s x 65 9 (.string ⟨#[]⟩) 16 ho Tryz.underlying65 info9 rfl (by decide) (by omega) v (xs.map strB) p [.string p] (fun _ => True) (fun _ => False) hs hx rfl (fun _ hk => hk.elim) (fun _ _ => trivial) HO HB HB.size (by rw [List.length_map]; omega) (fun v1 w1 hr hb hg _ => h v1 w1 ?_ hb hg)
 rw [← hz, List.map_append, List.map_cons, List.map_nil, ← hp]
 exact hr
theorem ack_reps (a : S53) (cs : List Value) (h : cs = [.int .i64 a.f0, .int .i64 a.f1, .int .i64 a.f2, .int .i64 a.f3, .int .i64 a.f4]) : cs.toArray = #[.int .i64 a.f0, .int .i64 a.f1, .int .i64 a.f2, .int .i64 a.f3, .int .i64 a.f4] := by rw [h]
theorem ackJ (a : S53) (h : AckOk a) : (joinD (ackInts a)).length ≤ 110 := by have := joinD_length _ h; simpa [ackInts] using this
theorem item_cells (y : S40) (cs : List Value) (A : Option Addr) (c : Nat) (h : cs = [.int .i64 y.f0, .int .i64 y.f1, .slice A y.f2.length c]) : cs.toArray = #[.int .i64 y.f0, .int .i64 y.f1, .slice A y.f2.length c] := by rw [h]
theorem R_any {α : Type} {d : Kd α} {e : Nat} {w : World} {b : Nat} {ok : Nat → Prop} {v : Value} {xs : List α} (h : d.R e w b ok v xs) : ∃ A n c, v = .slice A n c := by
 obtain ⟨A, c, h⟩ := Kd.R_slice h
 exact ⟨A, _, c, h⟩
theorem ack_step (p : List (List UInt8)) (f : S53 → List UInt8) (l : List S53) (j : Nat) (hj : j < l.length) (y : S53) (hy : y = l[j]) : p ++ (l.take j).map f ++ [f y] = p ++ (l.take (j + 1)).map f := by
 rw [List.take_succ_eq_append_getElem hj, hy, List.map_append, List.append_assoc]
 rfl
theorem kept_zero (p : List (List UInt8)) (h : List UInt8) (f : S40 → List UInt8) (l : List S40) : p ++ [h] = p ++ h :: (l.take 0).map f := by simp
theorem kept_step (p : List (List UInt8)) (h : List UInt8) (f : S40 → List UInt8) (l : List S40) (j : Nat) (hj : j < l.length) (y : S40) (hy : y = l[j]) : p ++ h :: (l.take j).map f ++ [f y] = p ++ h :: (l.take (j + 1)).map f := by
 rw [List.take_succ_eq_append_getElem hj, hy, List.map_append, List.append_assoc, List.cons_append]
 rfl
theorem acks_end {w : World} {b : Nat} {v : Value} {x : S50} {j : Nat} (hj : j = x.f4.length) (h : Kd.R Kd.string 9 w b (fun _ => True) v (((ints11 x).map Lib.itoa ++ (x.f4.take j).map ackD).map strB)) : Kd.R Kd.string 9 w b (fun _ => True) v ((partsA x).map strB) := by
 rw [hj, List.take_length] at h
 exact h
theorem item_some {w : World} {b : Nat} {v : Value} {x : S50} (hq : itemOn x) (h : Kd.R Kd.string 9 w b (fun _ => True) v ((partsA x ++ [tellD [105] x.f2]).map strB)) : Kd.R Kd.string 9 w b (fun _ => True) v ((partsB x).map strB) := by
 unfold partsB
 rw [if_pos hq]
 exact h
theorem item_none {w : World} {b : Nat} {v : Value} {x : S50} (hq : ¬ itemOn x) (h : Kd.R Kd.string 9 w b (fun _ => True) v ((partsA x).map strB)) : Kd.R Kd.string 9 w b (fun _ => True) v ((partsB x).map strB) := by
 unfold partsB
 rw [if_neg hq, List.append_nil]
 exact h
theorem kept_none {w : World} {b : Nat} {v : Value} {x : S50} (hq : ¬ svcOn x) (h : Kd.R Kd.string 9 w b (fun _ => True) v ((partsB x).map strB)) : Kd.R Kd.string 9 w b (fun _ => True) v ((obsParts x).map strB) := by
 unfold obsParts
 rw [if_neg hq, List.append_nil]
 exact h
theorem kept_end {w : World} {b : Nat} {v : Value} {x : S50} {j : Nat} (hq : svcOn x) (hj : j = x.f3.f1.length) (h : Kd.R Kd.string 9 w b (fun _ => True) v ((partsB x ++ ([115, 58] ++ Lib.itoa x.f3.f0) :: (x.f3.f1.take j).map (tellD [107])).map strB)) : Kd.R Kd.string 9 w b (fun _ => True) v ((obsParts x).map strB) := by
 unfold obsParts
 rw [if_pos hq]
 rw [hj, List.take_length] at h
 exact h
theorem obsParts_len (o : S50) (h : ObsOk o) : (obsParts o).length ≤ 1099511627776 := by
 have h1 := h.l4
 have h2 := h.l31
 unfold obsParts partsB partsA
 rw [List.length_append, List.length_append, List.length_append, List.length_map, List.length_map]
 have h3 : (ints11 o).length = 11 := rfl
 rw [h3]
 split <;> split <;> simp <;> omega
theorem obsParts_pos (o : S50) : 0 < ((obsParts o).map strB).length := by
 unfold obsParts partsB partsA
 rw [List.length_map, List.length_append, List.length_append, List.length_append, List.length_map]
 have h3 : (ints11 o).length = 11 := rfl
 omega
theorem isz_48' : (Tryz.prog.info? 48).map (·.size) = some 8 := by kernel_rfl
theorem isz_50' : (Tryz.prog.info? 50).map (·.size) = some 18 := by kernel_rfl
theorem isz_53' : (Tryz.prog.info? 53).map (·.size) = some 5 := by kernel_rfl
theorem isz_40' : (Tryz.prog.info? 40).map (·.size) = some 3 := by kernel_rfl
theorem add0' (g j : Nat) : (⟨g, 0, none⟩ : Addr).add j = ⟨g, j, none⟩ := by rw [Addr.add_mid, Nat.zero_add]
theorem ints_range {o : S50} (h : ObsOk o) : ∀ n ∈ ints11 o, IntOk n := h.ints
theorem joined11 (o : S50) (h : ObsOk o) : (joinD (ints11 o)).length ≤ 242 := by have := joinD_length _ h.ints; simpa [ints11] using this

set_option maxHeartbeats 8000000 in
set_option maxRecDepth 100000 in
theorem implTell_calls (code : Int) (A1 : Option Addr) (c1 : Nat) (l : List S50) (w : World) (hr : Kd.C k50 w A1 l.length l) (hc : l.length ≤ c1) (hcode : IntOk code) (hok : ∀ o ∈ l, ObsOk o) (hl : l.length ≤ 1048576) (ht : (textD code l).length ≤ 70368744177664) (he : Env w) :
 Calls Tryz.prog 7 #[.agg #[.int .i64 code, .slice A1 l.length c1]] w fun e w' => ∃ v, e = .returned v ∧ w'.ownsRow w.heap.size 5 1 v (textD code l).length (Lib.byteCells (textD code l)) ∧ Below w.heap.size w w' := by
 have HR := Aside0.mk hr
 have HOK := Aside0.mk hok
 have HL := Aside0.mk hl
 have HT := Aside0.mk ht
 have HE := Aside0.mk he
 have HCO := Aside0.mk hcode
 clear hr hc hok hl ht he hcode
 go_enter Tryz.func7, Tryz.ntmps7
 go_wp2_with ((with_reducible refine gate_dst (N := 1) rfl ?_); refine box_event ?hg (N := 1) ?hd (cs := #[.int .i64 code, .slice A1 l.length c1]) (t := 30) ?hr ?_; (case hd => rfl); (case hg => rfl); (case hr => first | (go_simp; done) | (go_simp; rfl)); intro g1 hg1 w1 bk1 hb1; have BK := Aside0.mk bk1; have HB1 := Aside0.mk hb1; have k0 : (w1.alloc (.cells #[.slice none 0 0, .int .i64 0, .int .i8 0] 59)).cell? ⟨g1, 0, none⟩ = some (.int .i64 code) := blk_cell (blk_below bk1 (below_alloc (Below.refl _ _) _)) 0; have HU := Aside0.mk (Lib.fresh_isBuffer 59 5 w1); clear hg1 bk1 hb1)
 refine (itoa_calls code HCO.out _ (HE.out.below (below_alloc HB1.out _))).mono ?_
 rintro e w2 ⟨rfl, hb⟩
 have HU2 := Aside0.mk (HU.out.old hb)
 have HB2 := Aside0.mk (below_step (below_alloc HB1.out _) hb)
 have HSZ := Aside0.mk (show (⟨(Lib.itoa code).toArray⟩ : ByteArray).size ≤ 21 by rw [Lib.size_eq]; exact Lib.itoa_length_le code HCO.out.1 HCO.out.2)
 have k1 : w2.cell? ⟨g1, 1, none⟩ = some (.slice A1 l.length c1) := blk_cell (blk_below BK.out (below_step (below_alloc (Below.refl _ _) _) hb)) 1
 clear hb k0
 have HLC := Aside0.mk (Lib.itoa_length_le code HCO.out.1 HCO.out.2)
 have hsz : ¬ 9223372036854775807 < 5 + (Lib.itoa code).length := by have := HLC.out; omega
 have hsz2 : ¬ 9223372036854775807 < 5 + (Lib.itoa code).length + 1 := by have := HLC.out; omega
 go_wp2_with fail
 refine Calls.mono (Tryz.Buffer_WriteString_k _ _ _ _ _ HU2.out ?sa ?sb ?sc) ?_
 case sa => have := HB2.out.size; have := HU2.out.lt; omega
 case sb => intro v hv; cases hv
 case sc => rw [Lib.size_eq, ba_app, ba_app]; have := HLC.out; simp only [List.length_append, List.length_nil, List.length_cons, List.toList_toArray]; omega
 rintro e w3 ⟨rfl, hI3, hb3, hk3⟩
 have hl1 : w1.heap.size ≤ w2.heap.size := by have := HU2.out.lt; omega
 have HB3 := Aside0.mk (show Below w.heap.size w w3 from HB2.out.trans (hb3.mono HB1.out.size))
 have HI3 := Aside0.mk (show Lib.IsBuffer 59 5 w1.heap.size w1.heap.size (Lib.byteCells (textD code (l.take 0))) w3 by simpa [textD, Lib.byteCells, ba_app] using hI3)
 have hg1 : g1 < w1.heap.size := blk_lt BK.out
 have hk1 : w3.cell? ⟨g1, 1, none⟩ = some (.slice A1 l.length c1) := by
  have h := hb3.block g1 hg1
  have h2 := k1
  simp only [World.cell?] at h2 ⊢
  rw [h]
  exact h2
 have HW1 := Aside0.mk (show w.heap.size ≤ w1.heap.size from HB1.out.size)
 clear hI3 hb3 hk3 k1 hsz hsz2 HSZ hl1 hg1 HU2 HU
 go_wp2_with fail
 clear hk1
 go_loopg [21] l.length (fun gk v21 w' => ∃ i : Nat, v21 = .int .i64 (i : Nat) ∧ Aside0 (gk + i = l.length) ∧ Aside0 (Lib.IsBuffer 59 5 w1.heap.size w1.heap.size (Lib.byteCells (textD code (l.take i))) w') ∧ Aside0 (Below w.heap.size w w'))
 case atStart => exact ⟨0, rfl, ⟨by omega⟩, HI3, HB3⟩
 case round =>
  clear HI3 HB3 HB2 HB1 BK
  obtain ⟨i, rfl, HG, HI, HB⟩ := hrel
  by_cases hlt : i < l.length
  ·skip
   obtain ⟨k1, hk1⟩ : ∃ m, gk = m + 1 := ⟨gk - 1, by have := HG.out; omega⟩
   subst hk1
   have HLT := Aside0.mk hlt
   obtain ⟨ad, cs, ha, _, hK, hcl0⟩ := Kd.C_get HR.out z50 (i : Int) (by omega) (by omega)
   have hcl : ∀ j u, cs[j]? = some u → w.cell? (ad.add (i * 18 + j)) = some u := hcl0
   cases ha
   obtain ⟨x, hx⟩ : ∃ x, x = l.getD (i : Int).toNat z50 := ⟨_, rfl⟩
   rw [← hx] at hK
   have HXL := Aside0.mk (show x = l[i] by rw [hx, Int.toNat_natCast]; simp [List.getD, hlt])
   have HOX := Aside0.mk (show ObsOk x from HOK.out x (by rw [HXL.out]; exact List.getElem_mem hlt))
   obtain ⟨A4, c4, A6, c6, A7, c7, A8, c8, A9, c9, hcs, hl4, hC4, hl6, hC6, hl7, hC7, hl8, hC8, hl9, hC9⟩ := k50_open hK
   have HCS := Aside0.mk hcs
   have HC4 := Aside0.mk hC4
   have HC6 := Aside0.mk hC6
   have HC8 := Aside0.mk hC8
   have HL4 := Aside0.mk hl4
   have HL6 := Aside0.mk hl6
   have HL8 := Aside0.mk hl8
   have HCL := Aside0.mk (show ∀ j u, cs[j]? = some u → wr.cell? ((ad.add (i * 18)).add j) = some u from fun j u h => by rw [add_add]; exact (HB.out.cell (World.block_lt_of_cell? w _ (hcl j u h))).trans (hcl j u h))
   have HSZ := Aside0.mk (show (Tryz.prog.info? 50).map (·.size) = some cs.length by rw [hcs]; exact isz_50')
   have HSA := Aside0.mk (show (Tryz.prog.info? 50).map (·.size) = some cs.toArray.size by rw [hcs]; exact isz_50')
   have HOL := Aside0.mk (show (#[.int .i64 0, .int .i64 0, .int .i64 0, .int .i64 0, .slice none 0 0, .int .i64 0, .slice none 0 0, .slice none 0 0, .slice none 0 0, .slice none 0 0, .int .i64 0, .int .i64 0, .int .i64 0, .int .i64 0, .int .i64 0, .int .i64 0, .int .i64 0, .int .i64 0] : Array Value).size = cs.toArray.size by rw [hcs]; rfl)
   have HON := Aside0.mk (all_oneCell_toArray (k50.K_one hK))
   have HX0 := Aside0.mk (show w.heap.size ≤ wr.heap.size from HB.out.size)
   obtain ⟨vs, hvs⟩ : ∃ vs : List Value, vs = [.int .i64 x.f6.f0, .int .i64 x.f6.f1, .int .i64 x.f6.f2, .int .i64 x.f6.f3, .int .i64 x.f6.f4, .int .i64 x.f6.f5, .int .i64 x.f6.f6, .int .i64 x.f6.f7] := ⟨_, rfl⟩
   have HVS := Aside0.mk hvs
   have HVZ := Aside0.mk (show (Tryz.prog.info? 48).map (·.size) = some vs.length by rw [hvs]; exact isz_48')
   have HVA := Aside0.mk (show (Tryz.prog.info? 48).map (·.size) = some vs.toArray.size by rw [hvs]; exact isz_48')
   have HVO := Aside0.mk (show (#[.int .i64 0, .int .i64 0, .int .i64 0, .int .i64 0, .int .i64 0, .int .i64 0, .int .i64 0, .int .i64 0] : Array Value).size = vs.toArray.size by rw [hvs]; rfl)
   have HVN := Aside0.mk (all_oneCell_toArray (cs := vs) (by rw [hvs]; intro v hv; simp only [List.mem_cons, List.mem_nil_iff, or_false] at hv; rcases hv with rfl | rfl | rfl | rfl | rfl | rfl | rfl | rfl; all_goals rfl))
   have hu := Tryz.underlying50
   have hu2 := Tryz.underlying48
   clear hcl0 hcl hK hcs hx hvs hl4 hC4 hl6 hC6 hl7 hC7 hl8 hC8 hl9 hC9
   go_wp2_with (first | ((with_reducible refine gate_dst (N := 24) rfl ?_); refine wpList_load_at rfl 50 (.tmp 23) rfl _ rfl cs _ HCL.out hu rfl HSZ.out ?_) | ((with_reducible refine gate_dst (N := 5) rfl ?_); refine box_event ?hg (N := 5) ?hd (cs := #[.int .i64 0, .int .i64 0, .int .i64 0, .int .i64 0, .slice none 0 0, .int .i64 0, .slice none 0 0, .slice none 0 0, .slice none 0 0, .slice none 0 0, .int .i64 0, .int .i64 0, .int .i64 0, .int .i64 0, .int .i64 0, .int .i64 0, .int .i64 0, .int .i64 0]) (t := 50) ?hr ?_; (case hd => rfl); (case hg => rfl); (case hr => first | (go_simp; done) | (go_simp; rfl)); intro g5 hgg wa bk hbb; have KA := Aside0.mk bk; have HBA := Aside0.mk hbb; have HG5 := Aside0.mk (show wr.heap.size ≤ g5 by omega); have LT5 := Aside0.mk (show g5 < wa.heap.size from blk_lt bk); clear hgg bk hbb) | ((with_reducible refine gate_store (t := 50) (p := 5) rfl ?_); refine wpList_put_row rfl 50 (.tmp 5) (.tmp 24) rfl g5 cs.toArray rfl rfl 50 _ KA.out HSA.out HOL.out HON.out ?_; intro wb hkb hbb hkept; have K5 := Aside0.mk (show wb.heap[g5]? = some (.cells #[.int .i64 x.f0, .int .i64 x.f1, .int .i64 x.f2.f0, .int .i64 x.f2.f1, .slice A4 x.f2.f2.length c4, .int .i64 x.f3.f0, .slice A6 x.f3.f1.length c6, .slice A7 x.f3.f2.length c7, .slice A8 x.f4.length c8, .slice A9 x.f5.length c9, .int .i64 x.f6.f0, .int .i64 x.f6.f1, .int .i64 x.f6.f2, .int .i64 x.f6.f3, .int .i64 x.f6.f4, .int .i64 x.f6.f5, .int .i64 x.f6.f6, .int .i64 x.f6.f7] 50 (0, 0)) by rw [hkb, HCS.out]); have BW := Aside0.mk (hbb wr HBA.out HG5.out); clear hkb hbb hkept KA HBA; have HVC := Aside0.mk (show ∀ j u, vs[j]? = some u → wb.cell? ((⟨g5, 10, none⟩ : Addr).add j) = some u from fun j u h => by rw [Addr.add_mid, blk_cell K5.out]; rw [HVS.out] at h; have hj := (List.getElem?_eq_some_iff.1 h).1; simp only [List.length_cons, List.length_nil] at hj; rw [← h]; match j, hj with | 0, _ => rfl | 1, _ => rfl | 2, _ => rfl | 3, _ => rfl | 4, _ => rfl | 5, _ => rfl | 6, _ => rfl | 7, _ => rfl)) | ((with_reducible refine gate_dst (N := 26) rfl ?_); refine wpList_load_at rfl 48 (.tmp 25) rfl ⟨g5, 10, none⟩ rfl vs _ HVC.out hu2 rfl HVZ.out ?_) | ((with_reducible refine gate_dst (N := 6) rfl ?_); refine box_event ?hg (N := 6) ?hd (cs := #[.int .i64 0, .int .i64 0, .int .i64 0, .int .i64 0, .int .i64 0, .int .i64 0, .int .i64 0, .int .i64 0]) (t := 48) ?hr ?_; (case hd => rfl); (case hg => rfl); (case hr => first | (go_simp; done) | (go_simp; rfl)); intro g6 hgg wc bk hbb; have KC := Aside0.mk bk; have HBC := Aside0.mk (below_step BW.out hbb); have HG6 := Aside0.mk (show wr.heap.size ≤ g6 by have := BW.out.size; omega); have HN56 := Aside0.mk (show ¬ g5 = g6 by have h5 := blk_lt K5.out; have := hgg; intro e; omega); replace K5 := Aside0.mk (blk_below K5.out hbb); clear BW; clear hgg bk hbb) | ((with_reducible refine gate_store (t := 48) (p := 6) rfl ?_); refine wpList_put_row rfl 48 (.tmp 6) (.tmp 26) rfl g6 vs.toArray rfl rfl 48 _ KC.out HVA.out HVO.out HVN.out ?_; intro wd hkb hbb hkept; have K6 := Aside0.mk (show wd.heap[g6]? = some (.cells #[.int .i64 x.f6.f0, .int .i64 x.f6.f1, .int .i64 x.f6.f2, .int .i64 x.f6.f3, .int .i64 x.f6.f4, .int .i64 x.f6.f5, .int .i64 x.f6.f6, .int .i64 x.f6.f7] 48 (0, 0)) by rw [hkb, HVS.out]); have BW := Aside0.mk (hbb wr HBC.out HG6.out); replace K5 := Aside0.mk (blk_kept K5.out hkept HN56.out); clear hkb hbb hkept KC HBC HVC; have k5_0 : wd.cell? ⟨g5, 0, none⟩ = some (.int .i64 x.f0) := blk_cell K5.out 0; have k5_1 : wd.cell? ⟨g5, 1, none⟩ = some (.int .i64 x.f1) := blk_cell K5.out 1; have k5_9 : wd.cell? ⟨g5, 9, none⟩ = some (.slice A9 x.f5.length c9) := blk_cell K5.out 9; have k6_0 : wd.cell? ⟨g6, 0, none⟩ = some (.int .i64 x.f6.f0) := blk_cell K6.out 0; have k6_1 : wd.cell? ⟨g6, 1, none⟩ = some (.int .i64 x.f6.f1) := blk_cell K6.out 1; have k6_2 : wd.cell? ⟨g6, 2, none⟩ = some (.int .i64 x.f6.f2) := blk_cell K6.out 2; have k6_3 : wd.cell? ⟨g6, 3, none⟩ = some (.int .i64 x.f6.f3) := blk_cell K6.out 3; have k6_4 : wd.cell? ⟨g6, 4, none⟩ = some (.int .i64 x.f6.f4) := blk_cell K6.out 4; have k6_5 : wd.cell? ⟨g6, 5, none⟩ = some (.int .i64 x.f6.f5) := blk_cell K6.out 5; have k6_6 : wd.cell? ⟨g6, 6, none⟩ = some (.int .i64 x.f6.f6) := blk_cell K6.out 6; have k6_7 : wd.cell? ⟨g6, 7, none⟩ = some (.int .i64 x.f6.f7) := blk_cell K6.out 7))
   clear k5_0 k5_1 k5_9 k6_0 k6_1 k6_2 k6_3 k6_4 k6_5 k6_6 k6_7 K6
   refine Calls.mono (joinedLit wd (ints11 x) _ rfl 11 rfl (by simp [ints11]) HOX.out.ints (by simp [ints11]) (HE.out.below (below_step HB.out BW.out))) ?_
   rintro e we ⟨rfl, hb⟩
   replace K5 := Aside0.mk (blk_below K5.out hb)
   replace BW := Aside0.mk (below_step BW.out hb)
   have HEW := Aside0.mk (HE.out.below (below_step HB.out BW.out))
   clear hb
   go_wp2_with fail
   refine Calls.mono (split_calls we ((ints11 x).map Lib.itoa) (by simp [ints11]) (by intro y hy b hb; obtain ⟨n, _, rfl⟩ := List.mem_map.1 hy; exact no58 n b hb) (by have := joined11 x HOX.out; unfold joinD at this; omega) (by simp [ints11]) HEW.out) ?_
   rintro e wg ⟨v7, rfl, ho, hb⟩
   replace K5 := Aside0.mk (blk_below K5.out hb)
   have HP := Aside0.mk (show Kd.R Kd.string 9 wg wr.heap.size (fun _ => True) v7 (((ints11 x).map Lib.itoa ++ (x.f4.take 0).map ackD).map strB) by simpa using Kd.R_lower ho BW.out.size)
   replace BW := Aside0.mk (below_step BW.out hb)
   obtain ⟨A7p, n7p, c7p, e7⟩ := R_any ho
   subst e7
   clear ho hb HEW
   have k5_8 : wg.cell? ⟨g5, 8, none⟩ = some (.slice A8 x.f4.length c8) := blk_cell K5.out 8
   go_wp2_with fail
   clear k5_8
   go_loopg [7, 56] x.f4.length (fun gk v7 v56 w' => ∃ (j : Nat) (Av : Option Addr) (nv cv : Nat), v7 = .slice Av nv cv ∧ v56 = .int .i64 (j : Nat) ∧ Aside0 (gk + j = x.f4.length) ∧ Aside0 (w'.heap[g5]? = some (.cells #[.int .i64 x.f0, .int .i64 x.f1, .int .i64 x.f2.f0, .int .i64 x.f2.f1, .slice A4 x.f2.f2.length c4, .int .i64 x.f3.f0, .slice A6 x.f3.f1.length c6, .slice A7 x.f3.f2.length c7, .slice A8 x.f4.length c8, .slice A9 x.f5.length c9, .int .i64 x.f6.f0, .int .i64 x.f6.f1, .int .i64 x.f6.f2, .int .i64 x.f6.f3, .int .i64 x.f6.f4, .int .i64 x.f6.f5, .int .i64 x.f6.f6, .int .i64 x.f6.f7] 50 (0, 0))) ∧ Aside0 (Kd.R Kd.string 9 w' wr.heap.size (fun _ => True) (.slice Av nv cv) (((ints11 x).map Lib.itoa ++ (x.f4.take j).map ackD).map strB)) ∧ Aside0 (Below wr.heap.size wr w'))
   case atStart => exact ⟨0, _, _, _, rfl, rfl, ⟨by omega⟩, K5, HP, BW⟩
   case round =>
    clear K5 HP BW
    rename World => wq
    obtain ⟨j, Av, nv, cv, rfl, rfl, HGJ, K5, HP, BW⟩ := hrel
    by_cases hlj : j < x.f4.length
    ·obtain ⟨kj, hkj⟩ : ∃ m, gk = m + 1 := ⟨gk - 1, by have := HGJ.out; omega⟩
     subst hkj
     have HLJ := Aside0.mk hlj
     obtain ⟨ad8, cs8, ha8, _, hK8, hcl80⟩ := Kd.C_get HC8.out z53 (j : Int) (by omega) (by omega)
     have hcl8 : ∀ m u, cs8[m]? = some u → w.cell? (ad8.add (j * 5 + m)) = some u := hcl80
     cases ha8
     obtain ⟨y, hy⟩ : ∃ y, y = x.f4.getD (j : Int).toNat z53 := ⟨_, rfl⟩
     rw [← hy] at hK8
     have HYL := Aside0.mk (show y = x.f4[j] by rw [hy, Int.toNat_natCast]; simp [List.getD, hlj])
     have HYO := Aside0.mk (show AckOk y from HOX.out.acks y (by rw [HYL.out]; exact List.getElem_mem hlj))
     have hcs8 := k53_open hK8
     have HCS8 := Aside0.mk hcs8
     have HCL8 := Aside0.mk (show ∀ m u, cs8[m]? = some u → wq.cell? ((ad8.add (j * 5)).add m) = some u from fun m u h => by rw [add_add]; exact ((below_step HB.out BW.out).cell (World.block_lt_of_cell? w _ (hcl8 m u h))).trans (hcl8 m u h))
     have HSZ8 := Aside0.mk (show (Tryz.prog.info? 53).map (·.size) = some cs8.length by rw [hcs8]; exact isz_53')
     have HSA8 := Aside0.mk (show (Tryz.prog.info? 53).map (·.size) = some cs8.toArray.size by rw [hcs8]; exact isz_53')
     have HOL8 := Aside0.mk (show (#[.int .i64 0, .int .i64 0, .int .i64 0, .int .i64 0, .int .i64 0] : Array Value).size = cs8.toArray.size by rw [hcs8]; rfl)
     have HON8 := Aside0.mk (all_oneCell_toArray (k53.K_one hK8))
     have hu53 := Tryz.underlying53
     have HP0 := Aside0.mk BW.out.size
     clear hcl80 hcl8 hK8 hcs8 hy
     go_wp2_with (first | ((with_reducible refine gate_dst (N := 59) rfl ?_); refine wpList_load_at rfl 53 (.tmp 58) rfl _ rfl cs8 _ HCL8.out hu53 rfl HSZ8.out ?_) | ((with_reducible refine gate_dst (N := 9) rfl ?_); refine box_event ?hg (N := 9) ?hd (cs := #[.int .i64 0, .int .i64 0, .int .i64 0, .int .i64 0, .int .i64 0]) (t := 53) ?hr ?_; (case hd => rfl); (case hg => rfl); (case hr => first | (go_simp; done) | (go_simp; rfl)); intro g9 hgg wa bk hbb; have K9 := Aside0.mk bk; replace K5 := Aside0.mk (blk_below K5.out hbb); replace HP := Aside0.mk (Kd.R_below HP.out hbb); replace BW := Aside0.mk (below_step BW.out hbb); have HG9 := Aside0.mk (show wr.heap.size ≤ g9 by have := HP0.out; omega); clear hgg bk hbb) | ((with_reducible refine gate_store (t := 53) (p := 9) rfl ?_); refine wpList_put_row rfl 53 (.tmp 9) (.tmp 59) rfl g9 cs8.toArray rfl rfl 53 _ K9.out HSA8.out HOL8.out HON8.out ?_; intro wb hkb hbb hkept; have hn59 : ¬ g5 = g9 := (fun e => by have h1 := K5.out; have h2 := K9.out; rw [e, h2] at h1; injection h1 with h1; injection h1 with _ h1; exact absurd h1 (by decide)); replace K5 := Aside0.mk (blk_kept K5.out hkept hn59); replace HP := Aside0.mk (Kd.R_mono (Kd.R_kept (Kd.R_types HP.out K9.out (by decide)) hkept (fun q hq e => hq.2 e)) (fun _ _ => trivial)); replace BW := Aside0.mk (hbb wr BW.out HG9.out); rw [ack_reps y cs8 HCS8.out] at hkb; have k9_0 : wb.cell? ⟨g9, 0, none⟩ = some (.int .i64 y.f0) := blk_cell hkb 0; have k9_1 : wb.cell? ⟨g9, 1, none⟩ = some (.int .i64 y.f1) := blk_cell hkb 1; have k9_2 : wb.cell? ⟨g9, 2, none⟩ = some (.int .i64 y.f2) := blk_cell hkb 2; have k9_3 : wb.cell? ⟨g9, 3, none⟩ = some (.int .i64 y.f3) := blk_cell hkb 3; have k9_4 : wb.cell? ⟨g9, 4, none⟩ = some (.int .i64 y.f4) := blk_cell hkb 4; clear hkb hbb hkept hn59 K9))
     refine Calls.mono (joinedLit _ (ackInts y) _ rfl 5 rfl (by simp [ackInts]) HYO.out (by simp [ackInts]) (HE.out.below (below_step HB.out BW.out))) ?_
     rintro e wf ⟨rfl, hb⟩
     replace K5 := Aside0.mk (blk_below K5.out hb)
     replace HP := Aside0.mk (Kd.R_below HP.out hb)
     replace BW := Aside0.mk (below_step BW.out hb)
     have hq : ¬ 9223372036854775807 < 2 + (joinD (ackInts y)).length := by have := ackJ y HYO.out; omega
     clear hb k9_0 k9_1 k9_2 k9_3 k9_4
     go_wp2_with ((with_reducible refine gate_builtin (b := .append) (xs := #[.tmp 60, .tmp 74]) rfl ?_); at_builtin; refine app_str rfl (.tmp 60) (.tmp 74) rfl _ _ (ackD y) _ (ack_step _ ackD x.f4 j HLJ.out y HYL.out) _ (ba_eq (by rw [ba_app]; rfl)) rfl rfl HP.out BW.out (by simp [ints11]; have := HOX.out.l4; omega) ?_; intro v7n wx hr hb hg; replace K5 := Aside0.mk (blk_grown K5.out hg (Kd.R_ne HP.out K5.out (by decide))); replace HP := Aside0.mk hr; replace BW := Aside0.mk hb; clear hr hb hg)
     obtain ⟨An, nn, cn, en⟩ := R_any HP.out
     subst en
     go_roundg kj
     case measure => omega
     case rel => exact ⟨j + 1, _, _, _, rfl, by rw [w64n (by have := HOX.out.l4; have := HLJ.out; omega)], ⟨by have := HGJ.out; omega⟩, K5, HP, BW⟩
    ·have HJE := Aside0.mk (show j = x.f4.length by have := HGJ.out; omega)
     have tlj : decide (j < x.f4.length) = false := decide_eq_false hlj
     replace HP := Aside0.mk (show Kd.R Kd.string 9 wq wr.heap.size (fun _ => True) _ ((partsA x).map strB) from acks_end HJE.out HP.out)
     clear hlj HJE HGJ
     have k5_2 : wq.cell? ⟨g5, 2, none⟩ = some (.int .i64 x.f2.f0) := blk_cell K5.out 2
     have k5_3 : wq.cell? ⟨g5, 3, none⟩ = some (.int .i64 x.f2.f1) := blk_cell K5.out 3
     have k5_4 : wq.cell? ⟨g5, 4, none⟩ = some (.slice A4 x.f2.f2.length c4) := blk_cell K5.out 4
     go_upto_region 13 with fail
     go_cut [93] (fun v93 W => v93 = .bool (decide (itemOn x)) ∧ wq = W)
     case first =>
      by_cases e0 : x.f2.f0 = 0
      ·skip
       by_cases e1 : x.f2.f1 = 0
       ·skip
        by_cases e2 : x.f2.f2.length = 0
        ·skip
         go_wp2_with fail
         go_meet
         exact ⟨by rw [decide_eq_false (show ¬ itemOn x from fun h => by unfold itemOn at h; omega)], rfl⟩
        ·have e3 : 0 < x.f2.f2.length := by omega
         have t2 : decide (0 < x.f2.f2.length) = true := decide_eq_true e3
         go_wp2_with fail
         go_meet
         exact ⟨by rw [decide_eq_true (show itemOn x from .inr (.inr e3))], rfl⟩
       ·have t1 : (x.f2.f1 == (0 : Int)) = false := by simpa using e1
        go_wp2_with fail
        go_meet
        exact ⟨by rw [decide_eq_true (show itemOn x from .inr (.inl e1))], rfl⟩
      ·have t0 : (x.f2.f0 == (0 : Int)) = false := by simpa using e0
       go_wp2_with fail
       go_meet
       exact ⟨by rw [decide_eq_true (show itemOn x from .inl e0)], rfl⟩
     case rest =>
      obtain ⟨rfl, rfl⟩ := hcut
      obtain ⟨q, hq⟩ : ∃ q, q = decide (itemOn x) := ⟨_, rfl⟩
      rw [← hq]
      have HQ := Aside0.mk hq
      clear hq
      have HPL := Aside0.mk (show (partsA x).length ≤ 1099511627000 by simp [partsA, ints11]; have := HOX.out.l4; omega)
      go_upto_if 93 with fail
      go_cut [7] (fun v7 W => ∃ (Av : Option Addr) (nv cv : Nat) (Wn : World), Wn = W ∧ v7 = .slice Av nv cv ∧ Aside0 (Wn.heap[g5]? = some (.cells #[.int .i64 x.f0, .int .i64 x.f1, .int .i64 x.f2.f0, .int .i64 x.f2.f1, .slice A4 x.f2.f2.length c4, .int .i64 x.f3.f0, .slice A6 x.f3.f1.length c6, .slice A7 x.f3.f2.length c7, .slice A8 x.f4.length c8, .slice A9 x.f5.length c9, .int .i64 x.f6.f0, .int .i64 x.f6.f1, .int .i64 x.f6.f2, .int .i64 x.f6.f3, .int .i64 x.f6.f4, .int .i64 x.f6.f5, .int .i64 x.f6.f6, .int .i64 x.f6.f7] 50 (0, 0))) ∧ Aside0 (Kd.R Kd.string 9 Wn wr.heap.size (fun _ => True) (.slice Av nv cv) ((partsB x).map strB)) ∧ Aside0 (Below wr.heap.size wr Wn))
      case first =>
       cases q with
       | true =>
        have hu40 := Tryz.underlying40
        go_wp2_with fail
        refine Calls.mono (tell_calls x.f2 A4 c4 _ _ (Kd.C_below HC4.out (below_step HB.out BW.out)) HL4.out HOX.out.item (HE.out.below (below_step HB.out BW.out)) (by decide)) ?_
        rintro e wf ⟨rfl, hb⟩
        replace K5 := Aside0.mk (blk_below K5.out hb)
        replace HP := Aside0.mk (Kd.R_below HP.out hb)
        replace BW := Aside0.mk (below_step BW.out hb)
        clear hb k5_2 k5_3 k5_4
        go_wp2_with ((with_reducible refine gate_builtin (b := .append) (xs := #[.tmp 94, .tmp 98]) rfl ?_); at_builtin; refine app_str rfl (.tmp 94) (.tmp 98) rfl _ _ (tellD [105] x.f2) _ rfl _ rfl rfl rfl HP.out BW.out (by have := HPL.out; omega) ?_; intro v7n wx hr hb hg; replace K5 := Aside0.mk (blk_grown K5.out hg (Kd.R_ne HP.out K5.out (by decide))); replace HP := Aside0.mk hr; replace BW := Aside0.mk hb; clear hr hb hg)
        obtain ⟨An, nn, cn, en⟩ := R_any HP.out
        subst en
        go_meet
        exact ⟨_, _, _, _, rfl, rfl, K5, ⟨item_some (of_decide_eq_true HQ.out.symm) HP.out⟩, BW⟩
       | false =>
        go_wp2_with fail
        go_meet
        exact ⟨_, _, _, _, rfl, rfl, K5, ⟨item_none (of_decide_eq_false HQ.out.symm) HP.out⟩, BW⟩
      case rest =>
       obtain ⟨Av2, nv2, cv2, w2q, rfl, rfl, K5n, HPn, BWn⟩ := hcut
       replace K5 := K5n
       replace HP := HPn
       replace BW := BWn
       clear K5n HPn BWn HPL HQ k5_2 k5_3 k5_4
       have k5_5 : w2q.cell? ⟨g5, 5, none⟩ = some (.int .i64 x.f3.f0) := blk_cell K5.out 5
       have k5_6 : w2q.cell? ⟨g5, 6, none⟩ = some (.slice A6 x.f3.f1.length c6) := blk_cell K5.out 6
       go_upto_region 15 with fail
       go_cut [110] (fun v110 W => v110 = .bool (decide (svcOn x)) ∧ w2q = W)
       case first =>
        by_cases e0 : x.f3.f0 = 0
        ·skip
         by_cases e2 : x.f3.f1.length = 0
         ·skip
          go_wp2_with fail
          go_meet
          exact ⟨by rw [decide_eq_false (show ¬ svcOn x from fun h => by unfold svcOn at h; omega)], rfl⟩
         ·have e3 : 0 < x.f3.f1.length := by omega
          have t2 : decide (0 < x.f3.f1.length) = true := decide_eq_true e3
          go_wp2_with fail
          go_meet
          exact ⟨by rw [decide_eq_true (show svcOn x from .inr e3)], rfl⟩
        ·have t0 : (x.f3.f0 == (0 : Int)) = false := by simpa using e0
         go_wp2_with fail
         go_meet
         exact ⟨by rw [decide_eq_true (show svcOn x from .inl e0)], rfl⟩
       case rest =>
        obtain ⟨rfl, rfl⟩ := hcut
        obtain ⟨q, hq⟩ : ∃ q, q = decide (svcOn x) := ⟨_, rfl⟩
        rw [← hq]
        have HQ := Aside0.mk hq
        clear hq
        have HPL := Aside0.mk (show (partsB x).length ≤ 1048600 by unfold partsB; rw [List.length_append]; have h1 : (partsA x).length ≤ 1048590 := (by simp [partsA, ints11]; have := HOX.out.l4; omega); split <;> simp <;> omega)
        go_upto_if 110 with fail
        go_cut [7] (fun v7 W => ∃ (Av : Option Addr) (nv cv : Nat) (Wn : World), Wn = W ∧ v7 = .slice Av nv cv ∧ Aside0 (Kd.R Kd.string 9 Wn wr.heap.size (fun _ => True) (.slice Av nv cv) ((obsParts x).map strB)) ∧ Aside0 (Below wr.heap.size wr Wn))
        case first =>
         cases q with
         | true =>
          go_wp2_with fail
          refine Calls.mono (itoa_calls x.f3.f0 HOX.out.base _ (HE.out.below (below_step HB.out BW.out))) ?_
          rintro e wf ⟨rfl, hb⟩
          replace K5 := Aside0.mk (blk_below K5.out hb)
          replace HP := Aside0.mk (Kd.R_below HP.out hb)
          replace BW := Aside0.mk (below_step BW.out hb)
          have hq : ¬ 9223372036854775807 < 2 + (Lib.itoa x.f3.f0).length := by have := Lib.itoa_length_le x.f3.f0 HOX.out.base.1 HOX.out.base.2; omega
          clear hb k5_5 k5_6
          go_upto_region 17 with ((with_reducible refine gate_builtin (b := .append) (xs := #[.tmp 111, .tmp 117]) rfl ?_); at_builtin; refine app_str rfl (.tmp 111) (.tmp 117) rfl _ _ ([115, 58] ++ Lib.itoa x.f3.f0) _ (kept_zero _ _ (tellD [107]) x.f3.f1) _ (ba_eq (by rw [ba_app]; rfl)) rfl rfl HP.out BW.out (by have := HPL.out; omega) ?_; intro v7n wx hr hb hg; replace K5 := Aside0.mk (blk_grown K5.out hg (Kd.R_ne HP.out K5.out (by decide))); replace HP := Aside0.mk hr; replace BW := Aside0.mk hb; clear hr hb hg)
          obtain ⟨An, nn, cn, en⟩ := R_any HP.out
          subst en
          rename World => wk
          have k5_6 : wk.cell? ⟨g5, 6, none⟩ = some (.slice A6 x.f3.f1.length c6) := blk_cell K5.out 6
          go_wp2_with fail
          clear k5_6 hq
          go_loopg [7, 123] x.f3.f1.length (fun gk v7 v123 w' => ∃ (j : Nat) (Av : Option Addr) (nv cv : Nat), v7 = .slice Av nv cv ∧ v123 = .int .i64 (j : Nat) ∧ Aside0 (gk + j = x.f3.f1.length) ∧ Aside0 (Kd.R Kd.string 9 w' wr.heap.size (fun _ => True) (.slice Av nv cv) ((partsB x ++ ([115, 58] ++ Lib.itoa x.f3.f0) :: (x.f3.f1.take j).map (tellD [107])).map strB)) ∧ Aside0 (Below wr.heap.size wr w'))
          case atStart => exact ⟨0, _, _, _, rfl, rfl, ⟨by omega⟩, HP, BW⟩
          case round =>
           clear K5 HP BW
           rename World => wq
           obtain ⟨j, Av, nv, cv, rfl, rfl, HGJ, HP, BW⟩ := hrel
           by_cases hlj : j < x.f3.f1.length
           ·obtain ⟨kj, hkj⟩ : ∃ m, gk = m + 1 := ⟨gk - 1, by have := HGJ.out; omega⟩
            subst hkj
            have HLJ := Aside0.mk hlj
            obtain ⟨ad8, cs8, ha8, _, hK8, hcl80⟩ := Kd.C_get HC6.out z40 (j : Int) (by omega) (by omega)
            have hcl8 : ∀ m u, cs8[m]? = some u → w.cell? (ad8.add (j * 3 + m)) = some u := hcl80
            cases ha8
            obtain ⟨y, hy⟩ : ∃ y, y = x.f3.f1.getD (j : Int).toNat z40 := ⟨_, rfl⟩
            rw [← hy] at hK8
            have HYL := Aside0.mk (show y = x.f3.f1[j] by rw [hy, Int.toNat_natCast]; simp [List.getD, hlj])
            have HYO := Aside0.mk (show ItemOk y from HOX.out.kept y (by rw [HYL.out]; exact List.getElem_mem hlj))
            obtain ⟨B2, d2, hcs8, hl2, hC2⟩ := k40_open hK8
            have HCS8 := Aside0.mk hcs8
            have HL2 := Aside0.mk hl2
            have HC2 := Aside0.mk hC2
            have HCL8 := Aside0.mk (show ∀ m u, cs8[m]? = some u → wq.cell? ((ad8.add (j * 3)).add m) = some u from fun m u h => by rw [add_add]; exact ((below_step HB.out BW.out).cell (World.block_lt_of_cell? w _ (hcl8 m u h))).trans (hcl8 m u h))
            have HSZ8 := Aside0.mk (show (Tryz.prog.info? 40).map (·.size) = some cs8.length by rw [hcs8]; exact isz_40')
            have HSA8 := Aside0.mk (show (Tryz.prog.info? 40).map (·.size) = some cs8.toArray.size by rw [hcs8]; exact isz_40')
            have HOL8 := Aside0.mk (show (#[.int .i64 0, .int .i64 0, .slice none 0 0] : Array Value).size = cs8.toArray.size by rw [hcs8]; rfl)
            have HON8 := Aside0.mk (all_oneCell_toArray (k40.K_one hK8))
            have hu40 := Tryz.underlying40
            have HP0 := Aside0.mk BW.out.size
            clear hcl80 hcl8 hK8 hcs8 hy hl2 hC2
            go_wp2_with (first | ((with_reducible refine gate_dst (N := 126) rfl ?_); refine wpList_load_at rfl 40 (.tmp 125) rfl _ rfl cs8 _ HCL8.out hu40 rfl HSZ8.out ?_) | ((with_reducible refine gate_dst (N := 11) rfl ?_); refine box_event ?hg (N := 11) ?hd (cs := #[.int .i64 0, .int .i64 0, .slice none 0 0]) (t := 40) ?hr ?_; (case hd => rfl); (case hg => rfl); (case hr => first | (go_simp; done) | (go_simp; rfl)); intro g9 hgg wa bk hbb; have K9 := Aside0.mk bk; replace HP := Aside0.mk (Kd.R_below HP.out hbb); replace BW := Aside0.mk (below_step BW.out hbb); have HG9 := Aside0.mk (show wr.heap.size ≤ g9 by have := HP0.out; omega); clear hgg bk hbb) | ((with_reducible refine gate_store (t := 40) (p := 11) rfl ?_); refine wpList_put_row rfl 40 (.tmp 11) (.tmp 126) rfl g9 cs8.toArray rfl rfl 40 _ K9.out HSA8.out HOL8.out HON8.out ?_; intro wb hkb hbb hkept; replace HP := Aside0.mk (Kd.R_mono (Kd.R_kept (Kd.R_types HP.out K9.out (by decide)) hkept (fun q hq e => hq.2 e)) (fun _ _ => trivial)); replace BW := Aside0.mk (hbb wr BW.out HG9.out); rw [item_cells y cs8 B2 d2 HCS8.out] at hkb; have k9_0 : wb.cell? ⟨g9, 0, none⟩ = some (.int .i64 y.f0) := blk_cell hkb 0; have k9_1 : wb.cell? ⟨g9, 1, none⟩ = some (.int .i64 y.f1) := blk_cell hkb 1; have k9_2 : wb.cell? ⟨g9, 2, none⟩ = some (.slice B2 y.f2.length d2) := blk_cell hkb 2; clear hkb hbb hkept K9))
            refine Calls.mono (tell_calls y B2 d2 _ _ (Kd.C_below HC2.out (below_step HB.out BW.out)) HL2.out HYO.out (HE.out.below (below_step HB.out BW.out)) (by decide)) ?_
            rintro e wf ⟨rfl, hb⟩
            replace HP := Aside0.mk (Kd.R_below HP.out hb)
            replace BW := Aside0.mk (below_step BW.out hb)
            clear hb k9_0 k9_1 k9_2
            go_wp2_with ((with_reducible refine gate_builtin (b := .append) (xs := #[.tmp 127, .tmp 130]) rfl ?_); at_builtin; refine app_str rfl (.tmp 127) (.tmp 130) rfl _ _ (tellD [107] y) _ (kept_step _ _ (tellD [107]) x.f3.f1 j HLJ.out y HYL.out) _ rfl rfl rfl HP.out BW.out (by simp; have := HPL.out; have := HOX.out.l31; omega) ?_; intro v7n wx hr hb hg; replace HP := Aside0.mk hr; replace BW := Aside0.mk hb; clear hr hb hg)
            obtain ⟨An, nn, cn, en⟩ := R_any HP.out
            subst en
            go_roundg kj
            case measure => omega
            case rel => exact ⟨j + 1, _, _, _, rfl, by rw [w64n (by have := HOX.out.l31; have := HLJ.out; omega)], ⟨by have := HGJ.out; omega⟩, HP, BW⟩
           ·have HJE := Aside0.mk (show j = x.f3.f1.length by have := HGJ.out; omega)
            have tlj : decide (j < x.f3.f1.length) = false := decide_eq_false hlj
            replace HP := Aside0.mk (show Kd.R Kd.string 9 wq wr.heap.size (fun _ => True) _ ((obsParts x).map strB) from kept_end (of_decide_eq_true HQ.out.symm) HJE.out HP.out)
            clear hlj HJE HGJ
            go_wp2_with fail
            go_meet
            exact ⟨_, _, _, _, rfl, rfl, HP, BW⟩
         | false =>
          go_wp2_with fail
          go_meet
          exact ⟨_, _, _, _, rfl, rfl, ⟨kept_none (of_decide_eq_false HQ.out.symm) HP.out⟩, BW⟩
        case rest =>
         obtain ⟨Av3, nv3, cv3, w3q, rfl, rfl, HPn, BWn⟩ := hcut
         replace HP := HPn
         replace BW := BWn
         clear HPn BWn K5 HPL HQ k5_5 k5_6
         obtain ⟨g7, cap7, e7, _, _⟩ := Kd.R_form HP.out (obsParts_pos x)
         injection e7 with e7 e8 e9
         rw [List.length_map] at e8
         subst e7 e8 e9
         have HLN := Aside0.mk (show (textD code (l.take i)).length + (lineD x).length ≤ 70368744177664 by have h1 := textD_take code l (i + 1); have h2 := textD_step code l i HLT.out; rw [h2, List.length_append, ← HXL.out] at h1; have := HT.out; omega)
         have HJL := Aside0.mk (show (Lib.join (obsParts x) [32]).length + 1 = (lineD x).length by simp [lineD])
         go_wp2_with fail
         refine Calls.mono (strJoin_calls _ (obsParts x) ⟨#[32]⟩ HP.out (by show (Lib.join (obsParts x) [32]).length ≤ _; have := HLN.out; have := HJL.out; omega) (by have := obsParts_len x HOX.out; omega)) ?_
         rintro e wj ⟨rfl, hb⟩
         have HIJ := Aside0.mk (HI.out.old (below_step BW.out hb))
         have BJ := Aside0.mk (below_step BW.out hb)
         have hq : ¬ 9223372036854775807 < (Lib.join (obsParts x) [32]).length + 1 := by have := HLN.out; have := HJL.out; omega
         clear hb HP BW
         go_wp2_with fail
         refine Calls.mono (Tryz.Buffer_WriteString_k _ _ _ _ _ HIJ.out ?sa ?sb ?sc) ?_
         case sa => have := HIJ.out.lt; omega
         case sb => exact Lib.byteCells_one _
         case sc => rw [Lib.size_eq, ba_app, Lib.byteCells_length, List.length_append]; have := HLN.out; have := HJL.out; show (textD code (l.take i)).length + ((Lib.join (obsParts x) [32]).length + 1) ≤ _; omega
         rintro e wz ⟨rfl, hI, hb2, _⟩
         have HIZ := Aside0.mk (show Lib.IsBuffer 59 5 w1.heap.size w1.heap.size (Lib.byteCells (textD code (l.take (i + 1)))) wz by rw [textD_step code l i HLT.out, Lib.byteCells_append, ← HXL.out]; rw [ba_app] at hI; exact hI)
         have BZ := Aside0.mk (show Below w.heap.size w wz from (below_step HB.out BJ.out).trans (hb2.mono HW1.out))
         clear hI hb2 hq
         go_wp2_with fail
         go_roundg k1
         case measure => omega
         case rel => exact ⟨i + 1, by rw [w64n (by have := HL.out; have := HLT.out; omega)], ⟨by have := HG.out; omega⟩, HIZ, BZ⟩
  ·skip
   have hi : i = l.length := by have := HG.out; omega
   have tlt : decide (i < l.length) = false := decide_eq_false hlt
   replace HI := Aside0.mk (show Lib.IsBuffer 59 5 w1.heap.size w1.heap.size (Lib.byteCells (textD code l)) wr by have := HI.out; rwa [hi, List.take_length] at this)
   clear hlt hi
   go_wp2_with fail
   refine Calls.mono (Tryz.Buffer_Bytes _ _ _ _ HI.out) ?_
   rintro e wb ⟨v, rfl, hown, n, rfl⟩
   have HO := Aside0.mk hown
   clear hown
   go_wp2
   go_ret
   exact ⟨v, rfl, by have := own_weaken HO.out HW1.out; rwa [Lib.byteCells_length] at this, pw_below_drewN HB.out n⟩

end Go.Proofs.YtibhaklgajkalaaGreatDoor.YTell
