/- T9 -/
import Derived.Test.YtibhaklgajkalaaGreatDoorYTellx0
import Derived.Test.YtibhaklgajkalaaGreatDoorYTellT8
import Derived.Test.YtibhaklgajkalaaGreatDoorShelfTellA
import Derived.Lib.LaidTab
namespace Go.Proofs.YtibhaklgajkalaaGreatDoor.YTell
open Go.RowKit Go.Proofs.YtibhaklgajkalaaGreatDoorW.PrintWords Go.Proofs.YtibhaklgajkalaaGreatDoorW.PrintLast Go.Proofs.YtibhaklgajkalaaGreatDoorW.PrintMore
attribute [local go_sem] max2_int min2_int max_two min_two max_three min_three max_four min_four
set_option linter.unusedVariables false
set_option linter.unusedSimpArgs false
open Go.Proofs.YtibhaklgajkalaaGreatDoor.Num
/-- What the library's calls ask of the world: its table of powers, and one variable's cell. -/
structure Env (w : World) : Prop where
 tab : Lib.TabIs Tryz.prog w "internal/strconv.uint64pow10" .u64 Lib.pow10Tab
 len : ∃ m, w.cell? ⟨2, 0, none⟩ = some (.int .i64 m)
theorem Env.below {w w' : World} (h : Env w) (hb : Below w.heap.size w w') : Env w' := by
 refine ⟨?_, ?_⟩
 ·have hg : Tryz.prog.globalNamed "internal/strconv.uint64pow10" = some 1 := by kernel_rfl
  have h1 := h.tab
  unfold Lib.TabIs World.var? at h1 ⊢
  simp only [hg, Option.bind_some] at h1 ⊢
  have hlt : 1 < w.heap.size := by
   rcases Nat.lt_or_ge 1 w.heap.size with h2 | h2
   ·exact h2
   ·rw [Array.getElem?_eq_none h2] at h1
    cases h1
  rw [hb.block 1 hlt]
  exact h1
 ·obtain ⟨m, hm⟩ := h.len
  exact ⟨m, (hb.cell (World.block_lt_of_cell? w _ hm)).trans hm⟩
theorem grow_below (w : World) (k : Nat) (os : Array Obj) : Below w.heap.size w (Sort.grow (w.drewN k) os) :=
 ⟨rfl, rfl, rfl, by rw [Sort.size_grow]; exact Nat.le_add_right _ _, fun k hk => Sort.heap_grow_old _ _ hk⟩
theorem itoa_calls (n : Int) (hn : IntOk n) (w : World) (he : Env w) : Calls Tryz.prog 19 #[.int .i64 n] w fun e w' => e = .returned (.string ⟨(Lib.itoa n).toArray⟩) ∧ Below w.heap.size w w' := by
 refine (Tryz.strconv_Itoa n hn.1 hn.2 w he.tab).mono ?_
 rintro e w' ⟨rfl, k, os, rfl⟩
 exact ⟨rfl, grow_below _ _ _⟩
def strB (l : List UInt8) : ByteArray := ⟨l.toArray⟩
def joinD (ns : List Int) : List UInt8 := Lib.join (ns.map Lib.itoa) [58]
def numStr (n : Int) : ByteArray := strB (Lib.itoa n)
theorem info9 : (Tryz.prog.info? 9).map (fun i => (i.zero, i.size, i.bytes)) = some (some (.string ⟨#[]⟩), 1, 16) := by kernel_rfl
theorem isz_9 : (Tryz.prog.info? 9).map (·.size) = some 1 := by kernel_rfl
theorem mset {α β : Type} (f : α → β) (l : List α) (m : List β) (i : Nat) (y : β) (hm : m.length = l.length) (hi : i < l.length) (hy : y = f (l[i])) (h : ∀ j, j < i → m[j]? = (l.map f)[j]?) :
 ∀ j, j < i + 1 → (m.set i y)[j]? = (l.map f)[j]? := by
 intro j hj
 by_cases e : j = i
 ·subst e
  rw [List.getElem?_set_self (by omega), hy]
  simp [hi]
 ·rw [List.getElem?_set_ne (by omega)]
  exact h j (by omega)
theorem mend {α β : Type} (f : α → β) (l : List α) (m : List β) (hm : m.length = l.length) (h : ∀ j, j < l.length → m[j]? = (l.map f)[j]?) : m = l.map f := by
 apply List.ext_getElem?
 intro j
 by_cases c : j < l.length
 ·exact h j c
 ·rw [List.getElem?_eq_none (by omega), List.getElem?_eq_none (by simp; omega)]
theorem joinD_length (ns : List Int) (hok : ∀ n ∈ ns, IntOk n) : (joinD ns).length ≤ 22 * ns.length := by
 unfold joinD
 induction ns with
 | nil => simp [Lib.join]
 | cons n r ih =>
  have h1 := hok n List.mem_cons_self
  have h2 := Lib.itoa_length_le n h1.1 h1.2
  have h3 := ih (fun x hx => hok x (List.mem_cons_of_mem _ hx))
  cases r with
  | nil => simp [Lib.join_one]; omega
  | cons n2 r2 =>
   rw [List.map_cons, Lib.join_cons]
   rw [List.map_cons, Lib.join_cons] at h3
   rw [List.map_cons, joinTail_cons]
   simp only [List.length_append, List.length_cons, List.length_nil] at h3 ⊢
   omega
theorem str_cell {w : World} {base : Nat} {ok : Nat → Prop} {g n cap : Nat} {m : List ByteArray} (h : Kd.R Kd.string 9 w base ok (.slice (some ⟨g, 0, none⟩) n cap) m) (i : Nat) (hi : i < m.length) :
 ∀ j u, ([.string (rdOf ByteArray.empty m (i : Int))] : List Value)[j]? = some u → w.cell? ⟨g, (i : Int).toNat * Kd.string.sz + j, none⟩ = some u := by
 intro j u hu
 obtain ⟨A, c, he, _, hC⟩ := Kd.R_reads h
 injection he with he _ _
 subst he
 obtain ⟨ad2, ha2, hx2⟩ := Kd.at_string hC (i : Int) (by omega) (by omega)
 injection ha2 with ha2
 subst ha2
 have hj : j = 0 := by
  have := (List.getElem?_eq_some_iff.1 hu).1
  simpa using this
 subst hj
 simp only [List.getElem?_cons_zero, Option.some.injEq] at hu
 subst hu
 rw [← hx2, Addr.add_mid]
 show w.cell? ⟨g, (i : Int).toNat * 1 + 0, none⟩ = _
 simp
theorem strJoin_calls (w : World) {base : Nat} {ok : Nat → Prop} {g n cap : Nat} (xs : List (List UInt8)) (sep : ByteArray) (h : Kd.R Kd.string 9 w base ok (.slice (some ⟨g, 0, none⟩) n cap) (xs.map strB)) (hlen : (Lib.join xs sep.data.toList).length ≤ 140737488355328) (hN : xs.length ≤ 140737488355328) :
 Calls Tryz.prog 23 #[.slice (some ⟨g, 0, none⟩) n cap, .string sep] w fun e w' => e = .returned (.string ⟨(Lib.join xs sep.data.toList).toArray⟩) ∧ Below w.heap.size w w' := by
 obtain ⟨A, c, he, hcap, hC⟩ := Kd.R_reads h
 injection he with he hn hc
 subst he hn hc
 have hxs : (xs.map strB).map (·.data.toList) = xs := by rw [List.map_map]; exact (List.map_congr_left (fun x _ => rfl)).trans (List.map_id _)
 have hg : g < w.heap.size := by
  obtain ⟨_, inner, ho, _⟩ := h
  exact own_lt ho g rfl
 have := Tryz.strings_Join g 0 cap (xs.map strB) sep w (fun j x hx => by
  have hj := (List.getElem?_eq_some_iff.1 hx).1
  obtain ⟨ad, ha, hx2⟩ := Kd.at_string hC (j : Int) (by omega) (by omega)
  injection ha with ha
  subst ha
  rw [Addr.add_mid] at hx2
  rw [show (j : Int).toNat = j from by simp] at hx2
  rw [hx2]
  simp only [rdOf, Int.toNat_natCast, List.getD, hx, Option.getD_some]) hg (by simpa using hN) hcap (by rw [hxs]; exact hlen)
 rw [hxs] at this
 exact this
set_option maxHeartbeats 8000000 in
set_option maxRecDepth 100000 in
theorem joined_calls (A : Option Addr) (c : Nat) (ns : List Int) (w : World) (hr : Kd.C (Kd.int .i64) w A ns.length ns) (hc : ns.length ≤ c) (hok : ∀ n ∈ ns, IntOk n) (h0 : 0 < ns.length) (hl : ns.length ≤ 1000) (he : Env w) :
 Calls Tryz.prog 21 #[.slice A ns.length c] w fun e w' => e = .returned (.string ⟨(joinD ns).toArray⟩) ∧ Below w.heap.size w w' := by
 have HR := Aside0.mk hr
 have HOK := Aside0.mk hok
 have HL := Aside0.mk hl
 have H0 := Aside0.mk h0
 have HE := Aside0.mk he
 clear hr hc hok hl h0 he
 have hn0 : 0 ≤ (ns.length : Int) := by omega
 go_enter Tryz.func21, Tryz.ntmps21
 go_wp2_with ((with_reducible refine gate_dst (N := 8) rfl ?_); refine Kd.R_make Kd.string _ 9 rfl (N := 8) rfl 65 _ _ rfl (ns.length : Int) rfl rfl Tryz.underlying65 (.string ⟨#[]⟩) 16 info9 rfl (by decide) (by omega) ⟨#[]⟩ (ok := fun _ => True) (okp := fun _ => True) rfl (fun _ hk => hk) trivial hn0 (by have := HL.out; omega) (Below.refl _ _) (Nat.le_refl _) ?_; intro v1 w1 ho hb hg_ hnew_; clear hg_ hnew_; rw [Int.toNat_natCast] at ho; have HO := Aside0.mk ho; have HB := Aside0.mk hb; clear ho hb)
 go_loopg [11] ns.length (fun gk v11 w' => ∃ (i : Nat) (m : List ByteArray), v11 = .int .i64 (i : Nat) ∧ Aside0 (gk + i = ns.length) ∧ Aside0 (m.length = ns.length ∧ ∀ j, j < i → m[j]? = (ns.map numStr)[j]?) ∧ Aside0 (Kd.R Kd.string 9 w' w.heap.size (fun _ => True) v1 m) ∧ Aside0 (Below w.heap.size w w'))
 case atStart => exact ⟨0, List.replicate ns.length ⟨#[]⟩, rfl, ⟨by omega⟩, ⟨by simp, fun j hj => by omega⟩, HO, HB⟩
 case round =>
  clear HO HB
  obtain ⟨i, m, rfl, HG, HM, HO, HB⟩ := hrel
  by_cases hlt : i < ns.length
  ·as_aux_lemma =>
   obtain ⟨k1, hk1⟩ : ∃ m, gk = m + 1 := ⟨gk - 1, by have := HG.out; omega⟩
   subst hk1
   have HLT := Aside0.mk hlt
   have hml : m.length = ns.length := HM.out.1
   obtain ⟨g, cap, hv, hge, hrest⟩ := Kd.R_form HO.out (by omega)
   rw [hml] at hv
   subst hv
   have HGE := Aside0.mk hge
   clear hrest
   obtain ⟨ad, ha, hx0⟩ := Kd.at_int HR.out (i : Int) (by omega) (by omega)
   subst ha
   rw [Int.toNat_natCast, rd_get _ _ hlt] at hx0
   have hx : wr.cell? (ad.add i) = some (.int .i64 ns[i]) := (HB.out.cell (World.block_lt_of_cell? w _ hx0)).trans hx0
   clear hx0
   obtain ⟨n, hn⟩ : ∃ n, n = ns[i] := ⟨_, rfl⟩
   rw [← hn] at hx
   have HN := Aside0.mk hn
   have HNO := Aside0.mk (show IntOk n by rw [hn]; exact HOK.out _ (List.getElem_mem hlt))
   have HEW := Aside0.mk (HE.out.below HB.out)
   clear hn hge
   go_wp2_with (first | (go_at_call 19; refine (itoa_calls n HNO.out _ HEW.out).mono ?_; rintro e w1 ⟨rfl, hb⟩; have HB1 := Aside0.mk hb; have HO1 := Aside0.mk (Kd.R_below HO.out hb); clear hb) | ((with_reducible refine gate_store (t := 9) (p := 20) rfl ?_); refine Kd.R_store Kd.string (w0 := w) w.heap.size rfl rfl 9 (.tmp 20) (.tmp 19) rfl 9 (i : Int) 0 m (numStr n) (.string (numStr n)) [.string (numStr n)] [.string (rdOf ByteArray.empty m (i : Int))] (fun _ => True) (fun _ => False) rfl ?off rfl rfl isz_9 ?hone HO1.out (by omega) (by omega) rfl ?hcc (by show 0 + 1 ≤ 1; omega) rfl (fun _ h => h.elim) (below_step HB.out HB1.out) ?_; (case off => rw [Int.toNat_natCast]; show i = i * 1 + 0; omega); (case hone => intro q hq; rw [List.mem_singleton.1 hq]; rfl); (case hcc => exact str_cell HO1.out i (by omega)); intro w2 ho hb hg; rw [Int.toNat_natCast] at ho; clear HO HB HO1; have HO := Aside0.mk ho; have HB := Aside0.mk hb; clear ho hb hg))
   go_roundg k1
   case measure => omega
   case rel => exact ⟨i + 1, _, by rw [w64n (by have := HL.out; omega)], ⟨by have := HG.out; omega⟩, ⟨by rw [List.length_set]; exact HM.out.1, mset numStr ns m i _ HM.out.1 HLT.out (by rw [← HN.out]) HM.out.2⟩, HO, HB⟩
  ·as_aux_lemma =>
   have HF := Aside0.mk (mend numStr ns m HM.out.1 (fun j hj => HM.out.2 j (by have := HG.out; omega)))
   have tlt : decide (i < ns.length) = false := decide_eq_false hlt
   have hml : m.length = ns.length := HM.out.1
   obtain ⟨g, cap, hv, hge, hrest⟩ := Kd.R_form HO.out (by have := H0.out; omega)
   rw [hml] at hv
   subst hv
   clear hlt hge hrest
   go_wp2_with fail
   have HX := Aside0.mk (show m = (ns.map Lib.itoa).map strB by rw [HF.out, List.map_map]; rfl)
   refine (strJoin_calls wr (ns.map Lib.itoa) ⟨#[58]⟩ (by have := HO.out; rwa [HX.out] at this) (by have h1 := joinD_length ns HOK.out; have h2 := HL.out; unfold joinD at h1; show (Lib.join (ns.map Lib.itoa) [58]).length ≤ _; omega) (by have := HL.out; simp; omega)).mono ?_
   rintro e w1 ⟨rfl, hb⟩
   have HB1 := Aside0.mk (below_step HB.out hb)
   clear hb
   go_wp2
   go_ret
   exact ⟨rfl, HB1.out⟩
def hexB : ByteArray := ⟨#[48, 49, 50, 51, 52, 53, 54, 55, 56, 57, 97, 98, 99, 100, 101, 102]⟩
def hexDig (x : Nat) : UInt8 := UInt8.ofNat (if x < 10 then 48 + x else 87 + x)
def hexD (l : List Int) : List UInt8 := if l.length = 0 then [45] else l.flatMap fun b => [hexDig (b.toNat / 16), hexDig (b.toNat % 16)]
theorem hexL (l : List Int) : (l.flatMap fun b => [hexDig (b.toNat / 16), hexDig (b.toNat % 16)]).length = 2 * l.length := by
 induction l with
 | nil => rfl
 | cons x l ih => rw [List.flatMap_cons, List.length_append, ih]; simp; omega
theorem hex_get (k : Nat) (h : k < (⟨#[48, 49, 50, 51, 52, 53, 54, 55, 56, 57, 97, 98, 99, 100, 101, 102]⟩ : ByteArray).size) : (⟨#[48, 49, 50, 51, 52, 53, 54, 55, 56, 57, 97, 98, 99, 100, 101, 102]⟩ : ByteArray)[k] = hexDig k := by
 have h16 : k < 16 := h
 have hall : ∀ j : Fin 16, (⟨#[48, 49, 50, 51, 52, 53, 54, 55, 56, 57, 97, 98, 99, 100, 101, 102]⟩ : ByteArray)[j.val]'(j.isLt) = hexDig j.val := by decide
 exact hall ⟨k, h16⟩
theorem hex_step (l : List Int) (i x : Nat) (hi : i < l.length) (hx : l[i] = (x : Int)) : ((l.take (i + 1)).flatMap fun b => [hexDig (b.toNat / 16), hexDig (b.toNat % 16)]) = ((l.take i).flatMap fun b => [hexDig (b.toNat / 16), hexDig (b.toNat % 16)]) ++ [hexDig (x / 16)] ++ [hexDig (x % 16)] := by
 rw [List.take_succ_eq_append_getElem hi, List.flatMap_append, hx]
 simp
theorem hexcell (u : UInt8) : ([.int .u8 (u.toNat : Int)] : List Value) = Lib.byteCells [u] := rfl
set_option maxHeartbeats 8000000 in
set_option maxRecDepth 100000 in
theorem hexOf_calls (A : Option Addr) (c : Nat) (l : List Int) (w : World) (hr : Kd.C (Kd.int .u8) w A l.length l) (hc : l.length ≤ c) (hok : Bytes l) (hl : l.length ≤ 1048576) :
 Calls Tryz.prog 33 #[.slice A l.length c] w fun e w' => e = .returned (.string ⟨(hexD l).toArray⟩) ∧ Below w.heap.size w w' := by
 have HR := Aside0.mk hr
 have HOK := Aside0.mk hok
 have HL := Aside0.mk hl
 clear hr hc hok hl
 by_cases h0 : l.length = 0
 ·go_enter Tryz.func33, Tryz.ntmps33
  go_wp2
  go_ret
  exact ⟨by simp [hexD, h0], Below.refl _ _⟩
 ·have t0 : decide (l.length = 0) = false := decide_eq_false h0
  have t1 : ((l.length : Int) == (0 : Int)) = false := by rw [beq_eq_false_iff_ne]; omega
  have H0 := Aside0.mk h0
  have HU := Aside0.mk (Lib.fresh_isBuilder 95 5 w)
  clear h0
  go_enter Tryz.func33, Tryz.ntmps33
  go_wp2
  go_loopg [11] l.length (fun gk v11 w' => ∃ (i : Nat), v11 = .int .i64 (i : Nat) ∧ Aside0 (gk + i = l.length) ∧ Aside0 (Lib.IsBuilder 95 5 w.heap.size w.heap.size (Lib.byteCells ((l.take i).flatMap fun b => [hexDig (b.toNat / 16), hexDig (b.toNat % 16)])) w') ∧ Aside0 (Below w.heap.size w w'))
  case atStart => exact ⟨0, rfl, ⟨by omega⟩, ⟨by simpa [Lib.byteCells] using HU.out⟩, ⟨below_alloc (Below.refl _ _) _⟩⟩
  case round =>
   obtain ⟨i, rfl, HG, HI, HB⟩ := hrel
   by_cases hlt : i < l.length
   ·as_aux_lemma =>
    obtain ⟨k1, hk1⟩ : ∃ m, gk = m + 1 := ⟨gk - 1, by have := HG.out; omega⟩
    subst hk1
    have HLT := Aside0.mk hlt
    obtain ⟨ad, ha, hx0⟩ := Kd.at_int HR.out (i : Int) (by omega) (by omega)
    subst ha
    rw [Int.toNat_natCast, rd_get _ _ hlt] at hx0
    obtain ⟨x, hx⟩ : ∃ x, x = l[i].toNat := ⟨_, rfl⟩
    have hok := HOK.out.get i hlt
    have hxe : l[i] = (x : Int) := by rw [hx]; omega
    have hx256 : x < 256 := by omega
    rw [hxe] at hx0
    have hcell : wr.cell? (ad.add i) = some (.int .u8 (x : Int)) := (HB.out.cell (World.block_lt_of_cell? w _ hx0)).trans hx0
    have HX := Aside0.mk hxe
    clear hx0 hx hok hxe
    have HB0 := Aside0.mk (show w.heap.size ≤ wr.heap.size from HB.out.size)
    go_wp2_with fail
    refine (Tryz.Builder_WriteByte _ _ _ _ _ HI.out (by rw [Lib.byteCells_length]; have := hexL (l.take i); rw [List.length_take] at this; have := HL.out; omega) HB0.out).mono ?_
    rintro e w1 ⟨rfl, h1, hb1⟩
    rw [hex_get, hexcell, ← Lib.byteCells_append] at h1
    have HI1 := Aside0.mk h1
    have HB1 := Aside0.mk (HB.out.trans hb1)
    clear h1 hb1
    have HB01 := Aside0.mk (show w.heap.size ≤ w1.heap.size from HB1.out.size)
    go_wp2_with fail
    refine (Tryz.Builder_WriteByte _ _ _ _ _ (.inr HI1.out) (by rw [Lib.byteCells_length, List.length_append, hexL, List.length_take]; have := HL.out; simp only [List.length_cons, List.length_nil]; omega) HB01.out).mono ?_
    rintro e w2 ⟨rfl, h1, hb1⟩
    rw [hex_get, hexcell, ← Lib.byteCells_append] at h1
    have HI2 := Aside0.mk h1
    have HB2 := Aside0.mk (HB1.out.trans hb1)
    clear h1 hb1
    go_wp2_with fail
    go_roundg k1
    case measure => omega
    case rel => exact ⟨i + 1, by rw [w64n (by have := HL.out; have := HLT.out; omega)], ⟨by have := HG.out; omega⟩, ⟨by rw [hex_step l i x HLT.out HX.out]; exact .inr HI2.out⟩, HB2⟩
   ·as_aux_lemma =>
    have hi : i = l.length := by have := HG.out; omega
    have HF := Aside0.mk (show Lib.IsBuilder 95 5 w.heap.size w.heap.size (Lib.byteCells (hexD l)) wr by have := HI.out; rw [hi, List.take_length] at this; unfold hexD; rw [if_neg H0.out]; exact this)
    have tlt : decide (i < l.length) = false := decide_eq_false hlt
    have HB0 := Aside0.mk (show w.heap.size ≤ wr.heap.size from HB.out.size)
    clear hlt hi
    go_wp2_with fail
    refine (Tryz.Builder_String_any _ _ _ _ HF.out HB0.out).mono ?_
    rintro e w1 ⟨rfl, hb1⟩
    have HB1 := Aside0.mk (HB.out.trans hb1)
    clear hb1
    go_wp2
    go_ret
    exact ⟨rfl, HB1.out⟩

end Go.Proofs.YtibhaklgajkalaaGreatDoor.YTell
