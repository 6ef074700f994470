/- T14 -/
import Derived.Test.YtibhaklgajkalaaGreatDoorYTellx0
import Derived.Deep.RegionHeld3
import Derived.Test.YtibhaklgajkalaaGreatDoorYTellT12
import Derived.Test.YtibhaklgajkalaaGreatDoorYTellT13
import Derived.Lib.AppendStr
namespace Go.Proofs.YtibhaklgajkalaaGreatDoor.YTell
open Go.RowKit Go.Proofs.YtibhaklgajkalaaGreatDoorW.PrintWords Go.Proofs.YtibhaklgajkalaaGreatDoorW.PrintLast Go.Proofs.YtibhaklgajkalaaGreatDoorW.PrintMore
attribute [local go_sem] max2_int min2_int max_two min_two max_three min_three max_four min_four
set_option linter.unusedVariables false
set_option linter.unusedSimpArgs false
open Go.Proofs.YtibhaklgajkalaaGreatDoor.Num
theorem encs_toI (l : List UInt8) : encs (Value.int .u8) (toI l) = Lib.byteCells l := by simp [encs, toI, Lib.byteCells]
theorem R_of_bytes {w : World} {base n : Nat} {v : Value} {l : List UInt8} {xs : List Value} (h : w.ownsRow base 5 1 v n xs) (hn : n = l.length) (hx : xs = Lib.byteCells l) : Kd.R (Kd.int .u8) 5 w base (fun _ => True) v (toI l) := by
  subst hn hx
  exact Kd.R_of_own (enc := Value.int .u8) (h1 := fun _ => rfl) (by rw [toI_length, encs_toI]; exact h) (fun _ _ => trivial)
theorem bytes_of_R {w : World} {base : Nat} {ok : Nat → Prop} {v : Value} {l : List UInt8} (h : Kd.R (Kd.int .u8) 5 w base ok v (toI l)) : w.ownsRow base 5 1 v l.length (Lib.byteCells l) := by
  have := Kd.own_of_R (enc := Value.int .u8) (h1 := fun _ => rfl) h
  rwa [toI_length, encs_toI] at this
/-- append(out, "..") as a step of a region that draws. -/
theorem step_str {ops : Array Oper} {o : Oper} {a : Act} {Q : Exit → Act → World → Prop} {Kc : Act → World → Prop} {w0 W : World} (hw : Region.wanted o (yielded ops a.tmps) = true) (s x : Operand)
    (ho : o.op = .call { callee := .builtin .append, args := #[s, x], argTypes := #[26, 9] }) (v : Value) (out : List UInt8) (y : ByteArray) (hs : a.eval s = v) (hx : a.eval x = .string y)
    (HO : Kd.R (Kd.int .u8) 5 W w0.heap.size (fun _ => True) v (toI out)) (HB : Below w0.heap.size w0 W) (hl : out.length + y.size ≤ 1099511627776)
    (h : ∀ v1 w1, Kd.R (Kd.int .u8) 5 w1 w0.heap.size (fun _ => True) v1 (toI (out ++ y.data.toList)) → Below w0.heap.size w0 w1 → Kept W w1 (T5 W) → Kc (a.put o.dst v1) w1) :
    if Region.wanted o (yielded ops a.tmps) = true then Oper.wp Tryz.prog o a W Kc Q else Kc (a.put o.dst undef) W := by
  obtain ⟨i0, hi, hzz⟩ := Option.map_eq_some_iff.1 info5
  simp only [Prod.mk.injEq] at hzz
  obtain ⟨hz0, hz1, hz2⟩ := hzz
  have hown := bytes_of_R HO
  obtain ⟨v', w', hr, h2, h3, _⟩ := Lib.run_append_own_string (P := Tryz.prog) W w0.heap.size 26 9 o.type 5 i0 Tryz.underlying26 Tryz.underlying9 hi hz0 hz1 hz2 v out.length (Lib.byteCells out) hown y (by simp only [maxLen]; omega) (by omega) HB.size
  rw [if_pos hw]
  unfold Oper.wp execOp
  simp only [ho, resolve, invoke, builtin, Sem.run_bind, Sem.run_pure, Result.andThen_ok, List.map_toArray, List.map_cons, List.map_nil, hs, hx, hr]
  refine h v' w' (R_of_bytes h2 (by rw [List.length_append, Lib.size_eq]) (by rw [Lib.strCells_eq, Lib.byteCells_append])) (HB.grown h3 HB.size (own_base hown)) ?_
  exact (Kept.refl W (T5 W)).of_grown h3 (fun k hk => .inl (own_typed hown k hk))
theorem append_marked (W : World) (ty : TypeId) (g : Nat) (fr : Nat × Nat) (out y : List UInt8) (hout : W.heap[g]? = some (.cells (Lib.byteCells out).toArray 5 fr)) (A : Option Addr) (c : Nat) (hy : 0 < y.length) (hC : Kd.C (Kd.int .u8) W A y.length (toI y)) (hl : out.length + y.length ≤ 1099511627776) :
    ∃ v' w', (Builtin.append_ #[26, 26] ty #[.slice (some ⟨g, 0, none⟩) out.length out.length, .slice A y.length c]).run Tryz.prog W = .ok v' w' ∧ Kd.R (Kd.int .u8) 5 w' W.heap.size (fun _ => True) v' (toI (out ++ y)) ∧ Below W.heap.size W w' := by
  obtain ⟨i0, hi, hzz⟩ := Option.map_eq_some_iff.1 info5
  simp only [Prod.mk.injEq] at hzz
  obtain ⟨hz0, hz1, hz2⟩ := hzz
  obtain ⟨ad, hA, hcells⟩ := hC.2.2 hy
  subst hA
  have hr := run_append_grow (P := Tryz.prog) W 26 ty 5 i0 (.int .u8 0) Tryz.underlying26 hi hz0 ⟨g, 0, none⟩ out.length out.length (Lib.byteCells out) (by rw [Lib.byteCells_length, hz1, Nat.mul_one]) (fun j u hj => by
      rw [Addr.add_mid]
      unfold World.cell?
      simp only [hout, Nat.zero_add]
      simpa using hj) ad y.length c (Lib.byteCells y) (by rw [Lib.byteCells_length, hz1, Nat.mul_one]) (fun j u hj => by
      have hjl : j < y.length := by
        have := (List.getElem?_eq_some_iff.1 hj).1
        rwa [Lib.byteCells_length] at this
      obtain ⟨cs, hcs, hk, hcc⟩ := hcells j ((y[j]'hjl).toNat : Int) (by simp [toI, hjl])
      have h1 := hcc 0 u (by
        have hk' : cs = [.int .u8 ((y[j]'hjl).toNat : Int)] := hk
        rw [hk']
        have := (List.getElem?_eq_some_iff.1 hj).2
        simp [Lib.byteCells] at this
        simp [this])
      have e : ad.add (j * (Kd.int .u8).sz + 0) = ad.add j := by
        show ad.add (j * 1 + 0) = _
        rw [Nat.mul_one, Nat.add_zero]
      rw [e] at h1
      exact h1) (by omega) (by omega) (growslice_fits (by omega) (by rw [hz2]; omega))
  have hge := grownCap_ge W (out.length + y.length) out.length 5
  have hcm : grownCap W (out.length + y.length) out.length 5 ≤ maxLen := grownCap_le_maxLen W (out.length + y.length) out.length 5 (by unfold maxLen; omega)
  generalize grownCap W (out.length + y.length) out.length 5 = cap at hr hge hcm
  refine ⟨_, _, hr, ?_, ?_⟩
  · refine R_of_bytes (l := out ++ y) (n := out.length + y.length) (xs := Lib.byteCells (out ++ y)) ⟨by rw [Lib.byteCells_length, List.length_append, Nat.mul_one], .inr ⟨W.heap.size, cap, _, rfl, Nat.le_refl _, blk_new W.drew _, hge, hcm, ?_, ?_⟩⟩ (by rw [List.length_append]) rfl
    · simp [size_zeroCells, Lib.byteCells_length, Value.cells]; omega
    · rw [Nat.mul_one]
      simp [Lib.byteCells_append, List.take_append, Lib.byteCells_length]
      exact List.take_of_length_le (by rw [Lib.byteCells_length]; omega)
  · exact below_alloc (below_drew1 (Below.refl _ _)) _
theorem app_byte {ops : Array Oper} {rest : List Oper} {o : Oper} {a : Act} {Q : Exit → Act → World → Prop} {w W : World} (hgd : o.guard = none) (s x : Operand) (ho : o.op = .call { callee := .builtin .append, args := #[s, x], argTypes := #[26, 26] })
    (v : Value) (out : List UInt8) (b : UInt8) (z : Int) (hz : z = (b.toNat : Int)) (hs : a.eval s = v) (hx : a.eval x = .slice (some ⟨W.heap.size, 0, none⟩) 1 1) (HO : Kd.R (Kd.int .u8) 5 W w.heap.size (fun _ => True) v (toI out)) (HB : Below w.heap.size w W) (hl : out.length ≤ 1099511627776)
    (h : ∀ v1 w1, Kd.R (Kd.int .u8) 5 w1 w.heap.size (fun _ => True) v1 (toI (out ++ [b])) → Below w.heap.size w w1 → Kept W w1 (T5 W) → wpList Tryz.prog ops Q rest (a.put o.dst v1) w1) : wpList Tryz.prog ops Q (o :: rest) a (W.alloc (.cells #[.int .u8 z] 5)) := by
  subst hz
  have hown := bytes_of_R HO
  refine Kd.R_append (Kd.int .u8) (w0 := w) w.heap.size hgd s x 26 5 (.int .u8 0) 1 ho Tryz.underlying26 info5 rfl (by decide) (by omega) v (toI out) (b.toNat : Int) [.int .u8 (b.toNat : Int)] (fun _ => True) (fun _ => False) hs hx rfl (fun _ hk => hk.elim) (fun _ _ => trivial) HO HB HB.size (by rw [toI_length]; omega) (fun v1 w1 hr hb hg _ => h v1 w1 ?_ hb ((Kept.refl W (T5 W)).of_grown hg (fun k hk => .inl (own_typed hown k hk))))
  rw [toI_append]
  exact hr
theorem joinLit (w0 W : World) (u : Value) (out : List UInt8) (c : UInt8) (cz : Int) (hcz : cz = (c.toNat : Int)) (n0 : Int) (ns : List Int) (cells : Array Value) (hcells : cells = ((n0 :: ns).map (Value.int .i64)).toArray) (n : Nat) (hn : n = (n0 :: ns).length)
    (hB : Below w0.heap.size w0 W) (ho : Kd.R (Kd.int .u8) 5 W w0.heap.size (fun _ => True) u (toI out)) (hok : ∀ n ∈ n0 :: ns, IntOk n) (hl : ns.length ≤ 999) (hb : out.length ≤ 1099511000000) :
    Calls Tryz.prog 15 #[u, .int .u8 cz, .slice (some ⟨W.heap.size, 0, none⟩) n n] (W.alloc (.cells cells 3)) fun e w' => ∃ v, e = .returned v ∧ Kd.R (Kd.int .u8) 5 w' w0.heap.size (fun _ => True) v (toI (out ++ Lib.join ((n0 :: ns).map Lib.itoa) [c])) ∧ Below w0.heap.size w0 w' ∧ Kept W w' (T5 W) := by
  subst hcells hn hcz
  have hr : Kd.R (Kd.int .i64) 3 (W.alloc (.cells ((n0 :: ns).map (Value.int .i64)).toArray 3)) W.heap.size (fun _ => True) (.slice (some ⟨W.heap.size, 0, none⟩) (n0 :: ns).length (n0 :: ns).length) (n0 :: ns) := by
    refine ⟨fun _ _ => trivial, (n0 :: ns).map (Value.int .i64), ?_, ?_⟩
    · have h2 := World.ownsRow_lit (base := W.heap.size) (e := 3) (size := 1) W ((n0 :: ns).map (Value.int .i64)).toArray (n0 :: ns).length (Nat.le_refl _) (by simp only [maxLen, List.length_cons]; omega) (by simp)
      show (W.alloc _).ownsRow W.heap.size 3 1 _ _ _
      simpa using h2
    · exact ints_reps _ _ _ (n0 :: ns)
  have hbl := below_alloc (Below.refl W.heap.size W) (.cells ((n0 :: ns).map (Value.int .i64)).toArray 3)
  refine (join_own w0 _ u out c n0 ns _ _ (below_step hB hbl) (Kd.R_below ho hbl) hr hok hl hb).mono ?_
  rintro e w' ⟨v, rfl, h1, h2, h3⟩
  refine ⟨v, rfl, h1, h2, (Kept.of_below hbl (T5 W)).then_ h3 (fun k hk => ?_)⟩
  obtain ⟨cells, hc⟩ := hk
  by_cases hlt : k < W.heap.size
  · exact .inl ⟨cells, (hbl.block k hlt).symm.trans hc⟩
  · exact .inr (by omega)
theorem join_ownz (w0 w : World) (u : Value) (out : List UInt8) (c : UInt8) (cz : Int) (hcz : cz = (c.toNat : Int)) (n0 : Int) (ns : List Int) (A2 : Option Addr) (c2 : Nat) {base2 : Nat} {ok2 : Nat → Prop} (hB : Below w0.heap.size w0 w) (ho : Kd.R (Kd.int .u8) 5 w w0.heap.size (fun _ => True) u (toI out))
    (hi : Kd.R (Kd.int .i64) 3 w base2 ok2 (.slice A2 (n0 :: ns).length c2) (n0 :: ns)) (hok : ∀ n ∈ n0 :: ns, IntOk n) (hl : ns.length ≤ 999) (hb : out.length ≤ 1099511000000) :
    Calls Tryz.prog 15 #[u, .int .u8 cz, .slice A2 (n0 :: ns).length c2] w fun e w' => ∃ v, e = .returned v ∧ Kd.R (Kd.int .u8) 5 w' w0.heap.size (fun _ => True) v (toI (out ++ Lib.join ((n0 :: ns).map Lib.itoa) [c])) ∧ Below w0.heap.size w0 w' ∧ Kept w w' (T5 w) := by
  subst hcz
  exact join_own w0 w u out c n0 ns A2 c2 hB ho hi hok hl hb
/-- Rows of whole numbers stand where bytes are written. -/
theorem ints_kept {w W : World} {base : Nat} {v : Value} {ns : List Int} (h : Kd.R (Kd.int .i64) 3 w base (fun _ => True) v ns) (hk : Kept w W (T5 w)) : Kd.R (Kd.int .i64) 3 W base (fun _ => True) v ns :=
  Kd.R_mono (Kd.R_kept (Kd.R_bound h) hk (fun k hk => by
    obtain ⟨_, _, _, q, hq, c, hc⟩ := hk
    simp only [Kd.int, Kd.scalar, List.mem_cons, List.mem_nil_iff, or_false] at hq
    subst hq
    exact T5.not hc (by decide))) (fun _ _ => trivial)
theorem grown_below {w w1 : World} (hg : w.grownBy w1 none) : Below w.heap.size w w1 := ⟨hg.os, hg.tape, hg.output, hg.size, fun k hk => hg.block k hk (by simp)⟩
/-- append(out, rows..) as a step of a region that draws. -/
theorem step_rows {ops : Array Oper} {o : Oper} {a : Act} {Q : Exit → Act → World → Prop} {Kc : Act → World → Prop} {w0 W : World} (hw : Region.wanted o (yielded ops a.tmps) = true) (s x : Operand)
    (ho : o.op = .call { callee := .builtin .append, args := #[s, x], argTypes := #[26, 26] }) (v : Value) (out y : List UInt8) (A : Option Addr) (m c : Nat) (hs : a.eval s = v) (hx : a.eval x = .slice A m c) (hm : m = y.length)
    (HO : Kd.R (Kd.int .u8) 5 W w0.heap.size (fun _ => True) v (toI out)) (HC : Kd.C (Kd.int .u8) W A m (toI y)) (HB : Below w0.heap.size w0 W) (hl : out.length + y.length ≤ 1099511627776)
    (h : ∀ v1 w1, Kd.R (Kd.int .u8) 5 w1 w0.heap.size (fun _ => True) v1 (toI (out ++ y)) → Below w0.heap.size w0 w1 → Kept W w1 (T5 W) → Kc (a.put o.dst v1) w1) :
    if Region.wanted o (yielded ops a.tmps) = true then Oper.wp Tryz.prog o a W Kc Q else Kc (a.put o.dst undef) W := by
  have hown := bytes_of_R HO
  refine Kd.R_append_rows_step (Kd.int .u8) (w0 := w0) w0.heap.size hw s x 26 5 (.int .u8 0) 1 ho Tryz.underlying26 info5 rfl (by decide) (by omega) v (toI out) (toI y) A m c (fun _ => True) (fun _ => False) hs hx HO HC (fun _ _ h => h) (fun _ h => h.elim) (fun _ _ => trivial) HB HB.size (by rw [toI_length]; omega) (fun v1 w1 hr hb hg _ => h v1 w1 ?_ hb ((Kept.refl W (T5 W)).of_grown hg (fun k hk => .inl (own_typed hown k hk))))
  rw [toI_append]
  exact hr

end Go.Proofs.YtibhaklgajkalaaGreatDoor.YTell
