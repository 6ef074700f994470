/- AS1 -/
import Derived.Test.YtladodfapnigfaaYSesx0
import Derived.Test.YtladodfapnigfaaYSesx7
import Derived.Test.YtladodfapnigfaaYSesx6
import Derived.Deep.RegionHeld3
import Derived.Deep.DeepCutAuto
import Derived.Test.YtladodfapnigfaaYSesA9
namespace Go.Proofs.Ytladodfapnigfaa.YSes
open Go.RowKit Go.Proofs.YtladodfapnigfaaW.PrintWords Go.Proofs.YtladodfapnigfaaW.PrintLast Go.Proofs.YtladodfapnigfaaW.PrintMore
attribute [local go_sem] max2_int min2_int max_two min_two max_three min_three max_four min_four
set_option linter.unusedVariables false
set_option linter.unusedSimpArgs false
/-! What the law holds from round to round: the source of draws, the service, the items given. -/
/-- The same item, as the law asks it. -/
def smIB (x y : S24) : Bool := if x.f0 = y.f0 then (if x.f1 = y.f1 then ((strOfNums x.f2).toList == (strOfNums y.f2).toList) else false) else false
theorem smIB_told (x y : S24) : laws_smItem.f x.f0 x.f1 x.f2 y.f0 y.f1 y.f2 = some (smIB x y) := by
 unfold laws_smItem.f smIB laws_smBytes.f
 split
 ·split <;> rfl
 ·rfl
/-- Has the client given this seq, or a later one? (of the first n) -/
def staleF (gv : List S24) (x : S24) : Nat → Bool
 | 0 => false
 | n + 1 => if (rd_T24 gv (n : Int)).f0 = x.f0 ∧ x.f1 ≤ (rd_T24 gv (n : Int)).f1 then true else staleF gv x n
/-- The place of the same item, looked for among the first n. -/
def placeF (gv : List S24) (x : S24) : Nat → Int
 | 0 => gv.length
 | n + 1 => if smIB x (rd_T24 gv (n : Int)) = true then (n : Int) else placeF gv x n
/-- .. and given up where one of the first n is later. -/
def laterF (gv : List S24) (x : S24) (p : Int) : Nat → Int
 | 0 => p
 | n + 1 => if (rd_T24 gv (n : Int)).f0 = x.f0 ∧ x.f1 < (rd_T24 gv (n : Int)).f1 then (gv.length : Int) else laterF gv x p n
def SesS (w : World) (gs g4 : Nat) (l : List Int) (i x : Int) (A1 : Option Addr) (c1 : Nat) (ks : List S24) (A2 : Option Addr) (c2 : Nat) (ss : List S74) (V : Value) (gv : List S24) (W : World) : Prop :=
 IsS85 w W gs l i x ∧ W.heap[g4]? = some (.cells #[.int .i64 0, .slice A1 ks.length c1, .slice A2 ss.length c2] 48 (0, 0)) ∧ w.heap.size ≤ g4 ∧ Kd.S k24 24 W w.heap.size (fun k => some k ≠ V.ownBlock) (.slice A1 ks.length c1) ks ∧ Kd.S k74 74 W w.heap.size (fun k => some k ≠ V.ownBlock) (.slice A2 ss.length c2) ss ∧ Kd.R k24 24 W w.heap.size (fun _ => True) V gv ∧ Below w.heap.size w W
section sesS
variable {w W W' : World} {gs g4 : Nat} {l : List Int} {i x i' x' : Int} {A1 A2 : Option Addr} {c1 c2 : Nat} {ks gv : List S24} {ss : List S74} {V : Value}
theorem SesS.below (h : SesS w gs g4 l i x A1 c1 ks A2 c2 ss V gv W) (hb : Below W.heap.size W W') : SesS w gs g4 l i x A1 c1 ks A2 c2 ss V gv W' :=
 ⟨h.1.below hb, blk_below h.2.1 hb, h.2.2.1, Kd.S_below h.2.2.2.1 hb, Kd.S_below h.2.2.2.2.1 hb, Kd.R_below h.2.2.2.2.2.1 hb, below_step h.2.2.2.2.2.2 hb⟩
theorem SesS.draw (h : SesS w gs g4 l i x A1 c1 ks A2 c2 ss V gv W) (hI : IsS85 w W' gs l i' x') (hB : Below w.heap.size w W') (hk : KeepBut W W' gs none) : SesS w gs g4 l i' x' A1 c1 ks A2 c2 ss V gv W' := by
 obtain ⟨h1, h2, h3, h4, h5, h6, h7⟩ := h
 refine ⟨hI, ?_, h3, ?_, ?_, ?_, hB⟩
 ·exact (hk.2 g4 (blk_lt h2) (fun e => h1.ne_blk h2 (by decide) e.symm) (by simp)).trans h2
 ·exact Kd.S_mono (Kd.S_keep (h1.apartS h4 (by decide)) hk (fun k hk => hk.2)) (fun k hk => hk.1)
 ·exact Kd.S_mono (Kd.S_keep (h1.apartS h5 (by decide)) hk (fun k hk => hk.2)) (fun k hk => hk.1)
 ·exact Kd.R_mono (Kd.R_keep (h1.apart h6 (by decide)) hk (fun k hk => hk.2)) (fun k hk => hk.1)
/-- A new item's box is laid, and its three cells are stored. -/
theorem SesS.box (h : SesS w gs g4 l i x A1 c1 ks A2 c2 ss V gv W) {W9 : World} {g : Nat} (hb : Below W.heap.size W W9) (hg : g = W.heap.size) {v0 v1 v2 : Value} (hbox : W9.heap[g]? = some (.cells #[v0, v1, v2] 24 (0, 0))) (u0 u1 u2 : Value) :
 SesS w gs g4 l i x A1 c1 ks A2 c2 ss V gv (((W9.setCell ⟨g, 0, none⟩ u0).setCell ⟨g, 1, none⟩ u1).setCell ⟨g, 2, none⟩ u2) := by
 have hW := below_size h.2.2.2.2.2.2
 obtain ⟨h1, h2, h3, h4, h5, h6, h7⟩ := h
 have e1 := blk_put (cs' := #[u0, v1, v2]) hbox 0 u0 rfl
 have e2 := blk_put (cs' := #[u0, u1, v2]) e1 1 u1 rfl
 have b1 := h1.below hb
 have b2 := blk_below h2 hb
 have n1 : gs ≠ g := b1.ne_blk hbox (by decide)
 have n2 := blk_ne b2 hbox (by decide)
 have s4 := Kd.S_below (Kd.S_mono (Kd.S_bound h4) (ok' := fun k => some k ≠ V.ownBlock ∧ k < g) (fun k hk => ⟨hk.1, by rw [hg]; exact hk.2.2.1⟩)) hb
 have r6 := Kd.R_below (Kd.R_mono (Kd.R_bound h6) (ok' := fun k => k < g) (fun k hk => by rw [hg]; exact hk.2.2.1)) hb
 have s5 := Kd.S_below h5 hb
 have hsz : w.heap.size ≤ g := by omega
 refine ⟨((b1.far (p := ⟨g, 0, none⟩) n1 _).far (p := ⟨g, 1, none⟩) n1 _).far (p := ⟨g, 2, none⟩) n1 _, blk_far (blk_far (blk_far b2 n2 _) n2 _) n2 _, h3, ?_, Kd.S_set (Kd.S_set (Kd.S_set s5 hbox (by decide) 0 _) e1 (by decide) 1 _) e2 (by decide) 2 _, ?_, below_set (below_set (below_set (below_step h7 hb) hsz) hsz) hsz⟩
 ·have hk : ∀ k, some k ≠ V.ownBlock ∧ k < g → k ≠ g := fun k hk => by omega
  exact Kd.S_mono (Kd.S_far (p := ⟨g, 2, none⟩) (Kd.S_far (p := ⟨g, 1, none⟩) (Kd.S_far (p := ⟨g, 0, none⟩) s4 hk _) hk _) hk _) (fun k hk => hk.1)
 ·have hk : ∀ k, k < g → k ≠ g := fun k hk => by omega
  exact Kd.R_mono (Kd.R_far (p := ⟨g, 2, none⟩) (Kd.R_far (p := ⟨g, 1, none⟩) (Kd.R_far (p := ⟨g, 0, none⟩) r6 hk _) hk _) hk _) (fun _ _ => trivial)
/-- A store into a block of another type than all that is held (a service's box beside). -/
theorem SesS.side (h : SesS w gs g4 l i x A1 c1 ks A2 c2 ss V gv W) {g : Nat} {cs : Array Value} (hb : W.heap[g]? = some (.cells cs 48 (0, 0))) (hne : g4 ≠ g) (hsz : w.heap.size ≤ g) (q : Nat) (u : Value) : SesS w gs g4 l i x A1 c1 ks A2 c2 ss V gv (W.setCell ⟨g, q, none⟩ u) :=
 ⟨h.1.far (p := ⟨g, q, none⟩) (h.1.ne_blk hb (by decide)) u, blk_far h.2.1 hne u, h.2.2.1, Kd.S_set h.2.2.2.1 hb (by decide) q u, Kd.S_set h.2.2.2.2.1 hb (by decide) q u, Kd.R_set h.2.2.2.2.2.1 hb (by decide) q u, below_set h.2.2.2.2.2.2 hsz⟩
/-- The service is another one. -/
theorem SesS.service (h : SesS w gs g4 l i x A1 c1 ks A2 c2 ss V gv W) {B1 B2 : Option Addr} {d1 d2 : Nat} {ks' : List S24} {ss' : List S74}
 (h4 : Kd.S k24 24 W w.heap.size (fun k => some k ≠ V.ownBlock) (.slice B1 ks'.length d1) ks') (h5 : Kd.S k74 74 W w.heap.size (fun k => some k ≠ V.ownBlock) (.slice B2 ss'.length d2) ss') :
 SesS w gs g4 l i x B1 d1 ks' B2 d2 ss' V gv (((W.setCell ⟨g4, 0, none⟩ (.int .i64 0)).setCell ⟨g4, 1, none⟩ (.slice B1 ks'.length d1)).setCell ⟨g4, 2, none⟩ (.slice B2 ss'.length d2)) := by
 obtain ⟨h1, h2, h3, _, _, h6, h7⟩ := h
 have e1 := blk_put (cs' := #[.int .i64 0, .slice A1 ks.length c1, .slice A2 ss.length c2]) h2 0 (.int .i64 0) rfl
 have e2 := blk_put (cs' := #[.int .i64 0, .slice B1 ks'.length d1, .slice A2 ss.length c2]) e1 1 (.slice B1 ks'.length d1) rfl
 have e3 := blk_put (cs' := #[.int .i64 0, .slice B1 ks'.length d1, .slice B2 ss'.length d2]) e2 2 (.slice B2 ss'.length d2) rfl
 have n1 : gs ≠ g4 := h1.ne_blk h2 (by decide)
 exact ⟨((h1.far (p := ⟨g4, 0, none⟩) n1 _).far (p := ⟨g4, 1, none⟩) n1 _).far (p := ⟨g4, 2, none⟩) n1 _, e3, h3, Kd.S_set (Kd.S_set (Kd.S_set h4 h2 (by decide) 0 _) e1 (by decide) 1 _) e2 (by decide) 2 _, Kd.S_set (Kd.S_set (Kd.S_set h5 h2 (by decide) 0 _) e1 (by decide) 1 _) e2 (by decide) 2 _, Kd.R_set (Kd.R_set (Kd.R_set h6 h2 (by decide) 0 _) e1 (by decide) 1 _) e2 (by decide) 2 _, below_set (below_set (below_set h7 h3) h3) h3⟩
/-- A service beside, and what becomes of it where the given items grow. -/
def BesideS (w : World) (V : Value) (B1 : Option Addr) (d1 : Nat) (ks : List S24) (B2 : Option Addr) (d2 : Nat) (ss : List S74) (W : World) : Prop :=
 Kd.S k24 24 W w.heap.size (fun k => some k ≠ V.ownBlock) (.slice B1 ks.length d1) ks ∧ Kd.S k74 74 W w.heap.size (fun k => some k ≠ V.ownBlock) (.slice B2 ss.length d2) ss
theorem BesideS.below {B1 B2 : Option Addr} {d1 d2 : Nat} (h : BesideS w V B1 d1 ks B2 d2 ss W) (hb : Below W.heap.size W W') : BesideS w V B1 d1 ks B2 d2 ss W' := ⟨Kd.S_below h.1 hb, Kd.S_below h.2 hb⟩
theorem BesideS.new {B1 B2 : Option Addr} {d1 d2 : Nat} {okA okB : Nat → Prop} (hw : w.heap.size ≤ W.heap.size) (hV : ∀ k, V.ownBlock = some k → k < W.heap.size) (h1 : Kd.S k24 24 W' W.heap.size okA (.slice B1 ks.length d1) ks) (h2 : Kd.S k74 74 W' W.heap.size okB (.slice B2 ss.length d2) ss) : BesideS w V B1 d1 ks B2 d2 ss W' :=
 ⟨Kd.S_lower (Kd.S_mono (Kd.S_bound h1) (fun k hk e => by have := hV k e.symm; have := hk.2.1; omega)) hw, Kd.S_lower (Kd.S_mono (Kd.S_bound h2) (fun k hk e => by have := hV k e.symm; have := hk.2.1; omega)) hw⟩
/-- The item is appended to the given ones. -/
theorem sesAppend {ops : Array Oper} {rest : List Oper} {o : Oper} {ac : Act} {Q : Exit → Act → World → Prop} (h : SesS w gs g4 l i x A1 c1 ks A2 c2 ss V gv W) {B1 B2 : Option Addr} {d1 d2 : Nat} {ks' : List S24} {ss' : List S74} (hN : BesideS w V B1 d1 ks' B2 d2 ss' W) (g18 : Nat) (cs18 : Array Value) (h18 : W.heap[g18]? = some (.cells cs18 48 (0, 0)))
 (p : S24) (v2 : Value) (okp : Nat → Prop) (hp : Kd.R (Kd.int .u8) 5 W w.heap.size okp v2 p.f2) (hl : gv.length ≤ 1000000) (s y : Operand) (hgd : o.guard = none)
 (ho : o.op = .call { callee := .builtin .append, args := #[s, y], argTypes := #[45, 45] }) (hs : ac.eval s = V) (hx : ac.eval y = .slice (some ⟨W.heap.size, 0, none⟩) 1 1)
 (hK : ∀ A' c' w1, SesS w gs g4 l i x A1 c1 ks A2 c2 ss (.slice A' (gv ++ [p]).length c') (gv ++ [p]) w1 → BesideS w (.slice A' (gv ++ [p]).length c') B1 d1 ks' B2 d2 ss' w1 → w1.heap[g18]? = some (.cells cs18 48 (0, 0)) → wpList Try.prog ops Q rest (ac.put o.dst (.slice A' (gv ++ [p]).length c')) w1) :
 wpList Try.prog ops Q (o :: rest) ac (W.alloc (.cells #[.int .i64 p.f0, .int .i64 p.f1, v2] 24 (0, 0))) := by
 obtain ⟨h1, h2, h3, h4, h5, h6, h7⟩ := h
 have hty := Kd.R_typed h6
 have hp2 : Kd.R (Kd.int .u8) 5 W w.heap.size (fun k => some k ≠ V.ownBlock) v2 p.f2 := by
  refine Kd.R_mono (Kd.R_bound hp) (fun k hk e => ?_)
  obtain ⟨cs, hcs⟩ := hty k e.symm
  obtain ⟨_, _, _, q, hq, cs', hcs'⟩ := hk
  rw [hcs] at hcs'
  rcases List.mem_cons.1 hq with rfl | hq
  ·cases hcs'
  ·cases hq
 refine Kd.R_append (P := Try.prog) (ops := ops) (rest := rest) (o := o) (a := ac) (Q := Q) k24 (w0 := w) (W := W) w.heap.size hgd s y 45 24 (.agg #[(.int .i64 0), (.int .i64 0), (.slice none 0 0)]) 40 ho Try.underlying45 info24 rfl (by decide) (by omega) V gv p [.int .i64 p.f0, .int .i64 p.f1, v2] (fun _ => True) (fun k => some k ≠ V.ownBlock) hs hx (k24_mkM _ _ _ p hp2) (fun k hk => ⟨trivial, hk⟩) (fun _ _ => trivial) h6 h7 (below_size h7) (by omega) ?_
 intro v1 w1 hr hb hg hat
 obtain ⟨A', c', rfl⟩ := Kd.R_slice hr
 have mv : ∀ {α : Type} {d : Kd α} {e : Nat} {v : Value} {xs : List α}, Kd.S d e W w.heap.size (fun k => some k ≠ V.ownBlock) v xs → Kd.S d e w1 w.heap.size (fun k => some k ≠ (Value.slice A' (gv ++ [p]).length c').ownBlock) v xs := fun hS => by
  refine Kd.S_mono (Kd.S_grown (Kd.S_mono (Kd.S_bound hS) (ok' := fun k => some k ≠ V.ownBlock ∧ k < W.heap.size) (fun k hk => ⟨hk.1, hk.2.2.1⟩)) hg (fun k hk => hk.1)) (fun k hk e => ?_)
  rcases hat with e1 | ⟨q, e1, hq⟩
  ·exact hk.1 (e.trans e1)
  ·rw [e1] at e; cases e; omega
 exact hK A' c' w1 ⟨h1.grown hg (h1.own_ne h6 (by decide)), blk_grown h2 hg (Kd.R_ne h6 h2 (by decide)), h3, mv h4, mv h5, hr, hb⟩ ⟨mv hN.1, mv hN.2⟩ (blk_grown h18 hg (Kd.R_ne h6 h18 (by decide)))
theorem BesideS.side {B1 B2 : Option Addr} {d1 d2 : Nat} (h : BesideS w V B1 d1 ks B2 d2 ss W) {g : Nat} {cs : Array Value} (hb : W.heap[g]? = some (.cells cs 48 (0, 0))) (q : Nat) (u : Value) : BesideS w V B1 d1 ks B2 d2 ss (W.setCell ⟨g, q, none⟩ u) := ⟨Kd.S_set h.1 hb (by decide) q u, Kd.S_set h.2 hb (by decide) q u⟩
/-- All the kept items appended to no items. -/
theorem sesCopyAll {ops : Array Oper} {rest : List Oper} {o : Oper} {ac : Act} {Q : Exit → Act → World → Prop} (h : SesS w gs g4 l i x A1 c1 ks A2 c2 ss V gv W) (hl : ks.length ≤ 1000000) (s y : Operand) (hgd : o.guard = none)
 (ho : o.op = .call { callee := .builtin .append, args := #[s, y], argTypes := #[45, 45] }) (hs : ac.eval s = .slice none 0 0) (hx : ac.eval y = .slice A1 ks.length c1)
 (hK : ∀ A' c' w1, Kd.R k24 24 w1 w.heap.size (fun _ => True) (.slice A' ks.length c') ks → Below W.heap.size W w1 → wpList Try.prog ops Q rest (ac.put o.dst (.slice A' ks.length c')) w1) :
 wpList Try.prog ops Q (o :: rest) ac W := by
 obtain ⟨h1, h2, h3, h4, h5, h6, h7⟩ := h
 obtain ⟨A, c, e, hle, hr⟩ := OwnRow.reads (Kd.S_R h4).2
 injection e with e1 _ e2
 subst e1 e2
 refine Kd.R_append_rows (P := Try.prog) (ops := ops) (rest := rest) (o := o) (a := ac) (Q := Q) k24 (w0 := w) (W := W) w.heap.size hgd s y 45 24 (.agg #[(.int .i64 0), (.int .i64 0), (.slice none 0 0)]) 40 ho Try.underlying45 info24 rfl (by decide) (by omega) (.slice none 0 0) [] ks A1 ks.length c1 (fun _ => True) (fun _ => True) hs hx (Kd.R_nil _ _ _ _ _) hr (fun x cs hp => Kd.M_mono _ (fun _ _ => trivial) hp) (fun k hk => ⟨trivial, by simp [Value.ownBlock]⟩) (fun _ _ => trivial) h7 (below_size h7) (by simp; omega) ?_
 intro v1 w1 hr1 hb hg hat
 rw [List.nil_append] at hr1
 obtain ⟨A', c', rfl⟩ := Kd.R_slice hr1
 exact hK A' c' w1 hr1 ((Below.refl _ W).grown hg (Nat.le_refl _) (fun k hk => by simp [Value.ownBlock] at hk))
end sesS

end Go.Proofs.Ytladodfapnigfaa.YSes
