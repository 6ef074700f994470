/- A1 -/
import Derived.Test.YtladodfapnigfaaYSesx0
import Derived.Lib.SliceRun
import Derived.Lib.Hide
namespace Go.Proofs.Ytladodfapnigfaa.YSes
open Go.RowKit Go.Proofs.YtladodfapnigfaaW.PrintWords Go.Proofs.YtladodfapnigfaaW.PrintLast Go.Proofs.YtladodfapnigfaaW.PrintMore
attribute [local go_sem] max2_int min2_int max_two min_two max_three min_three max_four min_four
set_option linter.unusedVariables false
set_option linter.unusedSimpArgs false
section clones
variable {W0 : World}
theorem Below.heap_cell {w : World} {o : Obj} {ad : Addr} {xs : List Value} (h : ∀ j u, xs[j]? = some u → w.cell? (ad.add j) = some u) (j : Nat) (u : Value) (hu : xs[j]? = some u) : (w.alloc o).cell? (ad.add j) = some u :=
 (((Below.refl w.heap.size w).alloc (Nat.le_refl _) o).cell (World.block_lt_of_cell? w _ (h j u hu))).trans (h j u hu)

set_option maxHeartbeats 4000000 in
set_option maxRecDepth 100000 in
/-- slices.Clone at a row of structs: the cells are copied. -/
theorem cloneSess.calls (ad : Addr) (n c : Nat) (xs : List Value) (hl : xs.length = n * 4) (hx : ∀ j u, xs[j]? = some u → W0.cell? (ad.add j) = some u) (h1 : ∀ u ∈ xs, u.oneCell' = true) (hn : n ≤ 1048576) :
 Calls Try.prog 78 #[.slice (some ad) n c] W0 fun e w' => ∃ v, e = .returned v ∧ w'.ownsRow W0.heap.size 74 4 v n xs ∧ Below W0.heap.size W0 w' := by
 have hnil := fun (w : World) => Lib.run_eql_slice_nil (P := Try.prog) w 46 74 (some ad) n c 0 0 Try.underlying46
 simp only [Option.isNone_some] at hnil
 obtain ⟨i0, hi, hz0, hz1, hz2⟩ := info_parts info74
 have HL := Aside0.mk hl
 have HX := Aside0.mk hx
 have H1 := Aside0.mk h1
 have HN := Aside0.mk hn
 clear hl hx h1 hn
 go_enter Try.func78, Try.ntmps78
 go_wp2_with ((with_reducible refine gate_builtin (b := .append) (xs := #[.tmp 5, .tmp 6]) rfl ?_); at_builtin; refine Hid.out ?_)
 refine Lib.hid ?_
 refine wpList_append_own_at _ rfl _ _ 46 rfl W0.heap.size 74 i0 (.agg #[(.int .i64 0), (.int .i64 0), (.int .i64 0), (.slice none 0 0)]) 4 48 Try.underlying46 hi hz0 hz1 hz2 rfl (by decide) _ 0 [] rfl (World.ownsRow_made W0 #[] 0 (Nat.le_refl _) (by decide) rfl) ad n c xs rfl HL.out (fun j u hu => (Below.heap_cell HX.out j u hu)) H1.out (by have := HN.out; simp only [maxLen]; omega) (by have := HN.out; omega) (by simp) ?_
 intro v1 w1 hown hg _ hat
 have HO := Aside0.mk hown
 have HB := Aside0.mk (show Below W0.heap.size W0 w1 from ((Below.refl _ W0).alloc (Nat.le_refl _) _).grown hg (by simp) (fun k hk => Nat.le_of_eq (Option.some.inj hk)))
 clear hown hg hat
 go_wp2
 go_ret
 exact ⟨_, rfl, by simpa using HO.out, HB.out⟩

set_option maxHeartbeats 4000000 in
set_option maxRecDepth 100000 in
/-- slices.Clone at a row of structs: the cells are copied. -/
theorem cloneItem.calls (ad : Addr) (n c : Nat) (xs : List Value) (hl : xs.length = n * 3) (hx : ∀ j u, xs[j]? = some u → W0.cell? (ad.add j) = some u) (h1 : ∀ u ∈ xs, u.oneCell' = true) (hn : n ≤ 1048576) :
 Calls Try.prog 77 #[.slice (some ad) n c] W0 fun e w' => ∃ v, e = .returned v ∧ w'.ownsRow W0.heap.size 24 3 v n xs ∧ Below W0.heap.size W0 w' := by
 have hnil := fun (w : World) => Lib.run_eql_slice_nil (P := Try.prog) w 45 24 (some ad) n c 0 0 Try.underlying45
 simp only [Option.isNone_some] at hnil
 obtain ⟨i0, hi, hz0, hz1, hz2⟩ := info_parts info24
 have HL := Aside0.mk hl
 have HX := Aside0.mk hx
 have H1 := Aside0.mk h1
 have HN := Aside0.mk hn
 clear hl hx h1 hn
 go_enter Try.func77, Try.ntmps77
 go_wp2_with ((with_reducible refine gate_builtin (b := .append) (xs := #[.tmp 5, .tmp 6]) rfl ?_); at_builtin; refine Hid.out ?_)
 refine Lib.hid ?_
 refine wpList_append_own_at _ rfl _ _ 45 rfl W0.heap.size 24 i0 (.agg #[(.int .i64 0), (.int .i64 0), (.slice none 0 0)]) 3 40 Try.underlying45 hi hz0 hz1 hz2 rfl (by decide) _ 0 [] rfl (World.ownsRow_made W0 #[] 0 (Nat.le_refl _) (by decide) rfl) ad n c xs rfl HL.out (fun j u hu => (Below.heap_cell HX.out j u hu)) H1.out (by have := HN.out; simp only [maxLen]; omega) (by have := HN.out; omega) (by simp) ?_
 intro v1 w1 hown hg _ hat
 have HO := Aside0.mk hown
 have HB := Aside0.mk (show Below W0.heap.size W0 w1 from ((Below.refl _ W0).alloc (Nat.le_refl _) _).grown hg (by simp) (fun k hk => Nat.le_of_eq (Option.some.inj hk)))
 clear hown hg hat
 go_wp2
 go_ret
 exact ⟨_, rfl, by simpa using HO.out, HB.out⟩
end clones

/-- A copied row of structs: of the first i the bytes are new, the rest still share the old ones. -/
def RowS (w : World) (B : Nat) (W : World) (v : Value) (l : List S74) (i : Nat) : Prop :=
 ∃ (inner : List Value) (f : Nat → Nat), W.ownsRow B 74 4 v l.length inner ∧ ∀ (j : Nat) (x : S74), l[j]? = some x →
  (inner[j * 4 + 0]? = some (.int .i64 x.f0) ∧ inner[j * 4 + 1]? = some (.int .i64 x.f1) ∧ inner[j * 4 + 2]? = some (.int .i64 x.f2)) ∧ ∃ d, inner[j * 4 + 3]? = some d ∧ ((j < i → Kd.R (Kd.int .u8) 5 W B (fun k => f k = j) d x.f3) ∧ (i ≤ j → ∃ A c, d = .slice A x.f3.length c ∧ x.f3.length ≤ c ∧ Kd.C (Kd.int .u8) w A x.f3.length x.f3))
theorem RowS.below {w : World} {B : Nat} {W W' : World} {v : Value} {l : List S74} {i : Nat} (h : RowS w B W v l i) (hb : Below W.heap.size W W') : RowS w B W' v l i := by
 obtain ⟨inner, f, ho, hx⟩ := h
 refine ⟨inner, f, pw_own_below ho hb, fun j x hj => ?_⟩
 obtain ⟨h1, d, h2, h3, h4⟩ := hx j x hj
 exact ⟨h1, d, h2, fun hlt => Kd.R_below (h3 hlt) hb, h4⟩
theorem RowS.far {w : World} {B : Nat} {W : World} {v : Value} {l : List S74} {i : Nat} (h : RowS w B W v l i) {b t : Nat} {cs : Array Value} (hb : W.heap[b]? = some (.cells cs t (0, 0))) (h5 : 5 ≠ t) (he : 74 ≠ t) (q : Nat) (u : Value) : RowS w B (W.setCell ⟨b, q, none⟩ u) v l i := by
 obtain ⟨inner, f, ho, hx⟩ := h
 refine ⟨inner, f, ?_, fun j x hj => ?_⟩
 ·have hne := own_ne ho hb he
  refine ho.kept (w' := W.setCell ⟨b, q, none⟩ u) (row := some b) ⟨rfl, rfl, rfl, by simp [World.setCell], fun k _ hk => Below.heap_setCell _ _ _ k (fun e => hk (by rw [e]))⟩ ?_
  exact .inr (fun e => hne e.symm)
 ·obtain ⟨h1, d, h2, h3, h4⟩ := hx j x hj
  exact ⟨h1, d, h2, fun hlt => Kd.R_set (h3 hlt) hb (fun z hz => by rcases List.mem_cons.1 hz with rfl | hz; exact h5; cases hz) q u, h4⟩
/-- A store into a block of the row's own type that is not the row. -/
theorem RowS.away {w : World} {B : Nat} {W : World} {v : Value} {l : List S74} {i : Nat} (h : RowS w B W v l i) {b : Nat} {cs : Array Value} (hb : W.heap[b]? = some (.cells cs 74 (0, 0))) (hne : v.ownBlock ≠ some b) (q : Nat) (u : Value) : RowS w B (W.setCell ⟨b, q, none⟩ u) v l i := by
 obtain ⟨inner, f, ho, hx⟩ := h
 refine ⟨inner, f, ?_, fun j x hj => ?_⟩
 ·exact ho.kept (w' := W.setCell ⟨b, q, none⟩ u) (row := some b) ⟨rfl, rfl, rfl, by simp [World.setCell], fun k _ hk => Below.heap_setCell _ _ _ k (fun e => hk (by rw [e]))⟩ (.inr hne)
 ·obtain ⟨h1, d, h2, h3, h4⟩ := hx j x hj
  exact ⟨h1, d, h2, fun hlt => Kd.R_set (h3 hlt) hb (fun z hz => by rcases List.mem_cons.1 hz with rfl | hz; decide; cases hz) q u, h4⟩
theorem RowS.form {w : World} {B : Nat} {W : World} {v : Value} {l : List S74} {i : Nat} (h : RowS w B W v l i) (hp : 0 < l.length) : ∃ g cap, v = .slice (some ⟨g, 0, none⟩) l.length cap ∧ B ≤ g ∧ l.length ≤ cap ∧ ∃ cur, W.heap[g]? = some (.cells cur 74 (0, 0)) := by
 obtain ⟨inner, f, ho, _⟩ := h
 rcases ho.2 with ⟨_, h0⟩ | ⟨g, cap, cur, e, h1, h2, h3, _⟩
 ·omega
 ·exact ⟨g, cap, e, h1, h3, cur, h2⟩
theorem RowS.cells {w : World} {B : Nat} {W : World} {g cap n : Nat} {l : List S74} {i : Nat} (h : RowS w B W (.slice (some ⟨g, 0, none⟩) n cap) l i) (j : Nat) (x : S74) (hj : l[j]? = some x) :
 W.cell? ⟨g, j * 4 + 0, none⟩ = some (.int .i64 x.f0) ∧ W.cell? ⟨g, j * 4 + 1, none⟩ = some (.int .i64 x.f1) ∧ W.cell? ⟨g, j * 4 + 2, none⟩ = some (.int .i64 x.f2) ∧ ∃ d, W.cell? ⟨g, j * 4 + 3, none⟩ = some d ∧ (i ≤ j → ∃ A c, d = .slice A x.f3.length c ∧ x.f3.length ≤ c ∧ Kd.C (Kd.int .u8) w A x.f3.length x.f3) := by
 obtain ⟨inner, f, ho, hx⟩ := h
 have hadd : ∀ q, (⟨g, 0, none⟩ : Addr).add q = ⟨g, q, none⟩ := fun q => by unfold Addr.add; split <;> simp_all
 obtain ⟨h1, d, h2, _, h4⟩ := hx j x hj
 have hc := ho.cells (g := g) rfl
 obtain ⟨a0, a1, a2⟩ := h1
 refine ⟨by have := hc _ _ a0; rwa [hadd] at this, by have := hc _ _ a1; rwa [hadd] at this, by have := hc _ _ a2; rwa [hadd] at this, d, by have := hc _ _ h2; rwa [hadd] at this, h4⟩
/-- The next one's bytes are new too. -/
theorem RowS.put {w : World} {B : Nat} {W W' : World} {g cap : Nat} {l : List S74} {i : Nat} {x : S74} {d : Value} (h : RowS w B W (.slice (some ⟨g, 0, none⟩) l.length cap) l i) (hi : l[i]? = some x) (hb : Below W.heap.size W W') (hw : B ≤ W.heap.size) (hd : Kd.R (Kd.int .u8) 5 W' W.heap.size (fun _ => True) d x.f3) :
 RowS w B (W'.setCell ⟨g, i * 4 + 3, none⟩ d) (.slice (some ⟨g, 0, none⟩) l.length cap) l (i + 1) := by
 have hold := h
 have h' := h.below hb
 obtain ⟨inner0, f, ho0, hx0⟩ := hold
 obtain ⟨g', cap', cur, e, hge, hgb, h3, h4, h5, h6⟩ : ∃ g' cap' cur, Value.slice (some ⟨g, 0, none⟩) l.length cap = .slice (some ⟨g', 0, none⟩) l.length cap' ∧ B ≤ g' ∧ W'.heap[g']? = some (.cells cur 74 (0, 0)) ∧ l.length ≤ cap' ∧ cap' ≤ maxLen ∧ cur.size = cap' * 4 ∧ cur.toList.take (l.length * 4) = inner0 := by
  have := (pw_own_below ho0 hb).2
  rcases this with ⟨e, _⟩ | h
  ·cases e
  ·exact h
 cases e
 have hil : i < l.length := (List.getElem?_eq_some_iff.1 hi).1
 have hgl : g < W.heap.size := (ho0.lt g rfl).2
 refine ⟨inner0.set (i * 4 + 3) d, fun k => if W.heap.size ≤ k then i else f k, ⟨by rw [List.length_set]; exact ho0.1, .inr ⟨g, cap, cur.setIfInBounds (i * 4 + 3) d, rfl, hge, blk_set hgb _ _, h3, h4, by rw [Array.size_setIfInBounds]; exact h5, by rw [Array.toList_setIfInBounds, List.take_set, h6]⟩⟩, fun j y hj => ?_⟩
 obtain ⟨h1, d1, h2, h7, h8⟩ := hx0 j y hj
 have hjl : j < l.length := (List.getElem?_eq_some_iff.1 hj).1
 obtain ⟨a0, a1, a2⟩ := h1
 refine ⟨⟨by rw [List.getElem?_set_ne (by omega)]; exact a0, by rw [List.getElem?_set_ne (by omega)]; exact a1, by rw [List.getElem?_set_ne (by omega)]; exact a2⟩, ?_⟩
 by_cases ej : j = i
 ·subst ej
  have exy : x = y := by rw [hi] at hj; exact Option.some.inj hj
  subst exy
  refine ⟨d, by rw [List.getElem?_set_self (by rw [ho0.1]; omega)], fun _ => ?_, fun hh => by omega⟩
  refine Kd.R_set (Kd.R_lower (Kd.R_mono (Kd.R_bound hd) (fun k hk => ?_)) hw) hgb (fun z hz => by rcases List.mem_cons.1 hz with rfl | hz; decide; cases hz) _ _
  exact if_pos hk.2.1
 ·refine ⟨d1, by rw [List.getElem?_set_ne (by omega)]; exact h2, fun hlt => ?_, fun hh => h8 (by omega)⟩
  have hr := h7 (by omega)
  refine Kd.R_set (Kd.R_below (Kd.R_mono (Kd.R_bound hr) (fun k hk => ?_)) hb) hgb (fun z hz => by rcases List.mem_cons.1 hz with rfl | hz; decide; cases hz) _ _
  show (if W.heap.size ≤ k then i else f k) = j
  rw [if_neg (by have := hk.2.2.1; omega)]
  exact hk.1
/-- When all are new, the row is owned, element apart from element. -/
theorem RowS.owned {w : World} {B : Nat} {W : World} {v : Value} {l : List S74} (h : RowS w B W v l l.length) : Kd.S k74 74 W B (fun k => k < W.heap.size) v l := by
 obtain ⟨inner, f, ho, hx⟩ := h
 refine ⟨f, fun k hk => (ho.lt k hk).2, inner, by rw [List.length_zipIdx]; exact ho, by rw [List.length_zipIdx]; exact ho.1, fun j p hp => ?_⟩
 rw [List.getElem?_zipIdx] at hp
 obtain ⟨x, hj, rfl⟩ := Option.map_eq_some_iff.1 hp
 have hjl : j < l.length := (List.getElem?_eq_some_iff.1 hj).1
 obtain ⟨⟨a0, a1, a2⟩, d, h2, h3, _⟩ := hx j x hj
 have hseg : (inner.drop (j * 4)).take 4 = [.int .i64 x.f0, .int .i64 x.f1, .int .i64 x.f2, d] := by
  apply List.ext_getElem?
  intro q
  rw [List.getElem?_take]
  by_cases hq : q < 4
  ·rw [if_pos hq, List.getElem?_drop]
   match q, hq with
   | 0, _ => exact a0
   | 1, _ => exact a1
   | 2, _ => exact a2
   | 3, _ => exact h2
  ·rw [if_neg hq, List.getElem?_eq_none (by simp; omega)]
 show k74.M W B _ x ((inner.drop (j * 4)).take 4)
 rw [hseg]
 refine k74_mkM _ _ _ x (Kd.R_mono (Kd.R_bound (h3 hjl)) (fun k hk => ?_))
 refine ⟨⟨hk.2.2.1, fun e => ?_⟩, by rw [hk.1, Nat.zero_add]⟩
 obtain ⟨cs, hcs⟩ := own_typed ho k e.symm
 obtain ⟨q, hq, cs', hcs'⟩ := hk.2.2.2
 rw [hcs] at hcs'
 rcases List.mem_cons.1 hq with rfl | hq
 ·cases hcs'
 ·cases hq

/-- A copied row of structs: of the first i the bytes are new, the rest still share the old ones. -/
def RowI (w : World) (B : Nat) (W : World) (v : Value) (l : List S24) (i : Nat) : Prop :=
 ∃ (inner : List Value) (f : Nat → Nat), W.ownsRow B 24 3 v l.length inner ∧ ∀ (j : Nat) (x : S24), l[j]? = some x →
  (inner[j * 3 + 0]? = some (.int .i64 x.f0) ∧ inner[j * 3 + 1]? = some (.int .i64 x.f1)) ∧ ∃ d, inner[j * 3 + 2]? = some d ∧ ((j < i → Kd.R (Kd.int .u8) 5 W B (fun k => f k = j) d x.f2) ∧ (i ≤ j → ∃ A c, d = .slice A x.f2.length c ∧ x.f2.length ≤ c ∧ Kd.C (Kd.int .u8) w A x.f2.length x.f2))
theorem RowI.below {w : World} {B : Nat} {W W' : World} {v : Value} {l : List S24} {i : Nat} (h : RowI w B W v l i) (hb : Below W.heap.size W W') : RowI w B W' v l i := by
 obtain ⟨inner, f, ho, hx⟩ := h
 refine ⟨inner, f, pw_own_below ho hb, fun j x hj => ?_⟩
 obtain ⟨h1, d, h2, h3, h4⟩ := hx j x hj
 exact ⟨h1, d, h2, fun hlt => Kd.R_below (h3 hlt) hb, h4⟩
theorem RowI.far {w : World} {B : Nat} {W : World} {v : Value} {l : List S24} {i : Nat} (h : RowI w B W v l i) {b t : Nat} {cs : Array Value} (hb : W.heap[b]? = some (.cells cs t (0, 0))) (h5 : 5 ≠ t) (he : 24 ≠ t) (q : Nat) (u : Value) : RowI w B (W.setCell ⟨b, q, none⟩ u) v l i := by
 obtain ⟨inner, f, ho, hx⟩ := h
 refine ⟨inner, f, ?_, fun j x hj => ?_⟩
 ·have hne := own_ne ho hb he
  refine ho.kept (w' := W.setCell ⟨b, q, none⟩ u) (row := some b) ⟨rfl, rfl, rfl, by simp [World.setCell], fun k _ hk => Below.heap_setCell _ _ _ k (fun e => hk (by rw [e]))⟩ ?_
  exact .inr (fun e => hne e.symm)
 ·obtain ⟨h1, d, h2, h3, h4⟩ := hx j x hj
  exact ⟨h1, d, h2, fun hlt => Kd.R_set (h3 hlt) hb (fun z hz => by rcases List.mem_cons.1 hz with rfl | hz; exact h5; cases hz) q u, h4⟩
/-- A store into a block of the row's own type that is not the row. -/
theorem RowI.away {w : World} {B : Nat} {W : World} {v : Value} {l : List S24} {i : Nat} (h : RowI w B W v l i) {b : Nat} {cs : Array Value} (hb : W.heap[b]? = some (.cells cs 24 (0, 0))) (hne : v.ownBlock ≠ some b) (q : Nat) (u : Value) : RowI w B (W.setCell ⟨b, q, none⟩ u) v l i := by
 obtain ⟨inner, f, ho, hx⟩ := h
 refine ⟨inner, f, ?_, fun j x hj => ?_⟩
 ·exact ho.kept (w' := W.setCell ⟨b, q, none⟩ u) (row := some b) ⟨rfl, rfl, rfl, by simp [World.setCell], fun k _ hk => Below.heap_setCell _ _ _ k (fun e => hk (by rw [e]))⟩ (.inr hne)
 ·obtain ⟨h1, d, h2, h3, h4⟩ := hx j x hj
  exact ⟨h1, d, h2, fun hlt => Kd.R_set (h3 hlt) hb (fun z hz => by rcases List.mem_cons.1 hz with rfl | hz; decide; cases hz) q u, h4⟩
theorem RowI.form {w : World} {B : Nat} {W : World} {v : Value} {l : List S24} {i : Nat} (h : RowI w B W v l i) (hp : 0 < l.length) : ∃ g cap, v = .slice (some ⟨g, 0, none⟩) l.length cap ∧ B ≤ g ∧ l.length ≤ cap ∧ ∃ cur, W.heap[g]? = some (.cells cur 24 (0, 0)) := by
 obtain ⟨inner, f, ho, _⟩ := h
 rcases ho.2 with ⟨_, h0⟩ | ⟨g, cap, cur, e, h1, h2, h3, _⟩
 ·omega
 ·exact ⟨g, cap, e, h1, h3, cur, h2⟩
theorem RowI.cells {w : World} {B : Nat} {W : World} {g cap n : Nat} {l : List S24} {i : Nat} (h : RowI w B W (.slice (some ⟨g, 0, none⟩) n cap) l i) (j : Nat) (x : S24) (hj : l[j]? = some x) :
 W.cell? ⟨g, j * 3 + 0, none⟩ = some (.int .i64 x.f0) ∧ W.cell? ⟨g, j * 3 + 1, none⟩ = some (.int .i64 x.f1) ∧ ∃ d, W.cell? ⟨g, j * 3 + 2, none⟩ = some d ∧ (i ≤ j → ∃ A c, d = .slice A x.f2.length c ∧ x.f2.length ≤ c ∧ Kd.C (Kd.int .u8) w A x.f2.length x.f2) := by
 obtain ⟨inner, f, ho, hx⟩ := h
 have hadd : ∀ q, (⟨g, 0, none⟩ : Addr).add q = ⟨g, q, none⟩ := fun q => by unfold Addr.add; split <;> simp_all
 obtain ⟨h1, d, h2, _, h4⟩ := hx j x hj
 have hc := ho.cells (g := g) rfl
 obtain ⟨a0, a1⟩ := h1
 refine ⟨by have := hc _ _ a0; rwa [hadd] at this, by have := hc _ _ a1; rwa [hadd] at this, d, by have := hc _ _ h2; rwa [hadd] at this, h4⟩
/-- The next one's bytes are new too. -/
theorem RowI.put {w : World} {B : Nat} {W W' : World} {g cap : Nat} {l : List S24} {i : Nat} {x : S24} {d : Value} (h : RowI w B W (.slice (some ⟨g, 0, none⟩) l.length cap) l i) (hi : l[i]? = some x) (hb : Below W.heap.size W W') (hw : B ≤ W.heap.size) (hd : Kd.R (Kd.int .u8) 5 W' W.heap.size (fun _ => True) d x.f2) :
 RowI w B (W'.setCell ⟨g, i * 3 + 2, none⟩ d) (.slice (some ⟨g, 0, none⟩) l.length cap) l (i + 1) := by
 have hold := h
 have h' := h.below hb
 obtain ⟨inner0, f, ho0, hx0⟩ := hold
 obtain ⟨g', cap', cur, e, hge, hgb, h3, h4, h5, h6⟩ : ∃ g' cap' cur, Value.slice (some ⟨g, 0, none⟩) l.length cap = .slice (some ⟨g', 0, none⟩) l.length cap' ∧ B ≤ g' ∧ W'.heap[g']? = some (.cells cur 24 (0, 0)) ∧ l.length ≤ cap' ∧ cap' ≤ maxLen ∧ cur.size = cap' * 3 ∧ cur.toList.take (l.length * 3) = inner0 := by
  have := (pw_own_below ho0 hb).2
  rcases this with ⟨e, _⟩ | h
  ·cases e
  ·exact h
 cases e
 have hil : i < l.length := (List.getElem?_eq_some_iff.1 hi).1
 have hgl : g < W.heap.size := (ho0.lt g rfl).2
 refine ⟨inner0.set (i * 3 + 2) d, fun k => if W.heap.size ≤ k then i else f k, ⟨by rw [List.length_set]; exact ho0.1, .inr ⟨g, cap, cur.setIfInBounds (i * 3 + 2) d, rfl, hge, blk_set hgb _ _, h3, h4, by rw [Array.size_setIfInBounds]; exact h5, by rw [Array.toList_setIfInBounds, List.take_set, h6]⟩⟩, fun j y hj => ?_⟩
 obtain ⟨h1, d1, h2, h7, h8⟩ := hx0 j y hj
 have hjl : j < l.length := (List.getElem?_eq_some_iff.1 hj).1
 obtain ⟨a0, a1⟩ := h1
 refine ⟨⟨by rw [List.getElem?_set_ne (by omega)]; exact a0, by rw [List.getElem?_set_ne (by omega)]; exact a1⟩, ?_⟩
 by_cases ej : j = i
 ·subst ej
  have exy : x = y := by rw [hi] at hj; exact Option.some.inj hj
  subst exy
  refine ⟨d, by rw [List.getElem?_set_self (by rw [ho0.1]; omega)], fun _ => ?_, fun hh => by omega⟩
  refine Kd.R_set (Kd.R_lower (Kd.R_mono (Kd.R_bound hd) (fun k hk => ?_)) hw) hgb (fun z hz => by rcases List.mem_cons.1 hz with rfl | hz; decide; cases hz) _ _
  exact if_pos hk.2.1
 ·refine ⟨d1, by rw [List.getElem?_set_ne (by omega)]; exact h2, fun hlt => ?_, fun hh => h8 (by omega)⟩
  have hr := h7 (by omega)
  refine Kd.R_set (Kd.R_below (Kd.R_mono (Kd.R_bound hr) (fun k hk => ?_)) hb) hgb (fun z hz => by rcases List.mem_cons.1 hz with rfl | hz; decide; cases hz) _ _
  show (if W.heap.size ≤ k then i else f k) = j
  rw [if_neg (by have := hk.2.2.1; omega)]
  exact hk.1
/-- When all are new, the row is owned, element apart from element. -/
theorem RowI.owned {w : World} {B : Nat} {W : World} {v : Value} {l : List S24} (h : RowI w B W v l l.length) : Kd.S k24 24 W B (fun k => k < W.heap.size) v l := by
 obtain ⟨inner, f, ho, hx⟩ := h
 refine ⟨f, fun k hk => (ho.lt k hk).2, inner, by rw [List.length_zipIdx]; exact ho, by rw [List.length_zipIdx]; exact ho.1, fun j p hp => ?_⟩
 rw [List.getElem?_zipIdx] at hp
 obtain ⟨x, hj, rfl⟩ := Option.map_eq_some_iff.1 hp
 have hjl : j < l.length := (List.getElem?_eq_some_iff.1 hj).1
 obtain ⟨⟨a0, a1⟩, d, h2, h3, _⟩ := hx j x hj
 have hseg : (inner.drop (j * 3)).take 3 = [.int .i64 x.f0, .int .i64 x.f1, d] := by
  apply List.ext_getElem?
  intro q
  rw [List.getElem?_take]
  by_cases hq : q < 3
  ·rw [if_pos hq, List.getElem?_drop]
   match q, hq with
   | 0, _ => exact a0
   | 1, _ => exact a1
   | 2, _ => exact h2
  ·rw [if_neg hq, List.getElem?_eq_none (by simp; omega)]
 show k24.M W B _ x ((inner.drop (j * 3)).take 3)
 rw [hseg]
 refine k24_mkM _ _ _ x (Kd.R_mono (Kd.R_bound (h3 hjl)) (fun k hk => ?_))
 refine ⟨⟨hk.2.2.1, fun e => ?_⟩, by rw [hk.1, Nat.zero_add]⟩
 obtain ⟨cs, hcs⟩ := own_typed ho k e.symm
 obtain ⟨q, hq, cs', hcs'⟩ := hk.2.2.2
 rw [hcs] at hcs'
 rcases List.mem_cons.1 hq with rfl | hq
 ·cases hcs'
 ·cases hq

end Go.Proofs.Ytladodfapnigfaa.YSes
