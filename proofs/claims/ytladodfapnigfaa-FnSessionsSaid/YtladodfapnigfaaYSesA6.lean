/- A6 -/
import Derived.Test.YtladodfapnigfaaYSesx0
import Derived.Test.YtladodfapnigfaaYSesA5
namespace Go.Proofs.Ytladodfapnigfaa.YSes
open Go.RowKit Go.Proofs.YtladodfapnigfaaW.PrintWords Go.Proofs.YtladodfapnigfaaW.PrintLast Go.Proofs.YtladodfapnigfaaW.PrintMore
attribute [local go_sem] max2_int min2_int max_two min_two max_three min_three max_four min_four
set_option linter.unusedVariables false
set_option linter.unusedSimpArgs false
open Classical in
/-- A row with one element put in: the elements' blocks stay apart. -/
theorem S_of_insert {α : Type} (d : Kd α) {e base : Nat} {W w' : World} {okS okD ok' : Nat → Prop} {V V' : Value} {l : List α} {x : α} {i : Nat} {seg xs : List Value} {f : Nat → Nat}
 (h0 : ∀ k, V.ownBlock = some k → okS k) (hr : Reps ((Kd.tag f d).M W base (fun k => okS k ∧ some k ≠ V.ownBlock)) d.sz l.zipIdx xs) (hi : i ≤ l.length) (hM : d.M W base okD x seg) (hap : ∀ k, okD k → ¬ okS k)
 (ho' : w'.ownsRow base e d.sz V' (l.length + 1) (xs.take (i * d.sz) ++ seg ++ xs.drop (i * d.sz))) (hsl : seg.length = d.sz) (hg : W.grownBy w' V.ownBlock) (hat : V'.ownBlock = V.ownBlock ∨ V'.ownBlock = some W.heap.size)
 (h1 : ∀ k, okS k → ok' k) (h2 : ∀ k, okD k → ok' k) (h3 : ok' W.heap.size) : Kd.S d e w' base ok' V' (l.take i ++ x :: l.drop i) := by
 have hxl : xs.length = l.length * d.sz := by have := hr.1; rwa [List.length_zipIdx] at this
 have hll : (l.take i ++ x :: l.drop i).length = l.length + 1 := by simp; omega
 have hilx : i * d.sz ≤ xs.length := by rw [hxl]; exact Nat.mul_le_mul_right _ hi
 have hta : (xs.take (i * d.sz)).length = i * d.sz := by rw [List.length_take]; omega
 refine ⟨fun k => if okD k then i else if f k < i then f k else f k + 1, fun k hk => ?_, xs.take (i * d.sz) ++ seg ++ xs.drop (i * d.sz), by rw [List.length_zipIdx, hll]; exact ho', by rw [List.length_zipIdx, hll]; exact ho'.1, fun j p hp => ?_⟩
 ·rcases hat with e1 | e1
  ·rw [e1] at hk; exact h1 k (h0 k hk)
  ·rw [e1] at hk; cases hk; exact h3
 rw [List.getElem?_zipIdx] at hp
 obtain ⟨y, hj, rfl⟩ := Option.map_eq_some_iff.1 hp
 show d.M w' base (fun k => (ok' k ∧ some k ≠ V'.ownBlock) ∧ (if okD k then i else if f k < i then f k else f k + 1) = 0 + j) y (((xs.take (i * d.sz) ++ seg ++ xs.drop (i * d.sz)).drop (j * d.sz)).take d.sz)
 -- an old element
 have hold : ∀ q, l[q]? = some y → (if q < i then q else q + 1) = j → d.M w' base (fun k => (ok' k ∧ some k ≠ V'.ownBlock) ∧ (if okD k then i else if f k < i then f k else f k + 1) = 0 + j) y ((xs.drop (q * d.sz)).take d.sz) := by
  intro q hq hqj
  have hm : d.M W base (fun k => (okS k ∧ some k ≠ V.ownBlock) ∧ f k = q) y ((xs.drop (q * d.sz)).take d.sz) := hr.2 q (y, q) (Kd.zip_at hq)
  refine d.M_mono (fun k hk => ?_) (Kd.M_grown (d.M_bound hm) hg (fun k hk => hk.1.1.2))
  obtain ⟨⟨⟨a1, a2⟩, a3⟩, a4, a5, _⟩ := hk
  refine ⟨⟨h1 k a1, ?_⟩, ?_⟩
  ·rcases hat with e1 | e1
   ·rw [e1]; exact a2
   ·rw [e1]; intro e2; cases e2; omega
  ·rw [if_neg (fun h => hap k h a1), a3, hqj, Nat.zero_add]
 have hij : i * d.sz + d.sz = (i + 1) * d.sz := by rw [Nat.add_mul, Nat.one_mul]
 have hjl : j < l.length + 1 := by rw [← hll]; exact (List.getElem?_eq_some_iff.1 hj).1
 rcases Nat.lt_trichotomy j i with hlt | heq | hgt
 ·rw [List.getElem?_append_left (by rw [List.length_take]; omega), List.getElem?_take, if_pos hlt] at hj
  have hjs : j * d.sz + d.sz ≤ i * d.sz := by rw [← Nat.succ_mul]; exact Nat.mul_le_mul_right _ hlt
  have := hold j hj (if_pos hlt)
  have e1 : ((xs.take (i * d.sz) ++ seg ++ xs.drop (i * d.sz)).drop (j * d.sz)).take d.sz = (xs.drop (j * d.sz)).take d.sz := by
   rw [List.append_assoc, List.drop_append_of_le_length (by omega), List.take_append_of_le_length (by rw [List.length_drop]; omega), List.drop_take, List.take_take, Nat.min_eq_left (by omega)]
  rw [e1]; exact this
 ·subst heq
  have hy : x = y := by
   rw [List.getElem?_append_right (by rw [List.length_take]; omega), List.length_take, Nat.min_eq_left hi, Nat.sub_self] at hj
   simpa using hj
  subst hy
  have e1 : ((xs.take (j * d.sz) ++ seg ++ xs.drop (j * d.sz)).drop (j * d.sz)).take d.sz = seg := by
   rw [List.append_assoc, List.drop_left' hta, List.take_left' hsl]
  rw [e1]
  refine d.M_mono (fun k hk => ?_) (Kd.M_grown (d.M_bound hM) hg (fun k hk e2 => hap k hk.1 (h0 k e2.symm)))
  obtain ⟨a1, a4, a5, _⟩ := hk
  refine ⟨⟨h2 k a1, ?_⟩, ?_⟩
  ·rcases hat with e1 | e1
   ·rw [e1]; exact fun e2 => hap k a1 (h0 k e2.symm)
   ·rw [e1]; intro e2; cases e2; omega
  ·rw [if_pos a1, Nat.zero_add]
 ·have hq : l[j - 1]? = some y := by
   rw [List.getElem?_append_right (by rw [List.length_take]; omega), List.length_take, Nat.min_eq_left hi, List.getElem?_cons, if_neg (by omega), List.getElem?_drop] at hj
   rw [← hj]; congr 1; omega
  have := hold (j - 1) hq (by rw [if_neg (by omega)]; omega)
  have e1 : ((xs.take (i * d.sz) ++ seg ++ xs.drop (i * d.sz)).drop (j * d.sz)).take d.sz = (xs.drop ((j - 1) * d.sz)).take d.sz := by
   have hj1 : j * d.sz = (i * d.sz + d.sz) + (j - 1 - i) * d.sz := by
    rw [hij, ← Nat.add_mul]; congr 1; omega
   have hj2 : (j - 1) * d.sz = i * d.sz + (j - 1 - i) * d.sz := by
    rw [← Nat.add_mul]; congr 1; omega
   have hlb : (xs.take (i * d.sz) ++ seg).length = i * d.sz + d.sz := by rw [List.length_append, hta, hsl]
   rw [hj1, hj2, ← List.drop_drop, List.drop_left' hlb, List.drop_drop]
  rw [e1]; exact this
theorem reps_one {α : Type} (d : Kd α) {w : World} {base : Nat} {ok : Nat → Prop} {l : List α} {xs : List Value} (h : Reps (d.M w base ok) d.sz l xs) : ∀ u ∈ xs, u.oneCell' = true := by
 intro u hu
 obtain ⟨q, hq, rfl⟩ := List.getElem_of_mem hu
 have hsz : 0 < d.sz := by
  rcases Nat.eq_zero_or_pos d.sz with h0 | h0
  ·rw [h.1, h0, Nat.mul_zero] at hq; omega
  ·exact h0
 have hj : q / d.sz < l.length := by
  rw [h.1] at hq
  exact (Nat.div_lt_iff_lt_mul hsz).2 hq
 have hK := d.K_of_M (h.2 (q / d.sz) l[q / d.sz] (List.getElem?_eq_getElem hj))
 refine d.K_one hK _ ?_
 refine List.mem_of_getElem? (i := q % d.sz) ?_
 rw [List.getElem?_take, if_pos (Nat.mod_lt _ hsz), List.getElem?_drop, Nat.mul_comm, Nat.div_add_mod]
 exact List.getElem?_eq_getElem hq
/-- slices.Insert of one session into an owned row. -/
theorem insertOne.calls (W : World) (base : Nat) (V : Value) (l : List S74) (x : S74) (i vb : Nat) (dv : Value) (okS okD ok' : Nat → Prop) (hS : Kd.S k74 74 W base okS V l) (hbase : base ≤ W.heap.size) (hi : i ≤ l.length) (hn : l.length ≤ 1048576)
 (hv : W.heap[vb]? = some (.cells #[.int .i64 x.f0, .int .i64 x.f1, .int .i64 x.f2, dv] 74 (0, 0))) (hvb : ¬ okS vb) (hD : Kd.R (Kd.int .u8) 5 W base okD dv x.f3) (hap : ∀ k, okD k → ¬ okS k) (h1 : ∀ k, okS k → ok' k) (h2 : ∀ k, okD k → ok' k) (h3 : ok' W.heap.size) :
 Calls Try.prog 82 #[V, .int .i64 (i : Int), .slice (some ⟨vb, 0, none⟩) 1 1] W fun e w' => ∃ V', e = .returned V' ∧ Kd.S k74 74 w' base ok' V' (l.take i ++ x :: l.drop i) ∧ W.grownBy w' V.ownBlock ∧ (V'.ownBlock = V.ownBlock ∨ V'.ownBlock = some W.heap.size) := by
 obtain ⟨f, h0, xs, ho, hr⟩ := hS
 rw [List.length_zipIdx] at ho
 have h1x := reps_one (Kd.tag f k74) hr
 have hM := k74_mkM W base okD x hD
 have h1s : ∀ u ∈ ([.int .i64 x.f0, .int .i64 x.f1, .int .i64 x.f2, dv] : List Value), u.oneCell' = true := k74.K_one (k74.K_of_M hM)
 have hsplit : i = l.length ∨ i < l.length := by omega
 have hxl : xs.length = l.length * 4 := ho.1
 rcases hsplit with rfl | hlt
 ·refine (insertEnd.calls W base V l.length xs _ vb ho hbase hn hv rfl h1s).mono ?_
  rintro e w' ⟨V', rfl, ho', hg, hat⟩
  refine ⟨V', rfl, S_of_insert k74 h0 hr (Nat.le_refl _) hM hap ?_ rfl hg hat h1 h2 h3, hg, hat⟩
  have e1 : xs.take (l.length * 4) = xs := List.take_of_length_le (by omega)
  have e2 : xs.drop (l.length * 4) = [] := List.drop_eq_nil_of_le (by omega)
  show w'.ownsRow base _ 4 V' _ (xs.take (l.length * 4) ++ _ ++ xs.drop (l.length * 4))
  rw [e1, e2, List.append_nil]
  exact ho'
 ·have hfo := ho
  rcases ho.2 with ⟨_, hz⟩ | ⟨g, cap, cur, rfl, hg0, hgb, hnc, hcm, hcs, hct⟩
  ·omega
  ·have hne : vb ≠ g := fun e => hvb (by rw [e]; exact h0 g rfl)
   by_cases hroom : l.length + 1 ≤ cap
   ·refine (insertShift.calls W base l.length i g cap xs _ vb hfo hlt hroom hn hv rfl hne h1x h1s).mono ?_
    rintro e w' ⟨V', rfl, ho', hg, hat⟩
    exact ⟨V', rfl, S_of_insert k74 h0 hr hi hM hap ho' rfl hg hat h1 h2 h3, hg, hat⟩
   ·refine (insertGrow.calls W base l.length i g cap xs _ vb hfo hbase hlt (by omega) hn hv rfl h1x h1s).mono ?_
    rintro e w' ⟨V', rfl, ho', hg, hat⟩
    exact ⟨V', rfl, S_of_insert k74 h0 hr hi hM hap ho' rfl hg hat h1 h2 h3, hg, hat⟩

end Go.Proofs.Ytladodfapnigfaa.YSes
