/- T16 -/
import Derived.Test.YtibhaklgajkalaaGreatDoorYTellx0
import Derived.Test.YtibhaklgajkalaaGreatDoorYTellT1
import Derived.Test.YtibhaklgajkalaaGreatDoorYTellT3
import Derived.Test.YtibhaklgajkalaaGreatDoorYTellT4
import Derived.Test.YtibhaklgajkalaaGreatDoorYTellT7
namespace Go.Proofs.YtibhaklgajkalaaGreatDoor.YTell
open Go.RowKit Go.Proofs.YtibhaklgajkalaaGreatDoorW.PrintWords Go.Proofs.YtibhaklgajkalaaGreatDoorW.PrintLast Go.Proofs.YtibhaklgajkalaaGreatDoorW.PrintMore
attribute [local go_sem] max2_int min2_int max_two min_two max_three min_three max_four min_four
set_option linter.unusedVariables false
set_option linter.unusedSimpArgs false
open Go.Proofs.YtibhaklgajkalaaGreatDoor.Num
theorem Scrib.grown {w0 w W : World} (P : Nat → Prop) (h : Below w0.heap.size w0 w) (k : Below w.heap.size w W) : Scrib w0 P w W :=
  ⟨below_step h k, ⟨k.size, fun i hi _ => k.block i hi⟩, fun b cur e _ hb => ⟨cur, blk_below hb k, rfl, fun _ u hu => ⟨u, hu, .refl _⟩⟩⟩
set_option maxHeartbeats 2000000 in
set_option maxRecDepth 100000 in
theorem markReport_sh (w0 w : World) (P : Nat → Prop) (code : Int) (v : Value) (l : List S50) (a : Int) (ha0 : 0 ≤ a) (htot : a + sumTo mtObs l l.length ≤ 281474976710656) (hlen : l.length ≤ 281474976710656) (hP : ∀ k, P k → w0.heap.size ≤ k) (hB : Below w0.heap.size w0 w) (hf : ∀ y ∈ l, ObsLim y) (hs : ShRow P 50 18 (ShObs P) w v l) :
    Calls Tryz.prog 10 #[.agg #[.int .i64 code, v], .int .i64 a] w fun e w' => ∃ b', e = .returned (.int .i64 b') ∧ b' = a + sumTo mtObs l l.length ∧ Scrib w0 P w w' := by
  obtain ⟨A1, c1, hv⟩ := hs.slice
  subst hv
  have HS := Aside0.mk hs
  have HA := Aside0.mk ha0
  have HT := Aside0.mk htot
  have HLEN := Aside0.mk hlen
  have HPP := Aside0.mk hP
  have HB := Aside0.mk hB
  have HFT := Aside0.mk hf
  clear hs ha0 htot hlen hP hB hf
  go_enter Tryz.func10, Tryz.ntmps10
  go_upto_region 1 with ((with_reducible refine gate_dst (N := 2) rfl ?_); refine box_event ?hg (N := 2) ?hd (cs := #[.int .i64 code, .slice A1 l.length c1]) (t := 30) ?hr ?_; (case hd => rfl); (case hg => rfl); (case hr => first | (go_simp; done) | (go_simp; rfl)); intro g1 hgg w1 bk hbb; have BK := Aside0.mk bk; have HB1 := Aside0.mk hbb; clear hgg bk hbb)
  have k1 : w1.cell? ⟨g1, 1, none⟩ = some (.slice A1 l.length c1) := blk_cell BK.out 1
  have HSC := Aside0.mk (Scrib.grown P HB.out HB1.out)
  go_wp2_with fail
  refine Calls.mono (markObs_sh w0 w1 P _ l a HA.out HT.out HLEN.out HPP.out HSC.out.below HFT.out (HS.out.scrib (ShObs.stable P) HSC.out)) ?_
  rintro e w2 ⟨b, rfl, hb, hsc⟩
  have HBE := Aside0.mk hb
  have HSC2 := Aside0.mk (HSC.out.trans hsc)
  clear hb hsc k1
  go_wp2
  go_ret
  exact ⟨b, rfl, HBE.out, HSC2.out⟩

end Go.Proofs.YtibhaklgajkalaaGreatDoor.YTell
