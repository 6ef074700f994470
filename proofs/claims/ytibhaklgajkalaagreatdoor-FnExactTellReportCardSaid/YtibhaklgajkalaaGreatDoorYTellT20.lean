/- T20 -/
import Derived.Test.YtibhaklgajkalaaGreatDoorYTellx0
import Derived.Test.YtibhaklgajkalaaGreatDoorYTellT18
import Derived.Test.YtibhaklgajkalaaGreatDoorYTellT19
namespace Go.Proofs.YtibhaklgajkalaaGreatDoor.YTell
open Go.RowKit Go.Proofs.YtibhaklgajkalaaGreatDoorW.PrintWords Go.Proofs.YtibhaklgajkalaaGreatDoorW.PrintLast Go.Proofs.YtibhaklgajkalaaGreatDoorW.PrintMore
attribute [local go_sem] max2_int min2_int max_two min_two max_three min_three max_four min_four
set_option linter.unusedVariables false
set_option linter.unusedSimpArgs false
open Go.Proofs.YtibhaklgajkalaaGreatDoor.Num
theorem lawTell.holds (x : S24) (A1 : Option Addr) (c1 : Nat) (w : World) (hr1 : Kd.C k83 w A1 x.f1.length x.f1) (hc1 : x.f1.length ≤ c1) (he : Env w) (hf : x.f1.length ≤ 9223372036854775807 ∧ ∀ y ∈ x.f1, ObsFit y) (hc : IntOk x.f0) (hw : ∀ o ∈ x.f1, ObsWf o) :
    Calls Tryz.prog 3 #[.agg #[.int .i64 x.f0, .slice A1 x.f1.length c1]] w fun e w' => e = .returned (.bool true) ∧ Below w.heap.size w w' := by
  by_cases c : szT (rowsTot totObs x.f1) 1048576 < 0
  · exact lawTell.large x A1 c1 w hr1 hc1 hf c
  · have hn : rowsTot totObs x.f1 ≤ 1048576 := by
      unfold szT at c
      split at c <;> omega
    have hs := small_of x.f1 hn
    have hroom := room_of x.f0 hc x.f1 hn hw
    obtain ⟨T, hT⟩ : ∃ T, T = textD x.f0 (x.f1.map convObs) := ⟨_, rfl⟩
    have hTl : (toI T).length ≤ 281474976710656 := by rw [toI_length, hT]; omega
    obtain ⟨K1, f1⟩ := eqByteS_ev (toI T) hTl
    obtain ⟨z2, ⟨K2, f2⟩, hl2, hM⟩ := markByteS_ev 1 (by omega) (by omega) (toI T) hTl
    obtain ⟨K3, f3⟩ := heldByteS_ev 1 (by omega) (by omega) z2 (by omega) hM
    rw [hl2] at f3
    exact lawTell.calls (K1 + K2 + K3) x A1 c1 (x.f1.map convObs) T z2 w hr1 hc1 he {
      fit := hf, nonneg := c, small := hs, copy := rfl, len := (List.length_map _).symm, code := hc
      ok := fun o ho => by
        obtain ⟨y, hy, rfl⟩ := List.mem_map.1 ho
        exact ok_of y (hs.2 y hy) (hw y hy)
      text := hT, room := hroom, lim := lim_of x.f0 x.f1 hs, eqb := f1 _ (by omega), mark := f2 _ (by omega), held := f3 _ (by omega), tot := tot_of x.f1 hn }

end Go.Proofs.YtibhaklgajkalaaGreatDoor.YTell
