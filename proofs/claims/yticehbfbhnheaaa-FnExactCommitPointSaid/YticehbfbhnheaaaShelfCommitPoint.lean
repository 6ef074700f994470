/- Contracts of Go's library that CommitPoint's walk meets, laid at this translation by the kit's own laying program in plain words; each is one application of a theorem of the library. Conditions: each theorem's own hypotheses. -/
import Derived.Ground.Names2Prog
import Derived.Ground.SlgmProg
import Derived.Shelf.SortM.Plain
import Derived.Test.YticehbfbhnheaaaProg
namespace Go.Proofs
open Go.Shelf
def Try.laysSlM5_f11_ren : Go.Shelf.Ren := ⟨fun | 5 => 11 | 8 => 15 | 7 => 14 | 19 => 25 | 20 => 26 | 10 => 16 | 11 => 17 | 12 => 18 | 13 => 19 | 14 => 20 | 15 => 21 | 16 => 22 | 17 => 23 | 18 => 24 | 30 => 27 | 31 => 28 | 32 => 29 | 33 => 30 | 34 => 31 | 35 => 32 | 40 => 33 | n => n, fun | 23 => 22 | 25 => 3 | 3 => 3 | 32 => 36 | 22 => 22 | 0 => 0 | 44 => 47 | 46 => 49 | 4 => 4 | 36 => 39 | 35 => 38 | 41 => 44 | 5 => 5 | 9 => 9 | 53 => 50 | 57 => 54 | 63 => 56 | 64 => 57 | n => n, fun | n => n⟩
theorem Try.laysSlM5_f11 : Go.Proofs.SlLaysM.n5 Try.prog Try.laysSlM5_f11_ren := {
  mixed := by kernel_rfl
  f5 := ⟨Try.f11.name, by decide, Try.func11.trans (congrArg some (by kernel_rfl))⟩
  f7 := ⟨Try.f14.name, by decide, Try.func14.trans (congrArg some (by kernel_rfl))⟩
  f8 := Try.func15.trans (congrArg some (by kernel_rfl))
  f10 := ⟨Try.f16.name, by decide, Try.func16.trans (congrArg some (by kernel_rfl))⟩
  f11 := ⟨Try.f17.name, by decide, Try.func17.trans (congrArg some (by kernel_rfl))⟩
  f12 := ⟨Try.f18.name, by decide, Try.func18.trans (congrArg some (by kernel_rfl))⟩
  f13 := ⟨Try.f19.name, by decide, Try.func19.trans (congrArg some (by kernel_rfl))⟩
  f14 := ⟨Try.f20.name, by decide, Try.func20.trans (congrArg some (by kernel_rfl))⟩
  f15 := ⟨Try.f21.name, by decide, Try.func21.trans (congrArg some (by kernel_rfl))⟩
  f16 := ⟨Try.f22.name, by decide, Try.func22.trans (congrArg some (by kernel_rfl))⟩
  f17 := ⟨Try.f23.name, by decide, Try.func23.trans (congrArg some (by kernel_rfl))⟩
  f18 := ⟨Try.f24.name, by decide, Try.func24.trans (congrArg some (by kernel_rfl))⟩
  f19 := Try.func25.trans (congrArg some (by kernel_rfl))
  f20 := Try.func26.trans (congrArg some (by kernel_rfl))
  f30 := ⟨Try.f27.name, by decide, Try.func27.trans (congrArg some (by kernel_rfl))⟩
  f31 := Try.func28.trans (congrArg some (by kernel_rfl))
  f32 := Try.func29.trans (congrArg some (by kernel_rfl))
  f33 := ⟨Try.f30.name, by decide, Try.func30.trans (congrArg some (by kernel_rfl))⟩
  f34 := ⟨Try.f31.name, by decide, Try.func31.trans (congrArg some (by kernel_rfl))⟩
  f35 := ⟨Try.f32.name, by decide, Try.func32.trans (congrArg some (by kernel_rfl))⟩
  f40 := ⟨Try.f33.name, by decide, Try.func33.trans (congrArg some (by kernel_rfl))⟩
  t0 := Try.underlying0
  a0 := Try.isAgg0
  z0 := Try.sizeOf0
  v0 := Try.zeroValue0
  t3 := Try.underlying3
  a3 := Try.isAgg3
  z3 := Try.sizeOf3
  v3 := Try.zeroValue3
  t4 := Try.underlying4
  a4 := Try.isAgg4
  z4 := Try.sizeOf4
  v4 := Try.zeroValue4
  t5 := Try.underlying5
  a5 := Try.isAgg5
  z5 := Try.sizeOf5
  v5 := Try.zeroValue5
  t9 := Try.underlying9
  a9 := Try.isAgg9
  z9 := Try.sizeOf9
  v9 := Try.zeroValue9
  t22 := Try.underlying22
  a22 := Try.isAgg22
  z22 := Try.sizeOf22
  v22 := Try.zeroValue22
  t23 := Try.underlying22
  a23 := Try.isAgg22
  z23 := Try.sizeOf22
  v23 := Try.zeroValue22
  t25 := Try.underlying3
  a25 := Try.isAgg3
  z25 := Try.sizeOf3
  v25 := Try.zeroValue3
  t32 := Try.underlying36
  a32 := Try.isAgg36
  z32 := Try.sizeOf36
  v32 := Try.zeroValue36
  t35 := Try.underlying38
  a35 := Try.isAgg38
  z35 := Try.sizeOf38
  v35 := Try.zeroValue38
  t36 := Try.underlying39
  a36 := Try.isAgg39
  z36 := Try.sizeOf39
  v36 := Try.zeroValue39
  t41 := Try.underlying44
  a41 := Try.isAgg44
  z41 := Try.sizeOf44
  v41 := Try.zeroValue44
  t44 := Try.underlying47
  a44 := Try.isAgg47
  z44 := Try.sizeOf47
  v44 := Try.zeroValue47
  t46 := Try.underlying49
  a46 := Try.isAgg49
  z46 := Try.sizeOf49
  v46 := Try.zeroValue49
  t53 := Try.underlying50
  a53 := Try.isAgg50
  z53 := Try.sizeOf50
  v53 := Try.zeroValue50
  t57 := Try.underlying54
  a57 := Try.isAgg54
  z57 := Try.sizeOf54
  v57 := Try.zeroValue54
  t63 := Try.underlying56
  a63 := Try.isAgg56
  z63 := Try.sizeOf56
  v63 := Try.zeroValue56
  t64 := Try.underlying57
  a64 := Try.isAgg57
  z64 := Try.sizeOf57
  v64 := Try.zeroValue57 }
open Go.Sort Go.RowKit in
theorem Try.slices_Sort_int (blk off cap : Nat) (zs : List Int) (w : World) (hH : Holds (Value.int .i64) w blk off zs.toArray) (hblk : blk < w.heap.size) (hsz : zs.length < 4611686018427387904) :
    Calls Try.prog 11 #[.slice (some ⟨blk, off, none⟩) zs.length cap] w fun e w' =>
      e = .returned (.tuple #[]) ∧ ∃ n os, w' = grow (putRow (Value.int .i64) (Sort.ahead w n) blk off (zs.mergeSort fun x y => decide (x ≤ y)).toArray) os := AnyM.slices_Sort_int Try.laysSlM5_f11 blk off cap zs w hH hblk hsz
end Go.Proofs
