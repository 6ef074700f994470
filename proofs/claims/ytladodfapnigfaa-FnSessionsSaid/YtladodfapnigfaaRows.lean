/-
  No cell of these rows narrows 'for every input' (looked for: loops, veiled, ifaces, maps, wideKeys, modest, calm, conditions, laid).
  DERIVED. THE GIVEN ROWS OF THIS SEAT. 6 by the template 'for every input the law returns true; each argument reads behind the call as it read before'; 0 by the template 'total and deterministic' (their statements: YtladodfapnigfaaTotals.lean).
  GIVEN WITH THE SEED: the statements are not yours to turn. If you find one false, say at which input.
  Laid BY PROGRAM, IN A SANDBOX (cutbox-rows.mjs): the forced cells as the released guide's own fill.sh prints them over the translation 6923a9508b9160c6… (all of the seat's roots in one cut). By AI agents, Wed Nov 11 2026. No macro, syntax, notation, axiom, sorry.
-/
import Derived.Test.YtladodfapnigfaaChecked
import GoSem.Claim
import GoSem.ClaimJoined
import GoSem.ClaimMapViews
import Derived.JoinedTies
import Derived.KernelRfl
namespace Go.Proofs.Ytladodfapnigfaa
/- THE CELL 'sum', in the pinned program and in every row, IS THE sha256 OF THE DUMP (.gsa) THAT YtladodfapnigfaaProg.lean LOADS. Nothing in Lean hashes anything: it is a label: what it is worth is what the hold of that sum in a sandbox is worth. -/
noncomputable def Try.pinned : Pinned := { name := "ytladodfapnigfaa", sum := "6923a9508b9160c64affda47e6001e6fd8e254e4ea952448c60270861f463c7a", checked := Try.checked }
namespace Rows
def none {H : Type} : Left H := { results := [], args := [] }

/-- 'laws.FnExactDecodeItem': WHATEVER THE INPUT: true; the input reads as it did. -/
def fnExactDecodeItemSpec : ChangeSpec := { name := "fnExactDecodeItem", fn := fun _ => fun
  | [d] => { results := [.lit (.bool true)], args := [d] }
  | _ => none }
def fnExactDecodeItemRow : OpenClaim := { program := "ytladodfapnigfaa", sum := "6923a9508b9160c64affda47e6001e6fd8e254e4ea952448c60270861f463c7a", func := "loop.example/s01723/laws.FnExactDecodeItem", spec := "fnExactDecodeItem", apart := false }
def FnExactDecodeItemSaid : Prop := fnExactDecodeItemRow.holds Try.pinned (OpenSpec.ofChange fnExactDecodeItemSpec)

/-- ITS FALSE NEIGHBOUR: 'it returns false'. Refute it at one input. -/
def fnExactDecodeItemWrong : ChangeSpec := { name := "fnExactDecodeItem", fn := fun _ => fun
  | [d] => { results := [.lit (.bool false)], args := [d] }
  | _ => none }
def FnExactDecodeItemWrongFalsely : Prop := fnExactDecodeItemRow.holds Try.pinned (OpenSpec.ofChange fnExactDecodeItemWrong)

/-- 'laws.FnExactEncodeItem': WHATEVER THE INPUT: true; the input reads as it did. -/
def fnExactEncodeItemSpec : ChangeSpec := { name := "fnExactEncodeItem", fn := fun _ => fun
  | [d] => { results := [.lit (.bool true)], args := [d] }
  | _ => none }
def fnExactEncodeItemRow : OpenClaim := { program := "ytladodfapnigfaa", sum := "6923a9508b9160c64affda47e6001e6fd8e254e4ea952448c60270861f463c7a", func := "loop.example/s01723/laws.FnExactEncodeItem", spec := "fnExactEncodeItem", apart := false }
def FnExactEncodeItemSaid : Prop := fnExactEncodeItemRow.holds Try.pinned (OpenSpec.ofChange fnExactEncodeItemSpec)

/-- ITS FALSE NEIGHBOUR: 'it returns false'. Refute it at one input. -/
def fnExactEncodeItemWrong : ChangeSpec := { name := "fnExactEncodeItem", fn := fun _ => fun
  | [d] => { results := [.lit (.bool false)], args := [d] }
  | _ => none }
def FnExactEncodeItemWrongFalsely : Prop := fnExactEncodeItemRow.holds Try.pinned (OpenSpec.ofChange fnExactEncodeItemWrong)

/-- 'laws.FnExactEncodeState': WHATEVER THE INPUT: true; the input reads as it did. -/
def fnExactEncodeStateSpec : ChangeSpec := { name := "fnExactEncodeState", fn := fun _ => fun
  | [d] => { results := [.lit (.bool true)], args := [d] }
  | _ => none }
def fnExactEncodeStateRow : OpenClaim := { program := "ytladodfapnigfaa", sum := "6923a9508b9160c64affda47e6001e6fd8e254e4ea952448c60270861f463c7a", func := "loop.example/s01723/laws.FnExactEncodeState", spec := "fnExactEncodeState", unfollowed := true, recurses := true, apart := false }
def FnExactEncodeStateSaid : Prop := fnExactEncodeStateRow.holds Try.pinned (OpenSpec.ofChange fnExactEncodeStateSpec)

/-- ITS FALSE NEIGHBOUR: 'it returns false'. Refute it at one input. -/
def fnExactEncodeStateWrong : ChangeSpec := { name := "fnExactEncodeState", fn := fun _ => fun
  | [d] => { results := [.lit (.bool false)], args := [d] }
  | _ => none }
def FnExactEncodeStateWrongFalsely : Prop := fnExactEncodeStateRow.holds Try.pinned (OpenSpec.ofChange fnExactEncodeStateWrong)

/-- 'laws.FnExactDecodeState': WHATEVER THE INPUT: true; the input reads as it did. -/
def fnExactDecodeStateSpec : ChangeSpec := { name := "fnExactDecodeState", fn := fun _ => fun
  | [d] => { results := [.lit (.bool true)], args := [d] }
  | _ => none }
def fnExactDecodeStateRow : OpenClaim := { program := "ytladodfapnigfaa", sum := "6923a9508b9160c64affda47e6001e6fd8e254e4ea952448c60270861f463c7a", func := "loop.example/s01723/laws.FnExactDecodeState", spec := "fnExactDecodeState", unfollowed := true, recurses := true, apart := false }
def FnExactDecodeStateSaid : Prop := fnExactDecodeStateRow.holds Try.pinned (OpenSpec.ofChange fnExactDecodeStateSpec)

/-- ITS FALSE NEIGHBOUR: 'it returns false'. Refute it at one input. -/
def fnExactDecodeStateWrong : ChangeSpec := { name := "fnExactDecodeState", fn := fun _ => fun
  | [d] => { results := [.lit (.bool false)], args := [d] }
  | _ => none }
def FnExactDecodeStateWrongFalsely : Prop := fnExactDecodeStateRow.holds Try.pinned (OpenSpec.ofChange fnExactDecodeStateWrong)

/-- 'laws.FnSessions': WHATEVER THE INPUT: true; the input reads as it did. -/
def fnSessionsSpec : ChangeSpec := { name := "fnSessions", fn := fun _ => fun
  | [d] => { results := [.lit (.bool true)], args := [d] }
  | _ => none }
def fnSessionsRow : OpenClaim := { program := "ytladodfapnigfaa", sum := "6923a9508b9160c64affda47e6001e6fd8e254e4ea952448c60270861f463c7a", func := "loop.example/s01723/laws.FnSessions", spec := "fnSessions", inPlace := ["slices.overlaps[loop.example/s01723/impl.Session]"], unfollowed := true, recurses := true, apart := false }
def FnSessionsSaid : Prop := fnSessionsRow.holds Try.pinned (OpenSpec.ofChange fnSessionsSpec)

/-- ITS FALSE NEIGHBOUR: 'it returns false'. Refute it at one input. -/
def fnSessionsWrong : ChangeSpec := { name := "fnSessions", fn := fun _ => fun
  | [d] => { results := [.lit (.bool false)], args := [d] }
  | _ => none }
def FnSessionsWrongFalsely : Prop := fnSessionsRow.holds Try.pinned (OpenSpec.ofChange fnSessionsWrong)

/-- 'laws.FnExactApply': WHATEVER THE INPUT: true; the input reads as it did. -/
def fnExactApplySpec : ChangeSpec := { name := "fnExactApply", fn := fun _ => fun
  | [d1, d2] => { results := [.lit (.bool true)], args := [d1, d2] }
  | _ => none }
def fnExactApplyRow : OpenClaim := { program := "ytladodfapnigfaa", sum := "6923a9508b9160c64affda47e6001e6fd8e254e4ea952448c60270861f463c7a", func := "loop.example/s01723/laws.FnExactApply", spec := "fnExactApply", inPlace := ["slices.overlaps[loop.example/s01723/impl.Session]"], unfollowed := true, recurses := true, apart := false }
def FnExactApplySaid : Prop := fnExactApplyRow.holds Try.pinned (OpenSpec.ofChange fnExactApplySpec)

/-- ITS FALSE NEIGHBOUR: 'it returns false'. Refute it at one input. -/
def fnExactApplyWrong : ChangeSpec := { name := "fnExactApply", fn := fun _ => fun
  | [d1, d2] => { results := [.lit (.bool false)], args := [d1, d2] }
  | _ => none }
def FnExactApplyWrongFalsely : Prop := fnExactApplyRow.holds Try.pinned (OpenSpec.ofChange fnExactApplyWrong)

/- THE SECOND FORM. 'bulk': how many values and letters a reading holds, each counted each time it is reached (what is shared counts as often as it is met; a slice's spare places count too). A statement '..UptoSaid' is the law's where the arguments, and the package variables that the reading takes, are together of bulk at most 1048576: NARROWER than '..Said'. Prove '..Said' where nothing that the law and all that it calls make is longer than what came in: it says more and counts as full. Else prove '..UptoSaid'. A law counts once. -/
mutual
def uptoBulk {H : Type} : DataW H → Nat
  | .lit (.string bytes) => bytes.length + 1
  | .lit _ => 1
  | .nil => 1
  | .ptr d => uptoBulk d + 1
  | .slice elems spare => uptoBulkAll elems + uptoBulkAll spare + 1
  | .agg parts => uptoBulkAll parts + 1
  | .iface _ d => uptoBulk d + 1
  | .map entries => uptoBulkEntries entries + 1
  | .held _ => 1
def uptoBulkAll {H : Type} : List (DataW H) → Nat
  | [] => 0
  | d :: r => uptoBulk d + uptoBulkAll r
def uptoBulkEntries {H : Type} : List (Lit × DataW H) → Nat
  | [] => 0
  | x :: r => uptoBulkEntry x + uptoBulkEntries r
def uptoBulkEntry {H : Type} : Lit × DataW H → Nat
  | (.string bytes, d) => bytes.length + uptoBulk d + 1
  | (_, d) => uptoBulk d + 1
 end
def uptoSmall : (H : Type) → List (DataW H) → Bool := fun _ ds => decide (uptoBulkAll ds ≤ 1048576)
def OpenSpec.upto (s : _root_.Go.ChangeSpec) : _root_.Go.OpenSpec := { _root_.Go.OpenSpec.ofChange s with cond := some uptoSmall }

/-- 'laws.FnExactDecodeItem', WHERE WHAT IT READS IS OF BULK AT MOST 1048576: true; the input reads as it did. -/
def fnExactDecodeItemUptoRow : OpenClaim := { program := "ytladodfapnigfaa", sum := "6923a9508b9160c64affda47e6001e6fd8e254e4ea952448c60270861f463c7a", func := "loop.example/s01723/laws.FnExactDecodeItem", spec := "fnExactDecodeItem", apart := false, narrowed := true }
def FnExactDecodeItemUptoSaid : Prop := fnExactDecodeItemUptoRow.holds Try.pinned (OpenSpec.upto fnExactDecodeItemSpec)

/-- 'laws.FnExactEncodeItem', WHERE WHAT IT READS IS OF BULK AT MOST 1048576: true; the input reads as it did. -/
def fnExactEncodeItemUptoRow : OpenClaim := { program := "ytladodfapnigfaa", sum := "6923a9508b9160c64affda47e6001e6fd8e254e4ea952448c60270861f463c7a", func := "loop.example/s01723/laws.FnExactEncodeItem", spec := "fnExactEncodeItem", apart := false, narrowed := true }
def FnExactEncodeItemUptoSaid : Prop := fnExactEncodeItemUptoRow.holds Try.pinned (OpenSpec.upto fnExactEncodeItemSpec)

/-- 'laws.FnExactEncodeState', WHERE WHAT IT READS IS OF BULK AT MOST 1048576: true; the input reads as it did. -/
def fnExactEncodeStateUptoRow : OpenClaim := { program := "ytladodfapnigfaa", sum := "6923a9508b9160c64affda47e6001e6fd8e254e4ea952448c60270861f463c7a", func := "loop.example/s01723/laws.FnExactEncodeState", spec := "fnExactEncodeState", unfollowed := true, recurses := true, apart := false, narrowed := true }
def FnExactEncodeStateUptoSaid : Prop := fnExactEncodeStateUptoRow.holds Try.pinned (OpenSpec.upto fnExactEncodeStateSpec)

/-- 'laws.FnExactDecodeState', WHERE WHAT IT READS IS OF BULK AT MOST 1048576: true; the input reads as it did. -/
def fnExactDecodeStateUptoRow : OpenClaim := { program := "ytladodfapnigfaa", sum := "6923a9508b9160c64affda47e6001e6fd8e254e4ea952448c60270861f463c7a", func := "loop.example/s01723/laws.FnExactDecodeState", spec := "fnExactDecodeState", unfollowed := true, recurses := true, apart := false, narrowed := true }
def FnExactDecodeStateUptoSaid : Prop := fnExactDecodeStateUptoRow.holds Try.pinned (OpenSpec.upto fnExactDecodeStateSpec)

/-- 'laws.FnSessions', WHERE WHAT IT READS IS OF BULK AT MOST 1048576: true; the input reads as it did. -/
def fnSessionsUptoRow : OpenClaim := { program := "ytladodfapnigfaa", sum := "6923a9508b9160c64affda47e6001e6fd8e254e4ea952448c60270861f463c7a", func := "loop.example/s01723/laws.FnSessions", spec := "fnSessions", inPlace := ["slices.overlaps[loop.example/s01723/impl.Session]"], unfollowed := true, recurses := true, apart := false, narrowed := true }
def FnSessionsUptoSaid : Prop := fnSessionsUptoRow.holds Try.pinned (OpenSpec.upto fnSessionsSpec)

/-- 'laws.FnExactApply', WHERE WHAT IT READS IS OF BULK AT MOST 1048576: true; the input reads as it did. -/
def fnExactApplyUptoRow : OpenClaim := { program := "ytladodfapnigfaa", sum := "6923a9508b9160c64affda47e6001e6fd8e254e4ea952448c60270861f463c7a", func := "loop.example/s01723/laws.FnExactApply", spec := "fnExactApply", inPlace := ["slices.overlaps[loop.example/s01723/impl.Session]"], unfollowed := true, recurses := true, apart := false, narrowed := true }
def FnExactApplyUptoSaid : Prop := fnExactApplyUptoRow.holds Try.pinned (OpenSpec.upto fnExactApplySpec)

end Rows
end Go.Proofs.Ytladodfapnigfaa
