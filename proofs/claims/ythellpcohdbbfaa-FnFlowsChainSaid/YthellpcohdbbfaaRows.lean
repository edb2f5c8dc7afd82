/-
  No cell of these rows narrows 'for every input' (looked for: loops, veiled, ifaces, maps, wideKeys, modest, calm, conditions, laid).
  DERIVED. THE GIVEN ROWS OF THIS SEAT. 12 by the template 'for every input the law returns true; each argument reads behind the call as it read before'; 0 by the template 'total and deterministic' (their statements: YthellpcohdbbfaaTotals.lean).
  GIVEN WITH THE SEED: the statements are not yours to turn. If you find one false, say at which input.
  Laid BY PROGRAM, IN A SANDBOX (cutbox-rows.mjs): the forced cells as the released guide's own fill.sh prints them over the translation b6af90d446d637f5… (all of the seat's roots in one cut). By AI agents, Wed Nov 11 2026. No macro, syntax, notation, axiom, sorry.
-/
import Derived.Test.YthellpcohdbbfaaChecked
import GoSem.Claim
import GoSem.ClaimJoined
import GoSem.ClaimMapViews
import Derived.JoinedTies
import Derived.KernelRfl
namespace Go.Proofs.Ythellpcohdbbfaa
/- THE CELL 'sum', in the pinned program and in every row, IS THE sha256 OF THE DUMP (.gsa) THAT YthellpcohdbbfaaProg.lean LOADS. Nothing in Lean hashes anything: it is a label: what it is worth is what the hold of that sum in a sandbox is worth. -/
noncomputable def Try.pinned : Pinned := { name := "ythellpcohdbbfaa", sum := "b6af90d446d637f55347c47f4c0b4eef5eaead6dfdf41b251d4c3605b94d29cd", checked := Try.checked }
namespace Rows
def none {H : Type} : Left H := { results := [], args := [] }

/-- 'laws.FnFlowsChain': WHATEVER THE INPUT: true; the input reads as it did. -/
def fnFlowsChainSpec : ChangeSpec := { name := "fnFlowsChain", fn := fun _ => fun
  | [d1, d2] => { results := [.lit (.bool true)], args := [d1, d2] }
  | _ => none }
def fnFlowsChainRow : OpenClaim := { program := "ythellpcohdbbfaa", sum := "b6af90d446d637f55347c47f4c0b4eef5eaead6dfdf41b251d4c3605b94d29cd", func := "loop.example/sepkernel/laws.FnFlowsChain", spec := "fnFlowsChain", unfollowed := true, recurses := true, apart := false }
def FnFlowsChainSaid : Prop := fnFlowsChainRow.holds Try.pinned (OpenSpec.ofChange fnFlowsChainSpec)

/-- ITS FALSE NEIGHBOUR: 'it returns false'. Refute it at one input. -/
def fnFlowsChainWrong : ChangeSpec := { name := "fnFlowsChain", fn := fun _ => fun
  | [d1, d2] => { results := [.lit (.bool false)], args := [d1, d2] }
  | _ => none }
def FnFlowsChainWrongFalsely : Prop := fnFlowsChainRow.holds Try.pinned (OpenSpec.ofChange fnFlowsChainWrong)

/-- 'laws.FnFlowsCredit': WHATEVER THE INPUT: true; the input reads as it did. -/
def fnFlowsCreditSpec : ChangeSpec := { name := "fnFlowsCredit", fn := fun _ => fun
  | [d] => { results := [.lit (.bool true)], args := [d] }
  | _ => none }
def fnFlowsCreditRow : OpenClaim := { program := "ythellpcohdbbfaa", sum := "b6af90d446d637f55347c47f4c0b4eef5eaead6dfdf41b251d4c3605b94d29cd", func := "loop.example/sepkernel/laws.FnFlowsCredit", spec := "fnFlowsCredit", unfollowed := true, recurses := true, apart := false }
def FnFlowsCreditSaid : Prop := fnFlowsCreditRow.holds Try.pinned (OpenSpec.ofChange fnFlowsCreditSpec)

/-- ITS FALSE NEIGHBOUR: 'it returns false'. Refute it at one input. -/
def fnFlowsCreditWrong : ChangeSpec := { name := "fnFlowsCredit", fn := fun _ => fun
  | [d] => { results := [.lit (.bool false)], args := [d] }
  | _ => none }
def FnFlowsCreditWrongFalsely : Prop := fnFlowsCreditRow.holds Try.pinned (OpenSpec.ofChange fnFlowsCreditWrong)

/-- 'laws.FnFlowDirect': WHATEVER THE INPUT: true; the input reads as it did. -/
def fnFlowDirectSpec : ChangeSpec := { name := "fnFlowDirect", fn := fun _ => fun
  | [d] => { results := [.lit (.bool true)], args := [d] }
  | _ => none }
def fnFlowDirectRow : OpenClaim := { program := "ythellpcohdbbfaa", sum := "b6af90d446d637f55347c47f4c0b4eef5eaead6dfdf41b251d4c3605b94d29cd", func := "loop.example/sepkernel/laws.FnFlowDirect", spec := "fnFlowDirect", unfollowed := true, recurses := true, apart := false }
def FnFlowDirectSaid : Prop := fnFlowDirectRow.holds Try.pinned (OpenSpec.ofChange fnFlowDirectSpec)

/-- ITS FALSE NEIGHBOUR: 'it returns false'. Refute it at one input. -/
def fnFlowDirectWrong : ChangeSpec := { name := "fnFlowDirect", fn := fun _ => fun
  | [d] => { results := [.lit (.bool false)], args := [d] }
  | _ => none }
def FnFlowDirectWrongFalsely : Prop := fnFlowDirectRow.holds Try.pinned (OpenSpec.ofChange fnFlowDirectWrong)

/-- 'laws.FnChannelsOf': WHATEVER THE INPUT: true; the input reads as it did. -/
def fnChannelsOfSpec : ChangeSpec := { name := "fnChannelsOf", fn := fun _ => fun
  | [d] => { results := [.lit (.bool true)], args := [d] }
  | _ => none }
def fnChannelsOfRow : OpenClaim := { program := "ythellpcohdbbfaa", sum := "b6af90d446d637f55347c47f4c0b4eef5eaead6dfdf41b251d4c3605b94d29cd", func := "loop.example/sepkernel/laws.FnChannelsOf", spec := "fnChannelsOf", unfollowed := true, recurses := true, apart := false }
def FnChannelsOfSaid : Prop := fnChannelsOfRow.holds Try.pinned (OpenSpec.ofChange fnChannelsOfSpec)

/-- ITS FALSE NEIGHBOUR: 'it returns false'. Refute it at one input. -/
def fnChannelsOfWrong : ChangeSpec := { name := "fnChannelsOf", fn := fun _ => fun
  | [d] => { results := [.lit (.bool false)], args := [d] }
  | _ => none }
def FnChannelsOfWrongFalsely : Prop := fnChannelsOfRow.holds Try.pinned (OpenSpec.ofChange fnChannelsOfWrong)

/-- 'laws.FnPadEnd': WHATEVER THE INPUT: true; the input reads as it did. -/
def fnPadEndSpec : ChangeSpec := { name := "fnPadEnd", fn := fun _ => fun
  | [d] => { results := [.lit (.bool true)], args := [d] }
  | _ => none }
def fnPadEndRow : OpenClaim := { program := "ythellpcohdbbfaa", sum := "b6af90d446d637f55347c47f4c0b4eef5eaead6dfdf41b251d4c3605b94d29cd", func := "loop.example/sepkernel/laws.FnPadEnd", spec := "fnPadEnd", unfollowed := true, recurses := true, apart := false }
def FnPadEndSaid : Prop := fnPadEndRow.holds Try.pinned (OpenSpec.ofChange fnPadEndSpec)

/-- ITS FALSE NEIGHBOUR: 'it returns false'. Refute it at one input. -/
def fnPadEndWrong : ChangeSpec := { name := "fnPadEnd", fn := fun _ => fun
  | [d] => { results := [.lit (.bool false)], args := [d] }
  | _ => none }
def FnPadEndWrongFalsely : Prop := fnPadEndRow.holds Try.pinned (OpenSpec.ofChange fnPadEndWrong)

/-- 'laws.FnPadStarts': WHATEVER THE INPUT: true; the input reads as it did. -/
def fnPadStartsSpec : ChangeSpec := { name := "fnPadStarts", fn := fun _ => fun
  | [d] => { results := [.lit (.bool true)], args := [d] }
  | _ => none }
def fnPadStartsRow : OpenClaim := { program := "ythellpcohdbbfaa", sum := "b6af90d446d637f55347c47f4c0b4eef5eaead6dfdf41b251d4c3605b94d29cd", func := "loop.example/sepkernel/laws.FnPadStarts", spec := "fnPadStarts", unfollowed := true, recurses := true, apart := false }
def FnPadStartsSaid : Prop := fnPadStartsRow.holds Try.pinned (OpenSpec.ofChange fnPadStartsSpec)

/-- ITS FALSE NEIGHBOUR: 'it returns false'. Refute it at one input. -/
def fnPadStartsWrong : ChangeSpec := { name := "fnPadStarts", fn := fun _ => fun
  | [d] => { results := [.lit (.bool false)], args := [d] }
  | _ => none }
def FnPadStartsWrongFalsely : Prop := fnPadStartsRow.holds Try.pinned (OpenSpec.ofChange fnPadStartsWrong)

/-- 'laws.FnPadRuns': WHATEVER THE INPUT: true; the input reads as it did. -/
def fnPadRunsSpec : ChangeSpec := { name := "fnPadRuns", fn := fun _ => fun
  | [d1, d2] => { results := [.lit (.bool true)], args := [d1, d2] }
  | _ => none }
def fnPadRunsRow : OpenClaim := { program := "ythellpcohdbbfaa", sum := "b6af90d446d637f55347c47f4c0b4eef5eaead6dfdf41b251d4c3605b94d29cd", func := "loop.example/sepkernel/laws.FnPadRuns", spec := "fnPadRuns", unfollowed := true, recurses := true, apart := false }
def FnPadRunsSaid : Prop := fnPadRunsRow.holds Try.pinned (OpenSpec.ofChange fnPadRunsSpec)

/-- ITS FALSE NEIGHBOUR: 'it returns false'. Refute it at one input. -/
def fnPadRunsWrong : ChangeSpec := { name := "fnPadRuns", fn := fun _ => fun
  | [d1, d2] => { results := [.lit (.bool false)], args := [d1, d2] }
  | _ => none }
def FnPadRunsWrongFalsely : Prop := fnPadRunsRow.holds Try.pinned (OpenSpec.ofChange fnPadRunsWrong)

/-- 'laws.FnPadWaste': WHATEVER THE INPUT: true; the input reads as it did. -/
def fnPadWasteSpec : ChangeSpec := { name := "fnPadWaste", fn := fun _ => fun
  | [d] => { results := [.lit (.bool true)], args := [d] }
  | _ => none }
def fnPadWasteRow : OpenClaim := { program := "ythellpcohdbbfaa", sum := "b6af90d446d637f55347c47f4c0b4eef5eaead6dfdf41b251d4c3605b94d29cd", func := "loop.example/sepkernel/laws.FnPadWaste", spec := "fnPadWaste", unfollowed := true, recurses := true, apart := false }
def FnPadWasteSaid : Prop := fnPadWasteRow.holds Try.pinned (OpenSpec.ofChange fnPadWasteSpec)

/-- ITS FALSE NEIGHBOUR: 'it returns false'. Refute it at one input. -/
def fnPadWasteWrong : ChangeSpec := { name := "fnPadWaste", fn := fun _ => fun
  | [d] => { results := [.lit (.bool false)], args := [d] }
  | _ => none }
def FnPadWasteWrongFalsely : Prop := fnPadWasteRow.holds Try.pinned (OpenSpec.ofChange fnPadWasteWrong)

/-- 'laws.FnChainJoin': WHATEVER THE INPUT: true; the input reads as it did. -/
def fnChainJoinSpec : ChangeSpec := { name := "fnChainJoin", fn := fun _ => fun
  | [d1, d2] => { results := [.lit (.bool true)], args := [d1, d2] }
  | _ => none }
def fnChainJoinRow : OpenClaim := { program := "ythellpcohdbbfaa", sum := "b6af90d446d637f55347c47f4c0b4eef5eaead6dfdf41b251d4c3605b94d29cd", func := "loop.example/sepkernel/laws.FnChainJoin", spec := "fnChainJoin", unfollowed := true, recurses := true, apart := false }
def FnChainJoinSaid : Prop := fnChainJoinRow.holds Try.pinned (OpenSpec.ofChange fnChainJoinSpec)

/-- ITS FALSE NEIGHBOUR: 'it returns false'. Refute it at one input. -/
def fnChainJoinWrong : ChangeSpec := { name := "fnChainJoin", fn := fun _ => fun
  | [d1, d2] => { results := [.lit (.bool false)], args := [d1, d2] }
  | _ => none }
def FnChainJoinWrongFalsely : Prop := fnChainJoinRow.holds Try.pinned (OpenSpec.ofChange fnChainJoinWrong)

/-- 'laws.FnChainSums': WHATEVER THE INPUT: true; the input reads as it did. -/
def fnChainSumsSpec : ChangeSpec := { name := "fnChainSums", fn := fun _ => fun
  | [d] => { results := [.lit (.bool true)], args := [d] }
  | _ => none }
def fnChainSumsRow : OpenClaim := { program := "ythellpcohdbbfaa", sum := "b6af90d446d637f55347c47f4c0b4eef5eaead6dfdf41b251d4c3605b94d29cd", func := "loop.example/sepkernel/laws.FnChainSums", spec := "fnChainSums", unfollowed := true, recurses := true, apart := false }
def FnChainSumsSaid : Prop := fnChainSumsRow.holds Try.pinned (OpenSpec.ofChange fnChainSumsSpec)

/-- ITS FALSE NEIGHBOUR: 'it returns false'. Refute it at one input. -/
def fnChainSumsWrong : ChangeSpec := { name := "fnChainSums", fn := fun _ => fun
  | [d] => { results := [.lit (.bool false)], args := [d] }
  | _ => none }
def FnChainSumsWrongFalsely : Prop := fnChainSumsRow.holds Try.pinned (OpenSpec.ofChange fnChainSumsWrong)

/-- 'laws.FnLinkValid': WHATEVER THE INPUT: true; the input reads as it did. -/
def fnLinkValidSpec : ChangeSpec := { name := "fnLinkValid", fn := fun _ => fun
  | [d] => { results := [.lit (.bool true)], args := [d] }
  | _ => none }
def fnLinkValidRow : OpenClaim := { program := "ythellpcohdbbfaa", sum := "b6af90d446d637f55347c47f4c0b4eef5eaead6dfdf41b251d4c3605b94d29cd", func := "loop.example/sepkernel/laws.FnLinkValid", spec := "fnLinkValid", unfollowed := true, recurses := true, apart := false }
def FnLinkValidSaid : Prop := fnLinkValidRow.holds Try.pinned (OpenSpec.ofChange fnLinkValidSpec)

/-- ITS FALSE NEIGHBOUR: 'it returns false'. Refute it at one input. -/
def fnLinkValidWrong : ChangeSpec := { name := "fnLinkValid", fn := fun _ => fun
  | [d] => { results := [.lit (.bool false)], args := [d] }
  | _ => none }
def FnLinkValidWrongFalsely : Prop := fnLinkValidRow.holds Try.pinned (OpenSpec.ofChange fnLinkValidWrong)

/-- 'laws.FnLinkNext': WHATEVER THE INPUT: true; the input reads as it did. -/
def fnLinkNextSpec : ChangeSpec := { name := "fnLinkNext", fn := fun _ => fun
  | [d] => { results := [.lit (.bool true)], args := [d] }
  | _ => none }
def fnLinkNextRow : OpenClaim := { program := "ythellpcohdbbfaa", sum := "b6af90d446d637f55347c47f4c0b4eef5eaead6dfdf41b251d4c3605b94d29cd", func := "loop.example/sepkernel/laws.FnLinkNext", spec := "fnLinkNext", unfollowed := true, recurses := true, apart := false }
def FnLinkNextSaid : Prop := fnLinkNextRow.holds Try.pinned (OpenSpec.ofChange fnLinkNextSpec)

/-- ITS FALSE NEIGHBOUR: 'it returns false'. Refute it at one input. -/
def fnLinkNextWrong : ChangeSpec := { name := "fnLinkNext", fn := fun _ => fun
  | [d] => { results := [.lit (.bool false)], args := [d] }
  | _ => none }
def FnLinkNextWrongFalsely : Prop := fnLinkNextRow.holds Try.pinned (OpenSpec.ofChange fnLinkNextWrong)

/- THE SECOND FORM. 'bulk': how many values and letters a reading holds, each counted each time it is reached (what is shared counts as often as it is met; a slice's spare places count too). A statement '..UptoSaid' is the law's where the arguments, and the package variables that the reading takes, are together of bulk at most 1048576: NARROWER than '..Said'. Prove '..Said' where nothing that the law and all that it calls make is longer than what came in: it says more and counts as full. Else prove '..UptoSaid'. A law counts once. -/
mutual
def uptoBulk {H : Type} : DataW H → Nat
  | .lit (.string bytes) => bytes.length + 1
  | .lit _ => 1
  | .nil => 1
  | .ptr d => uptoBulk d + 1
  | .slice elems spare => uptoBulkAll elems + uptoBulkAll spare + 1
  | .agg parts => uptoBulkAll parts + 1
  | .iface _ d => uptoBulk d + 1
  | .map entries => uptoBulkEntries entries + 1
  | .held _ => 1
def uptoBulkAll {H : Type} : List (DataW H) → Nat
  | [] => 0
  | d :: r => uptoBulk d + uptoBulkAll r
def uptoBulkEntries {H : Type} : List (Lit × DataW H) → Nat
  | [] => 0
  | x :: r => uptoBulkEntry x + uptoBulkEntries r
def uptoBulkEntry {H : Type} : Lit × DataW H → Nat
  | (.string bytes, d) => bytes.length + uptoBulk d + 1
  | (_, d) => uptoBulk d + 1
 end
def uptoSmall : (H : Type) → List (DataW H) → Bool := fun _ ds => decide (uptoBulkAll ds ≤ 1048576)
def OpenSpec.upto (s : _root_.Go.ChangeSpec) : _root_.Go.OpenSpec := { _root_.Go.OpenSpec.ofChange s with cond := some uptoSmall }

/-- 'laws.FnFlowsChain', WHERE WHAT IT READS IS OF BULK AT MOST 1048576: true; the input reads as it did. -/
def fnFlowsChainUptoRow : OpenClaim := { program := "ythellpcohdbbfaa", sum := "b6af90d446d637f55347c47f4c0b4eef5eaead6dfdf41b251d4c3605b94d29cd", func := "loop.example/sepkernel/laws.FnFlowsChain", spec := "fnFlowsChain", unfollowed := true, recurses := true, apart := false, narrowed := true }
def FnFlowsChainUptoSaid : Prop := fnFlowsChainUptoRow.holds Try.pinned (OpenSpec.upto fnFlowsChainSpec)

/-- 'laws.FnFlowsCredit', WHERE WHAT IT READS IS OF BULK AT MOST 1048576: true; the input reads as it did. -/
def fnFlowsCreditUptoRow : OpenClaim := { program := "ythellpcohdbbfaa", sum := "b6af90d446d637f55347c47f4c0b4eef5eaead6dfdf41b251d4c3605b94d29cd", func := "loop.example/sepkernel/laws.FnFlowsCredit", spec := "fnFlowsCredit", unfollowed := true, recurses := true, apart := false, narrowed := true }
def FnFlowsCreditUptoSaid : Prop := fnFlowsCreditUptoRow.holds Try.pinned (OpenSpec.upto fnFlowsCreditSpec)

/-- 'laws.FnFlowDirect', WHERE WHAT IT READS IS OF BULK AT MOST 1048576: true; the input reads as it did. -/
def fnFlowDirectUptoRow : OpenClaim := { program := "ythellpcohdbbfaa", sum := "b6af90d446d637f55347c47f4c0b4eef5eaead6dfdf41b251d4c3605b94d29cd", func := "loop.example/sepkernel/laws.FnFlowDirect", spec := "fnFlowDirect", unfollowed := true, recurses := true, apart := false, narrowed := true }
def FnFlowDirectUptoSaid : Prop := fnFlowDirectUptoRow.holds Try.pinned (OpenSpec.upto fnFlowDirectSpec)

/-- 'laws.FnChannelsOf', WHERE WHAT IT READS IS OF BULK AT MOST 1048576: true; the input reads as it did. -/
def fnChannelsOfUptoRow : OpenClaim := { program := "ythellpcohdbbfaa", sum := "b6af90d446d637f55347c47f4c0b4eef5eaead6dfdf41b251d4c3605b94d29cd", func := "loop.example/sepkernel/laws.FnChannelsOf", spec := "fnChannelsOf", unfollowed := true, recurses := true, apart := false, narrowed := true }
def FnChannelsOfUptoSaid : Prop := fnChannelsOfUptoRow.holds Try.pinned (OpenSpec.upto fnChannelsOfSpec)

/-- 'laws.FnPadEnd', WHERE WHAT IT READS IS OF BULK AT MOST 1048576: true; the input reads as it did. -/
def fnPadEndUptoRow : OpenClaim := { program := "ythellpcohdbbfaa", sum := "b6af90d446d637f55347c47f4c0b4eef5eaead6dfdf41b251d4c3605b94d29cd", func := "loop.example/sepkernel/laws.FnPadEnd", spec := "fnPadEnd", unfollowed := true, recurses := true, apart := false, narrowed := true }
def FnPadEndUptoSaid : Prop := fnPadEndUptoRow.holds Try.pinned (OpenSpec.upto fnPadEndSpec)

/-- 'laws.FnPadStarts', WHERE WHAT IT READS IS OF BULK AT MOST 1048576: true; the input reads as it did. -/
def fnPadStartsUptoRow : OpenClaim := { program := "ythellpcohdbbfaa", sum := "b6af90d446d637f55347c47f4c0b4eef5eaead6dfdf41b251d4c3605b94d29cd", func := "loop.example/sepkernel/laws.FnPadStarts", spec := "fnPadStarts", unfollowed := true, recurses := true, apart := false, narrowed := true }
def FnPadStartsUptoSaid : Prop := fnPadStartsUptoRow.holds Try.pinned (OpenSpec.upto fnPadStartsSpec)

/-- 'laws.FnPadRuns', WHERE WHAT IT READS IS OF BULK AT MOST 1048576: true; the input reads as it did. -/
def fnPadRunsUptoRow : OpenClaim := { program := "ythellpcohdbbfaa", sum := "b6af90d446d637f55347c47f4c0b4eef5eaead6dfdf41b251d4c3605b94d29cd", func := "loop.example/sepkernel/laws.FnPadRuns", spec := "fnPadRuns", unfollowed := true, recurses := true, apart := false, narrowed := true }
def FnPadRunsUptoSaid : Prop := fnPadRunsUptoRow.holds Try.pinned (OpenSpec.upto fnPadRunsSpec)

/-- 'laws.FnPadWaste', WHERE WHAT IT READS IS OF BULK AT MOST 1048576: true; the input reads as it did. -/
def fnPadWasteUptoRow : OpenClaim := { program := "ythellpcohdbbfaa", sum := "b6af90d446d637f55347c47f4c0b4eef5eaead6dfdf41b251d4c3605b94d29cd", func := "loop.example/sepkernel/laws.FnPadWaste", spec := "fnPadWaste", unfollowed := true, recurses := true, apart := false, narrowed := true }
def FnPadWasteUptoSaid : Prop := fnPadWasteUptoRow.holds Try.pinned (OpenSpec.upto fnPadWasteSpec)

/-- 'laws.FnChainJoin', WHERE WHAT IT READS IS OF BULK AT MOST 1048576: true; the input reads as it did. -/
def fnChainJoinUptoRow : OpenClaim := { program := "ythellpcohdbbfaa", sum := "b6af90d446d637f55347c47f4c0b4eef5eaead6dfdf41b251d4c3605b94d29cd", func := "loop.example/sepkernel/laws.FnChainJoin", spec := "fnChainJoin", unfollowed := true, recurses := true, apart := false, narrowed := true }
def FnChainJoinUptoSaid : Prop := fnChainJoinUptoRow.holds Try.pinned (OpenSpec.upto fnChainJoinSpec)

/-- 'laws.FnChainSums', WHERE WHAT IT READS IS OF BULK AT MOST 1048576: true; the input reads as it did. -/
def fnChainSumsUptoRow : OpenClaim := { program := "ythellpcohdbbfaa", sum := "b6af90d446d637f55347c47f4c0b4eef5eaead6dfdf41b251d4c3605b94d29cd", func := "loop.example/sepkernel/laws.FnChainSums", spec := "fnChainSums", unfollowed := true, recurses := true, apart := false, narrowed := true }
def FnChainSumsUptoSaid : Prop := fnChainSumsUptoRow.holds Try.pinned (OpenSpec.upto fnChainSumsSpec)

/-- 'laws.FnLinkValid', WHERE WHAT IT READS IS OF BULK AT MOST 1048576: true; the input reads as it did. -/
def fnLinkValidUptoRow : OpenClaim := { program := "ythellpcohdbbfaa", sum := "b6af90d446d637f55347c47f4c0b4eef5eaead6dfdf41b251d4c3605b94d29cd", func := "loop.example/sepkernel/laws.FnLinkValid", spec := "fnLinkValid", unfollowed := true, recurses := true, apart := false, narrowed := true }
def FnLinkValidUptoSaid : Prop := fnLinkValidUptoRow.holds Try.pinned (OpenSpec.upto fnLinkValidSpec)

/-- 'laws.FnLinkNext', WHERE WHAT IT READS IS OF BULK AT MOST 1048576: true; the input reads as it did. -/
def fnLinkNextUptoRow : OpenClaim := { program := "ythellpcohdbbfaa", sum := "b6af90d446d637f55347c47f4c0b4eef5eaead6dfdf41b251d4c3605b94d29cd", func := "loop.example/sepkernel/laws.FnLinkNext", spec := "fnLinkNext", unfollowed := true, recurses := true, apart := false, narrowed := true }
def FnLinkNextUptoSaid : Prop := fnLinkNextUptoRow.holds Try.pinned (OpenSpec.upto fnLinkNextSpec)

end Rows
end Go.Proofs.Ythellpcohdbbfaa
