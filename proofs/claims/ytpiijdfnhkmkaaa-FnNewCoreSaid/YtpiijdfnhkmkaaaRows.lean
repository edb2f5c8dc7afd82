/-
  No cell of these rows narrows 'for every input' (looked for: loops, veiled, ifaces, maps, wideKeys, modest, calm, conditions, laid).
  DERIVED. THE GIVEN ROWS OF THIS SEAT. 12 by the template 'for every input the law returns true; each argument reads behind the call as it read before'; 0 by the template 'total and deterministic' (their statements: YtpiijdfnhkmkaaaTotals.lean).
  GIVEN WITH THE SEED: the statements are not yours to turn. If you find one false, say at which input.
  Laid BY PROGRAM, IN A SANDBOX (cutbox-rows.mjs): the forced cells as the released guide's own fill.sh prints them over the translation 36d3543f161ca112… (all of the seat's roots in one cut). By AI agents, Wed Nov 11 2026. No macro, syntax, notation, axiom, sorry.
-/
import Derived.Test.YtpiijdfnhkmkaaaChecked
import GoSem.Claim
import GoSem.ClaimJoined
import GoSem.ClaimMapViews
import Derived.JoinedTies
import Derived.KernelRfl
namespace Go.Proofs.Ytpiijdfnhkmkaaa
/- THE CELL 'sum', in the pinned program and in every row, IS THE sha256 OF THE DUMP (.gsa) THAT YtpiijdfnhkmkaaaProg.lean LOADS. Nothing in Lean hashes anything: it is a label: what it is worth is what the hold of that sum in a sandbox is worth. -/
noncomputable def Try.pinned : Pinned := { name := "ytpiijdfnhkmkaaa", sum := "36d3543f161ca112394e3fa2eaab9848fb4a7da8b35d20a38651d0ea04f0ada5", checked := Try.checked }
namespace Rows
def none {H : Type} : Left H := { results := [], args := [] }

/-- 'laws.FnOrderPair': WHATEVER THE INPUT: true; the input reads as it did. -/
def fnOrderPairSpec : ChangeSpec := { name := "fnOrderPair", fn := fun _ => fun
  | [d1, d2] => { results := [.lit (.bool true)], args := [d1, d2] }
  | _ => none }
def fnOrderPairRow : OpenClaim := { program := "ytpiijdfnhkmkaaa", sum := "36d3543f161ca112394e3fa2eaab9848fb4a7da8b35d20a38651d0ea04f0ada5", func := "loop.example/sepkernel/laws.FnOrderPair", spec := "fnOrderPair", unfollowed := true, recurses := true, apart := false }
def FnOrderPairSaid : Prop := fnOrderPairRow.holds Try.pinned (OpenSpec.ofChange fnOrderPairSpec)

/-- ITS FALSE NEIGHBOUR: 'it returns false'. Refute it at one input. -/
def fnOrderPairWrong : ChangeSpec := { name := "fnOrderPair", fn := fun _ => fun
  | [d1, d2] => { results := [.lit (.bool false)], args := [d1, d2] }
  | _ => none }
def FnOrderPairWrongFalsely : Prop := fnOrderPairRow.holds Try.pinned (OpenSpec.ofChange fnOrderPairWrong)

/-- 'laws.FnOrderFrom': WHATEVER THE INPUT: true; the input reads as it did. -/
def fnOrderFromSpec : ChangeSpec := { name := "fnOrderFrom", fn := fun _ => fun
  | [d] => { results := [.lit (.bool true)], args := [d] }
  | _ => none }
def fnOrderFromRow : OpenClaim := { program := "ytpiijdfnhkmkaaa", sum := "36d3543f161ca112394e3fa2eaab9848fb4a7da8b35d20a38651d0ea04f0ada5", func := "loop.example/sepkernel/laws.FnOrderFrom", spec := "fnOrderFrom", unfollowed := true, recurses := true, apart := false }
def FnOrderFromSaid : Prop := fnOrderFromRow.holds Try.pinned (OpenSpec.ofChange fnOrderFromSpec)

/-- ITS FALSE NEIGHBOUR: 'it returns false'. Refute it at one input. -/
def fnOrderFromWrong : ChangeSpec := { name := "fnOrderFrom", fn := fun _ => fun
  | [d] => { results := [.lit (.bool false)], args := [d] }
  | _ => none }
def FnOrderFromWrongFalsely : Prop := fnOrderFromRow.holds Try.pinned (OpenSpec.ofChange fnOrderFromWrong)

/-- 'laws.FnOrderNumber': WHATEVER THE INPUT: true; the input reads as it did. -/
def fnOrderNumberSpec : ChangeSpec := { name := "fnOrderNumber", fn := fun _ => fun
  | [d] => { results := [.lit (.bool true)], args := [d] }
  | _ => none }
def fnOrderNumberRow : OpenClaim := { program := "ytpiijdfnhkmkaaa", sum := "36d3543f161ca112394e3fa2eaab9848fb4a7da8b35d20a38651d0ea04f0ada5", func := "loop.example/sepkernel/laws.FnOrderNumber", spec := "fnOrderNumber", unfollowed := true, recurses := true, apart := false }
def FnOrderNumberSaid : Prop := fnOrderNumberRow.holds Try.pinned (OpenSpec.ofChange fnOrderNumberSpec)

/-- ITS FALSE NEIGHBOUR: 'it returns false'. Refute it at one input. -/
def fnOrderNumberWrong : ChangeSpec := { name := "fnOrderNumber", fn := fun _ => fun
  | [d] => { results := [.lit (.bool false)], args := [d] }
  | _ => none }
def FnOrderNumberWrongFalsely : Prop := fnOrderNumberRow.holds Try.pinned (OpenSpec.ofChange fnOrderNumberWrong)

/-- 'laws.FnLinesValid': WHATEVER THE INPUT: true; the input reads as it did. -/
def fnLinesValidSpec : ChangeSpec := { name := "fnLinesValid", fn := fun _ => fun
  | [d] => { results := [.lit (.bool true)], args := [d] }
  | _ => none }
def fnLinesValidRow : OpenClaim := { program := "ytpiijdfnhkmkaaa", sum := "36d3543f161ca112394e3fa2eaab9848fb4a7da8b35d20a38651d0ea04f0ada5", func := "loop.example/sepkernel/laws.FnLinesValid", spec := "fnLinesValid", unfollowed := true, recurses := true, apart := false }
def FnLinesValidSaid : Prop := fnLinesValidRow.holds Try.pinned (OpenSpec.ofChange fnLinesValidSpec)

/-- ITS FALSE NEIGHBOUR: 'it returns false'. Refute it at one input. -/
def fnLinesValidWrong : ChangeSpec := { name := "fnLinesValid", fn := fun _ => fun
  | [d] => { results := [.lit (.bool false)], args := [d] }
  | _ => none }
def FnLinesValidWrongFalsely : Prop := fnLinesValidRow.holds Try.pinned (OpenSpec.ofChange fnLinesValidWrong)

/-- 'laws.FnHealthValid': WHATEVER THE INPUT: true; the input reads as it did. -/
def fnHealthValidSpec : ChangeSpec := { name := "fnHealthValid", fn := fun _ => fun
  | [d] => { results := [.lit (.bool true)], args := [d] }
  | _ => none }
def fnHealthValidRow : OpenClaim := { program := "ytpiijdfnhkmkaaa", sum := "36d3543f161ca112394e3fa2eaab9848fb4a7da8b35d20a38651d0ea04f0ada5", func := "loop.example/sepkernel/laws.FnHealthValid", spec := "fnHealthValid", unfollowed := true, recurses := true, apart := false }
def FnHealthValidSaid : Prop := fnHealthValidRow.holds Try.pinned (OpenSpec.ofChange fnHealthValidSpec)

/-- ITS FALSE NEIGHBOUR: 'it returns false'. Refute it at one input. -/
def fnHealthValidWrong : ChangeSpec := { name := "fnHealthValid", fn := fun _ => fun
  | [d] => { results := [.lit (.bool false)], args := [d] }
  | _ => none }
def FnHealthValidWrongFalsely : Prop := fnHealthValidRow.holds Try.pinned (OpenSpec.ofChange fnHealthValidWrong)

/-- 'laws.FnTransferValid': WHATEVER THE INPUT: true; the input reads as it did. -/
def fnTransferValidSpec : ChangeSpec := { name := "fnTransferValid", fn := fun _ => fun
  | [d] => { results := [.lit (.bool true)], args := [d] }
  | _ => none }
def fnTransferValidRow : OpenClaim := { program := "ytpiijdfnhkmkaaa", sum := "36d3543f161ca112394e3fa2eaab9848fb4a7da8b35d20a38651d0ea04f0ada5", func := "loop.example/sepkernel/laws.FnTransferValid", spec := "fnTransferValid", unfollowed := true, recurses := true, apart := false }
def FnTransferValidSaid : Prop := fnTransferValidRow.holds Try.pinned (OpenSpec.ofChange fnTransferValidSpec)

/-- ITS FALSE NEIGHBOUR: 'it returns false'. Refute it at one input. -/
def fnTransferValidWrong : ChangeSpec := { name := "fnTransferValid", fn := fun _ => fun
  | [d] => { results := [.lit (.bool false)], args := [d] }
  | _ => none }
def FnTransferValidWrongFalsely : Prop := fnTransferValidRow.holds Try.pinned (OpenSpec.ofChange fnTransferValidWrong)

/-- 'laws.FnHealthTable': WHATEVER THE INPUT: true; the input reads as it did. -/
def fnHealthTableSpec : ChangeSpec := { name := "fnHealthTable", fn := fun _ => fun
  | [d] => { results := [.lit (.bool true)], args := [d] }
  | _ => none }
def fnHealthTableRow : OpenClaim := { program := "ytpiijdfnhkmkaaa", sum := "36d3543f161ca112394e3fa2eaab9848fb4a7da8b35d20a38651d0ea04f0ada5", func := "loop.example/sepkernel/laws.FnHealthTable", spec := "fnHealthTable", unfollowed := true, recurses := true, apart := false }
def FnHealthTableSaid : Prop := fnHealthTableRow.holds Try.pinned (OpenSpec.ofChange fnHealthTableSpec)

/-- ITS FALSE NEIGHBOUR: 'it returns false'. Refute it at one input. -/
def fnHealthTableWrong : ChangeSpec := { name := "fnHealthTable", fn := fun _ => fun
  | [d] => { results := [.lit (.bool false)], args := [d] }
  | _ => none }
def FnHealthTableWrongFalsely : Prop := fnHealthTableRow.holds Try.pinned (OpenSpec.ofChange fnHealthTableWrong)

/-- 'laws.FnMixNumbers': WHATEVER THE INPUT: true; the input reads as it did. -/
def fnMixNumbersSpec : ChangeSpec := { name := "fnMixNumbers", fn := fun _ => fun
  | [d] => { results := [.lit (.bool true)], args := [d] }
  | _ => none }
def fnMixNumbersRow : OpenClaim := { program := "ytpiijdfnhkmkaaa", sum := "36d3543f161ca112394e3fa2eaab9848fb4a7da8b35d20a38651d0ea04f0ada5", func := "loop.example/sepkernel/laws.FnMixNumbers", spec := "fnMixNumbers", unfollowed := true, recurses := true, apart := false }
def FnMixNumbersSaid : Prop := fnMixNumbersRow.holds Try.pinned (OpenSpec.ofChange fnMixNumbersSpec)

/-- ITS FALSE NEIGHBOUR: 'it returns false'. Refute it at one input. -/
def fnMixNumbersWrong : ChangeSpec := { name := "fnMixNumbers", fn := fun _ => fun
  | [d] => { results := [.lit (.bool false)], args := [d] }
  | _ => none }
def FnMixNumbersWrongFalsely : Prop := fnMixNumbersRow.holds Try.pinned (OpenSpec.ofChange fnMixNumbersWrong)

/-- 'laws.FnMixOrder': WHATEVER THE INPUT: true; the input reads as it did. -/
def fnMixOrderSpec : ChangeSpec := { name := "fnMixOrder", fn := fun _ => fun
  | [d1, d2] => { results := [.lit (.bool true)], args := [d1, d2] }
  | _ => none }
def fnMixOrderRow : OpenClaim := { program := "ytpiijdfnhkmkaaa", sum := "36d3543f161ca112394e3fa2eaab9848fb4a7da8b35d20a38651d0ea04f0ada5", func := "loop.example/sepkernel/laws.FnMixOrder", spec := "fnMixOrder", unfollowed := true, recurses := true, apart := false }
def FnMixOrderSaid : Prop := fnMixOrderRow.holds Try.pinned (OpenSpec.ofChange fnMixOrderSpec)

/-- ITS FALSE NEIGHBOUR: 'it returns false'. Refute it at one input. -/
def fnMixOrderWrong : ChangeSpec := { name := "fnMixOrder", fn := fun _ => fun
  | [d1, d2] => { results := [.lit (.bool false)], args := [d1, d2] }
  | _ => none }
def FnMixOrderWrongFalsely : Prop := fnMixOrderRow.holds Try.pinned (OpenSpec.ofChange fnMixOrderWrong)

/-- 'laws.FnHoldValid': WHATEVER THE INPUT: true; the input reads as it did. -/
def fnHoldValidSpec : ChangeSpec := { name := "fnHoldValid", fn := fun _ => fun
  | [d] => { results := [.lit (.bool true)], args := [d] }
  | _ => none }
def fnHoldValidRow : OpenClaim := { program := "ytpiijdfnhkmkaaa", sum := "36d3543f161ca112394e3fa2eaab9848fb4a7da8b35d20a38651d0ea04f0ada5", func := "loop.example/sepkernel/laws.FnHoldValid", spec := "fnHoldValid", unfollowed := true, recurses := true, apart := false }
def FnHoldValidSaid : Prop := fnHoldValidRow.holds Try.pinned (OpenSpec.ofChange fnHoldValidSpec)

/-- ITS FALSE NEIGHBOUR: 'it returns false'. Refute it at one input. -/
def fnHoldValidWrong : ChangeSpec := { name := "fnHoldValid", fn := fun _ => fun
  | [d] => { results := [.lit (.bool false)], args := [d] }
  | _ => none }
def FnHoldValidWrongFalsely : Prop := fnHoldValidRow.holds Try.pinned (OpenSpec.ofChange fnHoldValidWrong)

/-- 'laws.FnNewAudit': WHATEVER THE INPUT: true; the input reads as it did. -/
def fnNewAuditSpec : ChangeSpec := { name := "fnNewAudit", fn := fun _ => fun
  | [d] => { results := [.lit (.bool true)], args := [d] }
  | _ => none }
def fnNewAuditRow : OpenClaim := { program := "ytpiijdfnhkmkaaa", sum := "36d3543f161ca112394e3fa2eaab9848fb4a7da8b35d20a38651d0ea04f0ada5", func := "loop.example/sepkernel/laws.FnNewAudit", spec := "fnNewAudit", unfollowed := true, recurses := true, apart := false }
def FnNewAuditSaid : Prop := fnNewAuditRow.holds Try.pinned (OpenSpec.ofChange fnNewAuditSpec)

/-- ITS FALSE NEIGHBOUR: 'it returns false'. Refute it at one input. -/
def fnNewAuditWrong : ChangeSpec := { name := "fnNewAudit", fn := fun _ => fun
  | [d] => { results := [.lit (.bool false)], args := [d] }
  | _ => none }
def FnNewAuditWrongFalsely : Prop := fnNewAuditRow.holds Try.pinned (OpenSpec.ofChange fnNewAuditWrong)

/-- 'laws.FnNewCore': WHATEVER THE INPUT: true; the input reads as it did. -/
def fnNewCoreSpec : ChangeSpec := { name := "fnNewCore", fn := fun _ => fun
  | [d] => { results := [.lit (.bool true)], args := [d] }
  | _ => none }
def fnNewCoreRow : OpenClaim := { program := "ytpiijdfnhkmkaaa", sum := "36d3543f161ca112394e3fa2eaab9848fb4a7da8b35d20a38651d0ea04f0ada5", func := "loop.example/sepkernel/laws.FnNewCore", spec := "fnNewCore", unfollowed := true, recurses := true, apart := false }
def FnNewCoreSaid : Prop := fnNewCoreRow.holds Try.pinned (OpenSpec.ofChange fnNewCoreSpec)

/-- ITS FALSE NEIGHBOUR: 'it returns false'. Refute it at one input. -/
def fnNewCoreWrong : ChangeSpec := { name := "fnNewCore", fn := fun _ => fun
  | [d] => { results := [.lit (.bool false)], args := [d] }
  | _ => none }
def FnNewCoreWrongFalsely : Prop := fnNewCoreRow.holds Try.pinned (OpenSpec.ofChange fnNewCoreWrong)

/- THE SECOND FORM. 'bulk': how many values and letters a reading holds, each counted each time it is reached (what is shared counts as often as it is met; a slice's spare places count too). A statement '..UptoSaid' is the law's where the arguments, and the package variables that the reading takes, are together of bulk at most 1048576: NARROWER than '..Said'. Prove '..Said' where nothing that the law and all that it calls make is longer than what came in: it says more and counts as full. Else prove '..UptoSaid'. A law counts once. -/
mutual
def uptoBulk {H : Type} : DataW H → Nat
  | .lit (.string bytes) => bytes.length + 1
  | .lit _ => 1
  | .nil => 1
  | .ptr d => uptoBulk d + 1
  | .slice elems spare => uptoBulkAll elems + uptoBulkAll spare + 1
  | .agg parts => uptoBulkAll parts + 1
  | .iface _ d => uptoBulk d + 1
  | .map entries => uptoBulkEntries entries + 1
  | .held _ => 1
def uptoBulkAll {H : Type} : List (DataW H) → Nat
  | [] => 0
  | d :: r => uptoBulk d + uptoBulkAll r
def uptoBulkEntries {H : Type} : List (Lit × DataW H) → Nat
  | [] => 0
  | x :: r => uptoBulkEntry x + uptoBulkEntries r
def uptoBulkEntry {H : Type} : Lit × DataW H → Nat
  | (.string bytes, d) => bytes.length + uptoBulk d + 1
  | (_, d) => uptoBulk d + 1
 end
def uptoSmall : (H : Type) → List (DataW H) → Bool := fun _ ds => decide (uptoBulkAll ds ≤ 1048576)
def OpenSpec.upto (s : _root_.Go.ChangeSpec) : _root_.Go.OpenSpec := { _root_.Go.OpenSpec.ofChange s with cond := some uptoSmall }

/-- 'laws.FnOrderPair', WHERE WHAT IT READS IS OF BULK AT MOST 1048576: true; the input reads as it did. -/
def fnOrderPairUptoRow : OpenClaim := { program := "ytpiijdfnhkmkaaa", sum := "36d3543f161ca112394e3fa2eaab9848fb4a7da8b35d20a38651d0ea04f0ada5", func := "loop.example/sepkernel/laws.FnOrderPair", spec := "fnOrderPair", unfollowed := true, recurses := true, apart := false, narrowed := true }
def FnOrderPairUptoSaid : Prop := fnOrderPairUptoRow.holds Try.pinned (OpenSpec.upto fnOrderPairSpec)

/-- 'laws.FnOrderFrom', WHERE WHAT IT READS IS OF BULK AT MOST 1048576: true; the input reads as it did. -/
def fnOrderFromUptoRow : OpenClaim := { program := "ytpiijdfnhkmkaaa", sum := "36d3543f161ca112394e3fa2eaab9848fb4a7da8b35d20a38651d0ea04f0ada5", func := "loop.example/sepkernel/laws.FnOrderFrom", spec := "fnOrderFrom", unfollowed := true, recurses := true, apart := false, narrowed := true }
def FnOrderFromUptoSaid : Prop := fnOrderFromUptoRow.holds Try.pinned (OpenSpec.upto fnOrderFromSpec)

/-- 'laws.FnOrderNumber', WHERE WHAT IT READS IS OF BULK AT MOST 1048576: true; the input reads as it did. -/
def fnOrderNumberUptoRow : OpenClaim := { program := "ytpiijdfnhkmkaaa", sum := "36d3543f161ca112394e3fa2eaab9848fb4a7da8b35d20a38651d0ea04f0ada5", func := "loop.example/sepkernel/laws.FnOrderNumber", spec := "fnOrderNumber", unfollowed := true, recurses := true, apart := false, narrowed := true }
def FnOrderNumberUptoSaid : Prop := fnOrderNumberUptoRow.holds Try.pinned (OpenSpec.upto fnOrderNumberSpec)

/-- 'laws.FnLinesValid', WHERE WHAT IT READS IS OF BULK AT MOST 1048576: true; the input reads as it did. -/
def fnLinesValidUptoRow : OpenClaim := { program := "ytpiijdfnhkmkaaa", sum := "36d3543f161ca112394e3fa2eaab9848fb4a7da8b35d20a38651d0ea04f0ada5", func := "loop.example/sepkernel/laws.FnLinesValid", spec := "fnLinesValid", unfollowed := true, recurses := true, apart := false, narrowed := true }
def FnLinesValidUptoSaid : Prop := fnLinesValidUptoRow.holds Try.pinned (OpenSpec.upto fnLinesValidSpec)

/-- 'laws.FnHealthValid', WHERE WHAT IT READS IS OF BULK AT MOST 1048576: true; the input reads as it did. -/
def fnHealthValidUptoRow : OpenClaim := { program := "ytpiijdfnhkmkaaa", sum := "36d3543f161ca112394e3fa2eaab9848fb4a7da8b35d20a38651d0ea04f0ada5", func := "loop.example/sepkernel/laws.FnHealthValid", spec := "fnHealthValid", unfollowed := true, recurses := true, apart := false, narrowed := true }
def FnHealthValidUptoSaid : Prop := fnHealthValidUptoRow.holds Try.pinned (OpenSpec.upto fnHealthValidSpec)

/-- 'laws.FnTransferValid', WHERE WHAT IT READS IS OF BULK AT MOST 1048576: true; the input reads as it did. -/
def fnTransferValidUptoRow : OpenClaim := { program := "ytpiijdfnhkmkaaa", sum := "36d3543f161ca112394e3fa2eaab9848fb4a7da8b35d20a38651d0ea04f0ada5", func := "loop.example/sepkernel/laws.FnTransferValid", spec := "fnTransferValid", unfollowed := true, recurses := true, apart := false, narrowed := true }
def FnTransferValidUptoSaid : Prop := fnTransferValidUptoRow.holds Try.pinned (OpenSpec.upto fnTransferValidSpec)

/-- 'laws.FnHealthTable', WHERE WHAT IT READS IS OF BULK AT MOST 1048576: true; the input reads as it did. -/
def fnHealthTableUptoRow : OpenClaim := { program := "ytpiijdfnhkmkaaa", sum := "36d3543f161ca112394e3fa2eaab9848fb4a7da8b35d20a38651d0ea04f0ada5", func := "loop.example/sepkernel/laws.FnHealthTable", spec := "fnHealthTable", unfollowed := true, recurses := true, apart := false, narrowed := true }
def FnHealthTableUptoSaid : Prop := fnHealthTableUptoRow.holds Try.pinned (OpenSpec.upto fnHealthTableSpec)

/-- 'laws.FnMixNumbers', WHERE WHAT IT READS IS OF BULK AT MOST 1048576: true; the input reads as it did. -/
def fnMixNumbersUptoRow : OpenClaim := { program := "ytpiijdfnhkmkaaa", sum := "36d3543f161ca112394e3fa2eaab9848fb4a7da8b35d20a38651d0ea04f0ada5", func := "loop.example/sepkernel/laws.FnMixNumbers", spec := "fnMixNumbers", unfollowed := true, recurses := true, apart := false, narrowed := true }
def FnMixNumbersUptoSaid : Prop := fnMixNumbersUptoRow.holds Try.pinned (OpenSpec.upto fnMixNumbersSpec)

/-- 'laws.FnMixOrder', WHERE WHAT IT READS IS OF BULK AT MOST 1048576: true; the input reads as it did. -/
def fnMixOrderUptoRow : OpenClaim := { program := "ytpiijdfnhkmkaaa", sum := "36d3543f161ca112394e3fa2eaab9848fb4a7da8b35d20a38651d0ea04f0ada5", func := "loop.example/sepkernel/laws.FnMixOrder", spec := "fnMixOrder", unfollowed := true, recurses := true, apart := false, narrowed := true }
def FnMixOrderUptoSaid : Prop := fnMixOrderUptoRow.holds Try.pinned (OpenSpec.upto fnMixOrderSpec)

/-- 'laws.FnHoldValid', WHERE WHAT IT READS IS OF BULK AT MOST 1048576: true; the input reads as it did. -/
def fnHoldValidUptoRow : OpenClaim := { program := "ytpiijdfnhkmkaaa", sum := "36d3543f161ca112394e3fa2eaab9848fb4a7da8b35d20a38651d0ea04f0ada5", func := "loop.example/sepkernel/laws.FnHoldValid", spec := "fnHoldValid", unfollowed := true, recurses := true, apart := false, narrowed := true }
def FnHoldValidUptoSaid : Prop := fnHoldValidUptoRow.holds Try.pinned (OpenSpec.upto fnHoldValidSpec)

/-- 'laws.FnNewAudit', WHERE WHAT IT READS IS OF BULK AT MOST 1048576: true; the input reads as it did. -/
def fnNewAuditUptoRow : OpenClaim := { program := "ytpiijdfnhkmkaaa", sum := "36d3543f161ca112394e3fa2eaab9848fb4a7da8b35d20a38651d0ea04f0ada5", func := "loop.example/sepkernel/laws.FnNewAudit", spec := "fnNewAudit", unfollowed := true, recurses := true, apart := false, narrowed := true }
def FnNewAuditUptoSaid : Prop := fnNewAuditUptoRow.holds Try.pinned (OpenSpec.upto fnNewAuditSpec)

/-- 'laws.FnNewCore', WHERE WHAT IT READS IS OF BULK AT MOST 1048576: true; the input reads as it did. -/
def fnNewCoreUptoRow : OpenClaim := { program := "ytpiijdfnhkmkaaa", sum := "36d3543f161ca112394e3fa2eaab9848fb4a7da8b35d20a38651d0ea04f0ada5", func := "loop.example/sepkernel/laws.FnNewCore", spec := "fnNewCore", unfollowed := true, recurses := true, apart := false, narrowed := true }
def FnNewCoreUptoSaid : Prop := fnNewCoreUptoRow.holds Try.pinned (OpenSpec.upto fnNewCoreSpec)

end Rows
end Go.Proofs.Ytpiijdfnhkmkaaa
