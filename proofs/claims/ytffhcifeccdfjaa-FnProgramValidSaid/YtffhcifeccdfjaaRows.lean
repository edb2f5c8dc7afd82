/-
  No cell of these rows narrows 'for every input' (looked for: loops, veiled, ifaces, maps, wideKeys, modest, calm, conditions, laid).
  DERIVED. THE GIVEN ROWS OF THIS SEAT. 8 by the template 'for every input the law returns true; each argument reads behind the call as it read before'; 0 by the template 'total and deterministic' (their statements: YtffhcifeccdfjaaTotals.lean).
  GIVEN WITH THE SEED: the statements are not yours to turn. If you find one false, say at which input.
  Laid BY PROGRAM, IN A SANDBOX (cutbox-rows.mjs): the forced cells as the released guide's own fill.sh prints them over the translation c56bb8807272e34d… (all of the seat's roots in one cut). By AI agents, Wed Nov 11 2026. No macro, syntax, notation, axiom, sorry.
-/
import Derived.Test.YtffhcifeccdfjaaChecked
import GoSem.Claim
import GoSem.ClaimJoined
import GoSem.ClaimMapViews
import Derived.JoinedTies
import Derived.KernelRfl
namespace Go.Proofs.Ytffhcifeccdfjaa
/- THE CELL 'sum', in the pinned program and in every row, IS THE sha256 OF THE DUMP (.gsa) THAT YtffhcifeccdfjaaProg.lean LOADS. Nothing in Lean hashes anything: it is a label: what it is worth is what the hold of that sum in a sandbox is worth. -/
noncomputable def Try.pinned : Pinned := { name := "ytffhcifeccdfjaa", sum := "c56bb8807272e34d31da6239a676c0549ef40fb1321dad6ddbcfecdbe0b75d2f", checked := Try.checked }
namespace Rows
def none {H : Type} : Left H := { results := [], args := [] }

/-- 'laws.FnSplitTransfer': WHATEVER THE INPUT: true; the input reads as it did. -/
def fnSplitTransferSpec : ChangeSpec := { name := "fnSplitTransfer", fn := fun _ => fun
  | [d] => { results := [.lit (.bool true)], args := [d] }
  | _ => none }
def fnSplitTransferRow : OpenClaim := { program := "ytffhcifeccdfjaa", sum := "c56bb8807272e34d31da6239a676c0549ef40fb1321dad6ddbcfecdbe0b75d2f", func := "loop.example/sepkernel/laws.FnSplitTransfer", spec := "fnSplitTransfer", unfollowed := true, recurses := true, apart := false }
def FnSplitTransferSaid : Prop := fnSplitTransferRow.holds Try.pinned (OpenSpec.ofChange fnSplitTransferSpec)

/-- ITS FALSE NEIGHBOUR: 'it returns false'. Refute it at one input. -/
def fnSplitTransferWrong : ChangeSpec := { name := "fnSplitTransfer", fn := fun _ => fun
  | [d] => { results := [.lit (.bool false)], args := [d] }
  | _ => none }
def FnSplitTransferWrongFalsely : Prop := fnSplitTransferRow.holds Try.pinned (OpenSpec.ofChange fnSplitTransferWrong)

/-- 'laws.FnTransferPart': WHATEVER THE INPUT: true; the input reads as it did. -/
def fnTransferPartSpec : ChangeSpec := { name := "fnTransferPart", fn := fun _ => fun
  | [d] => { results := [.lit (.bool true)], args := [d] }
  | _ => none }
def fnTransferPartRow : OpenClaim := { program := "ytffhcifeccdfjaa", sum := "c56bb8807272e34d31da6239a676c0549ef40fb1321dad6ddbcfecdbe0b75d2f", func := "loop.example/sepkernel/laws.FnTransferPart", spec := "fnTransferPart", unfollowed := true, recurses := true, apart := false }
def FnTransferPartSaid : Prop := fnTransferPartRow.holds Try.pinned (OpenSpec.ofChange fnTransferPartSpec)

/-- ITS FALSE NEIGHBOUR: 'it returns false'. Refute it at one input. -/
def fnTransferPartWrong : ChangeSpec := { name := "fnTransferPart", fn := fun _ => fun
  | [d] => { results := [.lit (.bool false)], args := [d] }
  | _ => none }
def FnTransferPartWrongFalsely : Prop := fnTransferPartRow.holds Try.pinned (OpenSpec.ofChange fnTransferPartWrong)

/-- 'laws.FnCacheValid': WHATEVER THE INPUT: true; the input reads as it did. -/
def fnCacheValidSpec : ChangeSpec := { name := "fnCacheValid", fn := fun _ => fun
  | [d] => { results := [.lit (.bool true)], args := [d] }
  | _ => none }
def fnCacheValidRow : OpenClaim := { program := "ytffhcifeccdfjaa", sum := "c56bb8807272e34d31da6239a676c0549ef40fb1321dad6ddbcfecdbe0b75d2f", func := "loop.example/sepkernel/laws.FnCacheValid", spec := "fnCacheValid", unfollowed := true, recurses := true, apart := false }
def FnCacheValidSaid : Prop := fnCacheValidRow.holds Try.pinned (OpenSpec.ofChange fnCacheValidSpec)

/-- ITS FALSE NEIGHBOUR: 'it returns false'. Refute it at one input. -/
def fnCacheValidWrong : ChangeSpec := { name := "fnCacheValid", fn := fun _ => fun
  | [d] => { results := [.lit (.bool false)], args := [d] }
  | _ => none }
def FnCacheValidWrongFalsely : Prop := fnCacheValidRow.holds Try.pinned (OpenSpec.ofChange fnCacheValidWrong)

/-- 'laws.FnProgramValid': WHATEVER THE INPUT: true; the input reads as it did. -/
def fnProgramValidSpec : ChangeSpec := { name := "fnProgramValid", fn := fun _ => fun
  | [d] => { results := [.lit (.bool true)], args := [d] }
  | _ => none }
def fnProgramValidRow : OpenClaim := { program := "ytffhcifeccdfjaa", sum := "c56bb8807272e34d31da6239a676c0549ef40fb1321dad6ddbcfecdbe0b75d2f", func := "loop.example/sepkernel/laws.FnProgramValid", spec := "fnProgramValid", unfollowed := true, recurses := true, apart := false }
def FnProgramValidSaid : Prop := fnProgramValidRow.holds Try.pinned (OpenSpec.ofChange fnProgramValidSpec)

/-- ITS FALSE NEIGHBOUR: 'it returns false'. Refute it at one input. -/
def fnProgramValidWrong : ChangeSpec := { name := "fnProgramValid", fn := fun _ => fun
  | [d] => { results := [.lit (.bool false)], args := [d] }
  | _ => none }
def FnProgramValidWrongFalsely : Prop := fnProgramValidRow.holds Try.pinned (OpenSpec.ofChange fnProgramValidWrong)

/-- 'laws.FnHealthStep': WHATEVER THE INPUT: true; the input reads as it did. -/
def fnHealthStepSpec : ChangeSpec := { name := "fnHealthStep", fn := fun _ => fun
  | [d] => { results := [.lit (.bool true)], args := [d] }
  | _ => none }
def fnHealthStepRow : OpenClaim := { program := "ytffhcifeccdfjaa", sum := "c56bb8807272e34d31da6239a676c0549ef40fb1321dad6ddbcfecdbe0b75d2f", func := "loop.example/sepkernel/laws.FnHealthStep", spec := "fnHealthStep", unfollowed := true, recurses := true, apart := false }
def FnHealthStepSaid : Prop := fnHealthStepRow.holds Try.pinned (OpenSpec.ofChange fnHealthStepSpec)

/-- ITS FALSE NEIGHBOUR: 'it returns false'. Refute it at one input. -/
def fnHealthStepWrong : ChangeSpec := { name := "fnHealthStep", fn := fun _ => fun
  | [d] => { results := [.lit (.bool false)], args := [d] }
  | _ => none }
def FnHealthStepWrongFalsely : Prop := fnHealthStepRow.holds Try.pinned (OpenSpec.ofChange fnHealthStepWrong)

/-- 'laws.FnFaultsLeft': WHATEVER THE INPUT: true; the input reads as it did. -/
def fnFaultsLeftSpec : ChangeSpec := { name := "fnFaultsLeft", fn := fun _ => fun
  | [d] => { results := [.lit (.bool true)], args := [d] }
  | _ => none }
def fnFaultsLeftRow : OpenClaim := { program := "ytffhcifeccdfjaa", sum := "c56bb8807272e34d31da6239a676c0549ef40fb1321dad6ddbcfecdbe0b75d2f", func := "loop.example/sepkernel/laws.FnFaultsLeft", spec := "fnFaultsLeft", unfollowed := true, recurses := true, apart := false }
def FnFaultsLeftSaid : Prop := fnFaultsLeftRow.holds Try.pinned (OpenSpec.ofChange fnFaultsLeftSpec)

/-- ITS FALSE NEIGHBOUR: 'it returns false'. Refute it at one input. -/
def fnFaultsLeftWrong : ChangeSpec := { name := "fnFaultsLeft", fn := fun _ => fun
  | [d] => { results := [.lit (.bool false)], args := [d] }
  | _ => none }
def FnFaultsLeftWrongFalsely : Prop := fnFaultsLeftRow.holds Try.pinned (OpenSpec.ofChange fnFaultsLeftWrong)

/-- 'laws.FnAuditValid': WHATEVER THE INPUT: true; the input reads as it did. -/
def fnAuditValidSpec : ChangeSpec := { name := "fnAuditValid", fn := fun _ => fun
  | [d1, d2] => { results := [.lit (.bool true)], args := [d1, d2] }
  | _ => none }
def fnAuditValidRow : OpenClaim := { program := "ytffhcifeccdfjaa", sum := "c56bb8807272e34d31da6239a676c0549ef40fb1321dad6ddbcfecdbe0b75d2f", func := "loop.example/sepkernel/laws.FnAuditValid", spec := "fnAuditValid", unfollowed := true, recurses := true, apart := false }
def FnAuditValidSaid : Prop := fnAuditValidRow.holds Try.pinned (OpenSpec.ofChange fnAuditValidSpec)

/-- ITS FALSE NEIGHBOUR: 'it returns false'. Refute it at one input. -/
def fnAuditValidWrong : ChangeSpec := { name := "fnAuditValid", fn := fun _ => fun
  | [d1, d2] => { results := [.lit (.bool false)], args := [d1, d2] }
  | _ => none }
def FnAuditValidWrongFalsely : Prop := fnAuditValidRow.holds Try.pinned (OpenSpec.ofChange fnAuditValidWrong)

/-- 'laws.FnHoldLast': WHATEVER THE INPUT: true; the input reads as it did. -/
def fnHoldLastSpec : ChangeSpec := { name := "fnHoldLast", fn := fun _ => fun
  | [d1, d2] => { results := [.lit (.bool true)], args := [d1, d2] }
  | _ => none }
def fnHoldLastRow : OpenClaim := { program := "ytffhcifeccdfjaa", sum := "c56bb8807272e34d31da6239a676c0549ef40fb1321dad6ddbcfecdbe0b75d2f", func := "loop.example/sepkernel/laws.FnHoldLast", spec := "fnHoldLast", unfollowed := true, recurses := true, apart := false }
def FnHoldLastSaid : Prop := fnHoldLastRow.holds Try.pinned (OpenSpec.ofChange fnHoldLastSpec)

/-- ITS FALSE NEIGHBOUR: 'it returns false'. Refute it at one input. -/
def fnHoldLastWrong : ChangeSpec := { name := "fnHoldLast", fn := fun _ => fun
  | [d1, d2] => { results := [.lit (.bool false)], args := [d1, d2] }
  | _ => none }
def FnHoldLastWrongFalsely : Prop := fnHoldLastRow.holds Try.pinned (OpenSpec.ofChange fnHoldLastWrong)

/- THE SECOND FORM. 'bulk': how many values and letters a reading holds, each counted each time it is reached (what is shared counts as often as it is met; a slice's spare places count too). A statement '..UptoSaid' is the law's where the arguments, and the package variables that the reading takes, are together of bulk at most 1048576: NARROWER than '..Said'. Prove '..Said' where nothing that the law and all that it calls make is longer than what came in: it says more and counts as full. Else prove '..UptoSaid'. A law counts once. -/
mutual
def uptoBulk {H : Type} : DataW H → Nat
  | .lit (.string bytes) => bytes.length + 1
  | .lit _ => 1
  | .nil => 1
  | .ptr d => uptoBulk d + 1
  | .slice elems spare => uptoBulkAll elems + uptoBulkAll spare + 1
  | .agg parts => uptoBulkAll parts + 1
  | .iface _ d => uptoBulk d + 1
  | .map entries => uptoBulkEntries entries + 1
  | .held _ => 1
def uptoBulkAll {H : Type} : List (DataW H) → Nat
  | [] => 0
  | d :: r => uptoBulk d + uptoBulkAll r
def uptoBulkEntries {H : Type} : List (Lit × DataW H) → Nat
  | [] => 0
  | x :: r => uptoBulkEntry x + uptoBulkEntries r
def uptoBulkEntry {H : Type} : Lit × DataW H → Nat
  | (.string bytes, d) => bytes.length + uptoBulk d + 1
  | (_, d) => uptoBulk d + 1
 end
def uptoSmall : (H : Type) → List (DataW H) → Bool := fun _ ds => decide (uptoBulkAll ds ≤ 1048576)
def OpenSpec.upto (s : _root_.Go.ChangeSpec) : _root_.Go.OpenSpec := { _root_.Go.OpenSpec.ofChange s with cond := some uptoSmall }

/-- 'laws.FnSplitTransfer', WHERE WHAT IT READS IS OF BULK AT MOST 1048576: true; the input reads as it did. -/
def fnSplitTransferUptoRow : OpenClaim := { program := "ytffhcifeccdfjaa", sum := "c56bb8807272e34d31da6239a676c0549ef40fb1321dad6ddbcfecdbe0b75d2f", func := "loop.example/sepkernel/laws.FnSplitTransfer", spec := "fnSplitTransfer", unfollowed := true, recurses := true, apart := false, narrowed := true }
def FnSplitTransferUptoSaid : Prop := fnSplitTransferUptoRow.holds Try.pinned (OpenSpec.upto fnSplitTransferSpec)

/-- 'laws.FnTransferPart', WHERE WHAT IT READS IS OF BULK AT MOST 1048576: true; the input reads as it did. -/
def fnTransferPartUptoRow : OpenClaim := { program := "ytffhcifeccdfjaa", sum := "c56bb8807272e34d31da6239a676c0549ef40fb1321dad6ddbcfecdbe0b75d2f", func := "loop.example/sepkernel/laws.FnTransferPart", spec := "fnTransferPart", unfollowed := true, recurses := true, apart := false, narrowed := true }
def FnTransferPartUptoSaid : Prop := fnTransferPartUptoRow.holds Try.pinned (OpenSpec.upto fnTransferPartSpec)

/-- 'laws.FnCacheValid', WHERE WHAT IT READS IS OF BULK AT MOST 1048576: true; the input reads as it did. -/
def fnCacheValidUptoRow : OpenClaim := { program := "ytffhcifeccdfjaa", sum := "c56bb8807272e34d31da6239a676c0549ef40fb1321dad6ddbcfecdbe0b75d2f", func := "loop.example/sepkernel/laws.FnCacheValid", spec := "fnCacheValid", unfollowed := true, recurses := true, apart := false, narrowed := true }
def FnCacheValidUptoSaid : Prop := fnCacheValidUptoRow.holds Try.pinned (OpenSpec.upto fnCacheValidSpec)

/-- 'laws.FnProgramValid', WHERE WHAT IT READS IS OF BULK AT MOST 1048576: true; the input reads as it did. -/
def fnProgramValidUptoRow : OpenClaim := { program := "ytffhcifeccdfjaa", sum := "c56bb8807272e34d31da6239a676c0549ef40fb1321dad6ddbcfecdbe0b75d2f", func := "loop.example/sepkernel/laws.FnProgramValid", spec := "fnProgramValid", unfollowed := true, recurses := true, apart := false, narrowed := true }
def FnProgramValidUptoSaid : Prop := fnProgramValidUptoRow.holds Try.pinned (OpenSpec.upto fnProgramValidSpec)

/-- 'laws.FnHealthStep', WHERE WHAT IT READS IS OF BULK AT MOST 1048576: true; the input reads as it did. -/
def fnHealthStepUptoRow : OpenClaim := { program := "ytffhcifeccdfjaa", sum := "c56bb8807272e34d31da6239a676c0549ef40fb1321dad6ddbcfecdbe0b75d2f", func := "loop.example/sepkernel/laws.FnHealthStep", spec := "fnHealthStep", unfollowed := true, recurses := true, apart := false, narrowed := true }
def FnHealthStepUptoSaid : Prop := fnHealthStepUptoRow.holds Try.pinned (OpenSpec.upto fnHealthStepSpec)

/-- 'laws.FnFaultsLeft', WHERE WHAT IT READS IS OF BULK AT MOST 1048576: true; the input reads as it did. -/
def fnFaultsLeftUptoRow : OpenClaim := { program := "ytffhcifeccdfjaa", sum := "c56bb8807272e34d31da6239a676c0549ef40fb1321dad6ddbcfecdbe0b75d2f", func := "loop.example/sepkernel/laws.FnFaultsLeft", spec := "fnFaultsLeft", unfollowed := true, recurses := true, apart := false, narrowed := true }
def FnFaultsLeftUptoSaid : Prop := fnFaultsLeftUptoRow.holds Try.pinned (OpenSpec.upto fnFaultsLeftSpec)

/-- 'laws.FnAuditValid', WHERE WHAT IT READS IS OF BULK AT MOST 1048576: true; the input reads as it did. -/
def fnAuditValidUptoRow : OpenClaim := { program := "ytffhcifeccdfjaa", sum := "c56bb8807272e34d31da6239a676c0549ef40fb1321dad6ddbcfecdbe0b75d2f", func := "loop.example/sepkernel/laws.FnAuditValid", spec := "fnAuditValid", unfollowed := true, recurses := true, apart := false, narrowed := true }
def FnAuditValidUptoSaid : Prop := fnAuditValidUptoRow.holds Try.pinned (OpenSpec.upto fnAuditValidSpec)

/-- 'laws.FnHoldLast', WHERE WHAT IT READS IS OF BULK AT MOST 1048576: true; the input reads as it did. -/
def fnHoldLastUptoRow : OpenClaim := { program := "ytffhcifeccdfjaa", sum := "c56bb8807272e34d31da6239a676c0549ef40fb1321dad6ddbcfecdbe0b75d2f", func := "loop.example/sepkernel/laws.FnHoldLast", spec := "fnHoldLast", unfollowed := true, recurses := true, apart := false, narrowed := true }
def FnHoldLastUptoSaid : Prop := fnHoldLastUptoRow.holds Try.pinned (OpenSpec.upto fnHoldLastSpec)

end Rows
end Go.Proofs.Ytffhcifeccdfjaa
