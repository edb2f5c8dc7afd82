/-
  No cell of these rows narrows 'for every input' (looked for: loops, veiled, ifaces, maps, wideKeys, modest, calm, conditions, laid).
  DERIVED. THE GIVEN ROWS OF THIS SEAT. 10 by the template 'for every input the law returns true; each argument reads behind the call as it read before'; 0 by the template 'total and deterministic' (their statements: YtenbpaoelipifaaTotals.lean).
  GIVEN WITH THE SEED: the statements are not yours to turn. If you find one false, say at which input.
  Laid BY PROGRAM, IN A SANDBOX (cutbox-rows.mjs): the forced cells as the released guide's own fill.sh prints them over the translation ca84f702a68f71d4… (all of the seat's roots in one cut). By AI agents, Wed Nov 11 2026. No macro, syntax, notation, axiom, sorry.
-/
import Derived.Test.YtenbpaoelipifaaChecked
import GoSem.Claim
import GoSem.ClaimJoined
import GoSem.ClaimMapViews
import Derived.JoinedTies
import Derived.KernelRfl
namespace Go.Proofs.Ytenbpaoelipifaa
/- THE CELL 'sum', in the pinned program and in every row, IS THE sha256 OF THE DUMP (.gsa) THAT YtenbpaoelipifaaProg.lean LOADS. Nothing in Lean hashes anything: it is a label: what it is worth is what the hold of that sum in a sandbox is worth. -/
noncomputable def Try.pinned : Pinned := { name := "ytenbpaoelipifaa", sum := "ca84f702a68f71d4cc18553596ff045c8f3e749eb749ba81aab88685f218aa32", checked := Try.checked }
namespace Rows
def none {H : Type} : Left H := { results := [], args := [] }

/-- 'laws.FnExactLinkValid': WHATEVER THE INPUT: true; the input reads as it did. -/
def fnExactLinkValidSpec : ChangeSpec := { name := "fnExactLinkValid", fn := fun _ => fun
  | [d] => { results := [.lit (.bool true)], args := [d] }
  | _ => none }
def fnExactLinkValidRow : OpenClaim := { program := "ytenbpaoelipifaa", sum := "ca84f702a68f71d4cc18553596ff045c8f3e749eb749ba81aab88685f218aa32", func := "loop.example/sepkernel/laws.FnExactLinkValid", spec := "fnExactLinkValid", apart := false }
def FnExactLinkValidSaid : Prop := fnExactLinkValidRow.holds Try.pinned (OpenSpec.ofChange fnExactLinkValidSpec)

/-- ITS FALSE NEIGHBOUR: 'it returns false'. Refute it at one input. -/
def fnExactLinkValidWrong : ChangeSpec := { name := "fnExactLinkValid", fn := fun _ => fun
  | [d] => { results := [.lit (.bool false)], args := [d] }
  | _ => none }
def FnExactLinkValidWrongFalsely : Prop := fnExactLinkValidRow.holds Try.pinned (OpenSpec.ofChange fnExactLinkValidWrong)

/-- 'laws.FnExactWindowAt': WHATEVER THE INPUT: true; the input reads as it did. -/
def fnExactWindowAtSpec : ChangeSpec := { name := "fnExactWindowAt", fn := fun _ => fun
  | [d1, d2, d3] => { results := [.lit (.bool true)], args := [d1, d2, d3] }
  | _ => none }
def fnExactWindowAtRow : OpenClaim := { program := "ytenbpaoelipifaa", sum := "ca84f702a68f71d4cc18553596ff045c8f3e749eb749ba81aab88685f218aa32", func := "loop.example/sepkernel/laws.FnExactWindowAt", spec := "fnExactWindowAt", unfollowed := true, recurses := true, apart := false }
def FnExactWindowAtSaid : Prop := fnExactWindowAtRow.holds Try.pinned (OpenSpec.ofChange fnExactWindowAtSpec)

/-- ITS FALSE NEIGHBOUR: 'it returns false'. Refute it at one input. -/
def fnExactWindowAtWrong : ChangeSpec := { name := "fnExactWindowAt", fn := fun _ => fun
  | [d1, d2, d3] => { results := [.lit (.bool false)], args := [d1, d2, d3] }
  | _ => none }
def FnExactWindowAtWrongFalsely : Prop := fnExactWindowAtRow.holds Try.pinned (OpenSpec.ofChange fnExactWindowAtWrong)

/-- 'laws.FnExactLinkNext': WHATEVER THE INPUT: true; the input reads as it did. -/
def fnExactLinkNextSpec : ChangeSpec := { name := "fnExactLinkNext", fn := fun _ => fun
  | [d] => { results := [.lit (.bool true)], args := [d] }
  | _ => none }
def fnExactLinkNextRow : OpenClaim := { program := "ytenbpaoelipifaa", sum := "ca84f702a68f71d4cc18553596ff045c8f3e749eb749ba81aab88685f218aa32", func := "loop.example/sepkernel/laws.FnExactLinkNext", spec := "fnExactLinkNext", apart := false }
def FnExactLinkNextSaid : Prop := fnExactLinkNextRow.holds Try.pinned (OpenSpec.ofChange fnExactLinkNextSpec)

/-- ITS FALSE NEIGHBOUR: 'it returns false'. Refute it at one input. -/
def fnExactLinkNextWrong : ChangeSpec := { name := "fnExactLinkNext", fn := fun _ => fun
  | [d] => { results := [.lit (.bool false)], args := [d] }
  | _ => none }
def FnExactLinkNextWrongFalsely : Prop := fnExactLinkNextRow.holds Try.pinned (OpenSpec.ofChange fnExactLinkNextWrong)

/-- 'laws.FnExactTransferPart': WHATEVER THE INPUT: true; the input reads as it did. -/
def fnExactTransferPartSpec : ChangeSpec := { name := "fnExactTransferPart", fn := fun _ => fun
  | [d1, d2] => { results := [.lit (.bool true)], args := [d1, d2] }
  | _ => none }
def fnExactTransferPartRow : OpenClaim := { program := "ytenbpaoelipifaa", sum := "ca84f702a68f71d4cc18553596ff045c8f3e749eb749ba81aab88685f218aa32", func := "loop.example/sepkernel/laws.FnExactTransferPart", spec := "fnExactTransferPart", unfollowed := true, recurses := true, apart := false }
def FnExactTransferPartSaid : Prop := fnExactTransferPartRow.holds Try.pinned (OpenSpec.ofChange fnExactTransferPartSpec)

/-- ITS FALSE NEIGHBOUR: 'it returns false'. Refute it at one input. -/
def fnExactTransferPartWrong : ChangeSpec := { name := "fnExactTransferPart", fn := fun _ => fun
  | [d1, d2] => { results := [.lit (.bool false)], args := [d1, d2] }
  | _ => none }
def FnExactTransferPartWrongFalsely : Prop := fnExactTransferPartRow.holds Try.pinned (OpenSpec.ofChange fnExactTransferPartWrong)

/-- 'laws.FnExactTransferAllowed': WHATEVER THE INPUT: true; the input reads as it did. -/
def fnExactTransferAllowedSpec : ChangeSpec := { name := "fnExactTransferAllowed", fn := fun _ => fun
  | [d1, d2] => { results := [.lit (.bool true)], args := [d1, d2] }
  | _ => none }
def fnExactTransferAllowedRow : OpenClaim := { program := "ytenbpaoelipifaa", sum := "ca84f702a68f71d4cc18553596ff045c8f3e749eb749ba81aab88685f218aa32", func := "loop.example/sepkernel/laws.FnExactTransferAllowed", spec := "fnExactTransferAllowed", unfollowed := true, recurses := true, apart := false }
def FnExactTransferAllowedSaid : Prop := fnExactTransferAllowedRow.holds Try.pinned (OpenSpec.ofChange fnExactTransferAllowedSpec)

/-- ITS FALSE NEIGHBOUR: 'it returns false'. Refute it at one input. -/
def fnExactTransferAllowedWrong : ChangeSpec := { name := "fnExactTransferAllowed", fn := fun _ => fun
  | [d1, d2] => { results := [.lit (.bool false)], args := [d1, d2] }
  | _ => none }
def FnExactTransferAllowedWrongFalsely : Prop := fnExactTransferAllowedRow.holds Try.pinned (OpenSpec.ofChange fnExactTransferAllowedWrong)

/-- 'laws.FnExactHoldTake': WHATEVER THE INPUT: true; the input reads as it did. -/
def fnExactHoldTakeSpec : ChangeSpec := { name := "fnExactHoldTake", fn := fun _ => fun
  | [d1, d2, d3] => { results := [.lit (.bool true)], args := [d1, d2, d3] }
  | _ => none }
def fnExactHoldTakeRow : OpenClaim := { program := "ytenbpaoelipifaa", sum := "ca84f702a68f71d4cc18553596ff045c8f3e749eb749ba81aab88685f218aa32", func := "loop.example/sepkernel/laws.FnExactHoldTake", spec := "fnExactHoldTake", unfollowed := true, recurses := true, apart := false }
def FnExactHoldTakeSaid : Prop := fnExactHoldTakeRow.holds Try.pinned (OpenSpec.ofChange fnExactHoldTakeSpec)

/-- ITS FALSE NEIGHBOUR: 'it returns false'. Refute it at one input. -/
def fnExactHoldTakeWrong : ChangeSpec := { name := "fnExactHoldTake", fn := fun _ => fun
  | [d1, d2, d3] => { results := [.lit (.bool false)], args := [d1, d2, d3] }
  | _ => none }
def FnExactHoldTakeWrongFalsely : Prop := fnExactHoldTakeRow.holds Try.pinned (OpenSpec.ofChange fnExactHoldTakeWrong)

/-- 'laws.FnExactLinkRun': WHATEVER THE INPUT: true; the input reads as it did. -/
def fnExactLinkRunSpec : ChangeSpec := { name := "fnExactLinkRun", fn := fun _ => fun
  | [d1, d2] => { results := [.lit (.bool true)], args := [d1, d2] }
  | _ => none }
def fnExactLinkRunRow : OpenClaim := { program := "ytenbpaoelipifaa", sum := "ca84f702a68f71d4cc18553596ff045c8f3e749eb749ba81aab88685f218aa32", func := "loop.example/sepkernel/laws.FnExactLinkRun", spec := "fnExactLinkRun", unfollowed := true, recurses := true, apart := false }
def FnExactLinkRunSaid : Prop := fnExactLinkRunRow.holds Try.pinned (OpenSpec.ofChange fnExactLinkRunSpec)

/-- ITS FALSE NEIGHBOUR: 'it returns false'. Refute it at one input. -/
def fnExactLinkRunWrong : ChangeSpec := { name := "fnExactLinkRun", fn := fun _ => fun
  | [d1, d2] => { results := [.lit (.bool false)], args := [d1, d2] }
  | _ => none }
def FnExactLinkRunWrongFalsely : Prop := fnExactLinkRunRow.holds Try.pinned (OpenSpec.ofChange fnExactLinkRunWrong)

/-- 'laws.FnExactLinkSend': WHATEVER THE INPUT: true; the input reads as it did. -/
def fnExactLinkSendSpec : ChangeSpec := { name := "fnExactLinkSend", fn := fun _ => fun
  | [d1, d2, d3] => { results := [.lit (.bool true)], args := [d1, d2, d3] }
  | _ => none }
def fnExactLinkSendRow : OpenClaim := { program := "ytenbpaoelipifaa", sum := "ca84f702a68f71d4cc18553596ff045c8f3e749eb749ba81aab88685f218aa32", func := "loop.example/sepkernel/laws.FnExactLinkSend", spec := "fnExactLinkSend", apart := false }
def FnExactLinkSendSaid : Prop := fnExactLinkSendRow.holds Try.pinned (OpenSpec.ofChange fnExactLinkSendSpec)

/-- ITS FALSE NEIGHBOUR: 'it returns false'. Refute it at one input. -/
def fnExactLinkSendWrong : ChangeSpec := { name := "fnExactLinkSend", fn := fun _ => fun
  | [d1, d2, d3] => { results := [.lit (.bool false)], args := [d1, d2, d3] }
  | _ => none }
def FnExactLinkSendWrongFalsely : Prop := fnExactLinkSendRow.holds Try.pinned (OpenSpec.ofChange fnExactLinkSendWrong)

/-- 'laws.FnExactHoldSend': WHATEVER THE INPUT: true; the input reads as it did. -/
def fnExactHoldSendSpec : ChangeSpec := { name := "fnExactHoldSend", fn := fun _ => fun
  | [d1, d2, d3, d4] => { results := [.lit (.bool true)], args := [d1, d2, d3, d4] }
  | _ => none }
def fnExactHoldSendRow : OpenClaim := { program := "ytenbpaoelipifaa", sum := "ca84f702a68f71d4cc18553596ff045c8f3e749eb749ba81aab88685f218aa32", func := "loop.example/sepkernel/laws.FnExactHoldSend", spec := "fnExactHoldSend", unfollowed := true, recurses := true, apart := false }
def FnExactHoldSendSaid : Prop := fnExactHoldSendRow.holds Try.pinned (OpenSpec.ofChange fnExactHoldSendSpec)

/-- ITS FALSE NEIGHBOUR: 'it returns false'. Refute it at one input. -/
def fnExactHoldSendWrong : ChangeSpec := { name := "fnExactHoldSend", fn := fun _ => fun
  | [d1, d2, d3, d4] => { results := [.lit (.bool false)], args := [d1, d2, d3, d4] }
  | _ => none }
def FnExactHoldSendWrongFalsely : Prop := fnExactHoldSendRow.holds Try.pinned (OpenSpec.ofChange fnExactHoldSendWrong)

/-- 'laws.FnExactLinkTake': WHATEVER THE INPUT: true; the input reads as it did. -/
def fnExactLinkTakeSpec : ChangeSpec := { name := "fnExactLinkTake", fn := fun _ => fun
  | [d1, d2] => { results := [.lit (.bool true)], args := [d1, d2] }
  | _ => none }
def fnExactLinkTakeRow : OpenClaim := { program := "ytenbpaoelipifaa", sum := "ca84f702a68f71d4cc18553596ff045c8f3e749eb749ba81aab88685f218aa32", func := "loop.example/sepkernel/laws.FnExactLinkTake", spec := "fnExactLinkTake", apart := false }
def FnExactLinkTakeSaid : Prop := fnExactLinkTakeRow.holds Try.pinned (OpenSpec.ofChange fnExactLinkTakeSpec)

/-- ITS FALSE NEIGHBOUR: 'it returns false'. Refute it at one input. -/
def fnExactLinkTakeWrong : ChangeSpec := { name := "fnExactLinkTake", fn := fun _ => fun
  | [d1, d2] => { results := [.lit (.bool false)], args := [d1, d2] }
  | _ => none }
def FnExactLinkTakeWrongFalsely : Prop := fnExactLinkTakeRow.holds Try.pinned (OpenSpec.ofChange fnExactLinkTakeWrong)

/- THE SECOND FORM. 'bulk': how many values and letters a reading holds, each counted each time it is reached (what is shared counts as often as it is met; a slice's spare places count too). A statement '..UptoSaid' is the law's where the arguments, and the package variables that the reading takes, are together of bulk at most 1048576: NARROWER than '..Said'. Prove '..Said' where nothing that the law and all that it calls make is longer than what came in: it says more and counts as full. Else prove '..UptoSaid'. A law counts once. -/
mutual
def uptoBulk {H : Type} : DataW H → Nat
  | .lit (.string bytes) => bytes.length + 1
  | .lit _ => 1
  | .nil => 1
  | .ptr d => uptoBulk d + 1
  | .slice elems spare => uptoBulkAll elems + uptoBulkAll spare + 1
  | .agg parts => uptoBulkAll parts + 1
  | .iface _ d => uptoBulk d + 1
  | .map entries => uptoBulkEntries entries + 1
  | .held _ => 1
def uptoBulkAll {H : Type} : List (DataW H) → Nat
  | [] => 0
  | d :: r => uptoBulk d + uptoBulkAll r
def uptoBulkEntries {H : Type} : List (Lit × DataW H) → Nat
  | [] => 0
  | x :: r => uptoBulkEntry x + uptoBulkEntries r
def uptoBulkEntry {H : Type} : Lit × DataW H → Nat
  | (.string bytes, d) => bytes.length + uptoBulk d + 1
  | (_, d) => uptoBulk d + 1
 end
def uptoSmall : (H : Type) → List (DataW H) → Bool := fun _ ds => decide (uptoBulkAll ds ≤ 1048576)
def OpenSpec.upto (s : _root_.Go.ChangeSpec) : _root_.Go.OpenSpec := { _root_.Go.OpenSpec.ofChange s with cond := some uptoSmall }

/-- 'laws.FnExactLinkValid', WHERE WHAT IT READS IS OF BULK AT MOST 1048576: true; the input reads as it did. -/
def fnExactLinkValidUptoRow : OpenClaim := { program := "ytenbpaoelipifaa", sum := "ca84f702a68f71d4cc18553596ff045c8f3e749eb749ba81aab88685f218aa32", func := "loop.example/sepkernel/laws.FnExactLinkValid", spec := "fnExactLinkValid", apart := false, narrowed := true }
def FnExactLinkValidUptoSaid : Prop := fnExactLinkValidUptoRow.holds Try.pinned (OpenSpec.upto fnExactLinkValidSpec)

/-- 'laws.FnExactWindowAt', WHERE WHAT IT READS IS OF BULK AT MOST 1048576: true; the input reads as it did. -/
def fnExactWindowAtUptoRow : OpenClaim := { program := "ytenbpaoelipifaa", sum := "ca84f702a68f71d4cc18553596ff045c8f3e749eb749ba81aab88685f218aa32", func := "loop.example/sepkernel/laws.FnExactWindowAt", spec := "fnExactWindowAt", unfollowed := true, recurses := true, apart := false, narrowed := true }
def FnExactWindowAtUptoSaid : Prop := fnExactWindowAtUptoRow.holds Try.pinned (OpenSpec.upto fnExactWindowAtSpec)

/-- 'laws.FnExactLinkNext', WHERE WHAT IT READS IS OF BULK AT MOST 1048576: true; the input reads as it did. -/
def fnExactLinkNextUptoRow : OpenClaim := { program := "ytenbpaoelipifaa", sum := "ca84f702a68f71d4cc18553596ff045c8f3e749eb749ba81aab88685f218aa32", func := "loop.example/sepkernel/laws.FnExactLinkNext", spec := "fnExactLinkNext", apart := false, narrowed := true }
def FnExactLinkNextUptoSaid : Prop := fnExactLinkNextUptoRow.holds Try.pinned (OpenSpec.upto fnExactLinkNextSpec)

/-- 'laws.FnExactTransferPart', WHERE WHAT IT READS IS OF BULK AT MOST 1048576: true; the input reads as it did. -/
def fnExactTransferPartUptoRow : OpenClaim := { program := "ytenbpaoelipifaa", sum := "ca84f702a68f71d4cc18553596ff045c8f3e749eb749ba81aab88685f218aa32", func := "loop.example/sepkernel/laws.FnExactTransferPart", spec := "fnExactTransferPart", unfollowed := true, recurses := true, apart := false, narrowed := true }
def FnExactTransferPartUptoSaid : Prop := fnExactTransferPartUptoRow.holds Try.pinned (OpenSpec.upto fnExactTransferPartSpec)

/-- 'laws.FnExactTransferAllowed', WHERE WHAT IT READS IS OF BULK AT MOST 1048576: true; the input reads as it did. -/
def fnExactTransferAllowedUptoRow : OpenClaim := { program := "ytenbpaoelipifaa", sum := "ca84f702a68f71d4cc18553596ff045c8f3e749eb749ba81aab88685f218aa32", func := "loop.example/sepkernel/laws.FnExactTransferAllowed", spec := "fnExactTransferAllowed", unfollowed := true, recurses := true, apart := false, narrowed := true }
def FnExactTransferAllowedUptoSaid : Prop := fnExactTransferAllowedUptoRow.holds Try.pinned (OpenSpec.upto fnExactTransferAllowedSpec)

/-- 'laws.FnExactHoldTake', WHERE WHAT IT READS IS OF BULK AT MOST 1048576: true; the input reads as it did. -/
def fnExactHoldTakeUptoRow : OpenClaim := { program := "ytenbpaoelipifaa", sum := "ca84f702a68f71d4cc18553596ff045c8f3e749eb749ba81aab88685f218aa32", func := "loop.example/sepkernel/laws.FnExactHoldTake", spec := "fnExactHoldTake", unfollowed := true, recurses := true, apart := false, narrowed := true }
def FnExactHoldTakeUptoSaid : Prop := fnExactHoldTakeUptoRow.holds Try.pinned (OpenSpec.upto fnExactHoldTakeSpec)

/-- 'laws.FnExactLinkRun', WHERE WHAT IT READS IS OF BULK AT MOST 1048576: true; the input reads as it did. -/
def fnExactLinkRunUptoRow : OpenClaim := { program := "ytenbpaoelipifaa", sum := "ca84f702a68f71d4cc18553596ff045c8f3e749eb749ba81aab88685f218aa32", func := "loop.example/sepkernel/laws.FnExactLinkRun", spec := "fnExactLinkRun", unfollowed := true, recurses := true, apart := false, narrowed := true }
def FnExactLinkRunUptoSaid : Prop := fnExactLinkRunUptoRow.holds Try.pinned (OpenSpec.upto fnExactLinkRunSpec)

/-- 'laws.FnExactLinkSend', WHERE WHAT IT READS IS OF BULK AT MOST 1048576: true; the input reads as it did. -/
def fnExactLinkSendUptoRow : OpenClaim := { program := "ytenbpaoelipifaa", sum := "ca84f702a68f71d4cc18553596ff045c8f3e749eb749ba81aab88685f218aa32", func := "loop.example/sepkernel/laws.FnExactLinkSend", spec := "fnExactLinkSend", apart := false, narrowed := true }
def FnExactLinkSendUptoSaid : Prop := fnExactLinkSendUptoRow.holds Try.pinned (OpenSpec.upto fnExactLinkSendSpec)

/-- 'laws.FnExactHoldSend', WHERE WHAT IT READS IS OF BULK AT MOST 1048576: true; the input reads as it did. -/
def fnExactHoldSendUptoRow : OpenClaim := { program := "ytenbpaoelipifaa", sum := "ca84f702a68f71d4cc18553596ff045c8f3e749eb749ba81aab88685f218aa32", func := "loop.example/sepkernel/laws.FnExactHoldSend", spec := "fnExactHoldSend", unfollowed := true, recurses := true, apart := false, narrowed := true }
def FnExactHoldSendUptoSaid : Prop := fnExactHoldSendUptoRow.holds Try.pinned (OpenSpec.upto fnExactHoldSendSpec)

/-- 'laws.FnExactLinkTake', WHERE WHAT IT READS IS OF BULK AT MOST 1048576: true; the input reads as it did. -/
def fnExactLinkTakeUptoRow : OpenClaim := { program := "ytenbpaoelipifaa", sum := "ca84f702a68f71d4cc18553596ff045c8f3e749eb749ba81aab88685f218aa32", func := "loop.example/sepkernel/laws.FnExactLinkTake", spec := "fnExactLinkTake", apart := false, narrowed := true }
def FnExactLinkTakeUptoSaid : Prop := fnExactLinkTakeUptoRow.holds Try.pinned (OpenSpec.upto fnExactLinkTakeSpec)

end Rows
end Go.Proofs.Ytenbpaoelipifaa
