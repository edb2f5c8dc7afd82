/-
  No cell of these rows narrows 'for every input' (looked for: loops, veiled, ifaces, maps, wideKeys, modest, calm, conditions, laid).
  DERIVED. THE GIVEN ROWS OF THIS SEAT. 12 by the template 'for every input the law returns true; each argument reads behind the call as it read before'; 0 by the template 'total and deterministic' (their statements: YtmlodhogfejdjaaTotals.lean).
  GIVEN WITH THE SEED: the statements are not yours to turn. If you find one false, say at which input.
  Laid BY PROGRAM, IN A SANDBOX (cutbox-rows.mjs): the forced cells as the released guide's own fill.sh prints them over the translation c9cffb92d9458094… (all of the seat's roots in one cut). By AI agents, Wed Nov 11 2026. No macro, syntax, notation, axiom, sorry.
-/
import Derived.Test.YtmlodhogfejdjaaChecked
import GoSem.Claim
import GoSem.ClaimJoined
import GoSem.ClaimMapViews
import Derived.JoinedTies
import Derived.KernelRfl
namespace Go.Proofs.Ytmlodhogfejdjaa
/- THE CELL 'sum', in the pinned program and in every row, IS THE sha256 OF THE DUMP (.gsa) THAT YtmlodhogfejdjaaProg.lean LOADS. Nothing in Lean hashes anything: it is a label: what it is worth is what the hold of that sum in a sandbox is worth. -/
noncomputable def Try.pinned : Pinned := { name := "ytmlodhogfejdjaa", sum := "c9cffb92d9458094c8c731d79916f32054afc39d133a410ad464ef3ab92e3049", checked := Try.checked }
namespace Rows
def none {H : Type} : Left H := { results := [], args := [] }

/-- 'laws.FnSlotsValid': WHATEVER THE INPUT: true; the input reads as it did. -/
def fnSlotsValidSpec : ChangeSpec := { name := "fnSlotsValid", fn := fun _ => fun
  | [d] => { results := [.lit (.bool true)], args := [d] }
  | _ => none }
def fnSlotsValidRow : OpenClaim := { program := "ytmlodhogfejdjaa", sum := "c9cffb92d9458094c8c731d79916f32054afc39d133a410ad464ef3ab92e3049", func := "loop.example/sepkernel/laws.FnSlotsValid", spec := "fnSlotsValid", unfollowed := true, recurses := true, apart := false }
def FnSlotsValidSaid : Prop := fnSlotsValidRow.holds Try.pinned (OpenSpec.ofChange fnSlotsValidSpec)

/-- ITS FALSE NEIGHBOUR: 'it returns false'. Refute it at one input. -/
def fnSlotsValidWrong : ChangeSpec := { name := "fnSlotsValid", fn := fun _ => fun
  | [d] => { results := [.lit (.bool false)], args := [d] }
  | _ => none }
def FnSlotsValidWrongFalsely : Prop := fnSlotsValidRow.holds Try.pinned (OpenSpec.ofChange fnSlotsValidWrong)

/-- 'laws.FnWindowsValid': WHATEVER THE INPUT: true; the input reads as it did. -/
def fnWindowsValidSpec : ChangeSpec := { name := "fnWindowsValid", fn := fun _ => fun
  | [d] => { results := [.lit (.bool true)], args := [d] }
  | _ => none }
def fnWindowsValidRow : OpenClaim := { program := "ytmlodhogfejdjaa", sum := "c9cffb92d9458094c8c731d79916f32054afc39d133a410ad464ef3ab92e3049", func := "loop.example/sepkernel/laws.FnWindowsValid", spec := "fnWindowsValid", unfollowed := true, recurses := true, apart := false }
def FnWindowsValidSaid : Prop := fnWindowsValidRow.holds Try.pinned (OpenSpec.ofChange fnWindowsValidSpec)

/-- ITS FALSE NEIGHBOUR: 'it returns false'. Refute it at one input. -/
def fnWindowsValidWrong : ChangeSpec := { name := "fnWindowsValid", fn := fun _ => fun
  | [d] => { results := [.lit (.bool false)], args := [d] }
  | _ => none }
def FnWindowsValidWrongFalsely : Prop := fnWindowsValidRow.holds Try.pinned (OpenSpec.ofChange fnWindowsValidWrong)

/-- 'laws.FnWindowsMeet': WHATEVER THE INPUT: true; the input reads as it did. -/
def fnWindowsMeetSpec : ChangeSpec := { name := "fnWindowsMeet", fn := fun _ => fun
  | [d] => { results := [.lit (.bool true)], args := [d] }
  | _ => none }
def fnWindowsMeetRow : OpenClaim := { program := "ytmlodhogfejdjaa", sum := "c9cffb92d9458094c8c731d79916f32054afc39d133a410ad464ef3ab92e3049", func := "loop.example/sepkernel/laws.FnWindowsMeet", spec := "fnWindowsMeet", unfollowed := true, recurses := true, apart := false }
def FnWindowsMeetSaid : Prop := fnWindowsMeetRow.holds Try.pinned (OpenSpec.ofChange fnWindowsMeetSpec)

/-- ITS FALSE NEIGHBOUR: 'it returns false'. Refute it at one input. -/
def fnWindowsMeetWrong : ChangeSpec := { name := "fnWindowsMeet", fn := fun _ => fun
  | [d] => { results := [.lit (.bool false)], args := [d] }
  | _ => none }
def FnWindowsMeetWrongFalsely : Prop := fnWindowsMeetRow.holds Try.pinned (OpenSpec.ofChange fnWindowsMeetWrong)

/-- 'laws.FnChannelsValid': WHATEVER THE INPUT: true; the input reads as it did. -/
def fnChannelsValidSpec : ChangeSpec := { name := "fnChannelsValid", fn := fun _ => fun
  | [d] => { results := [.lit (.bool true)], args := [d] }
  | _ => none }
def fnChannelsValidRow : OpenClaim := { program := "ytmlodhogfejdjaa", sum := "c9cffb92d9458094c8c731d79916f32054afc39d133a410ad464ef3ab92e3049", func := "loop.example/sepkernel/laws.FnChannelsValid", spec := "fnChannelsValid", unfollowed := true, recurses := true, apart := false }
def FnChannelsValidSaid : Prop := fnChannelsValidRow.holds Try.pinned (OpenSpec.ofChange fnChannelsValidSpec)

/-- ITS FALSE NEIGHBOUR: 'it returns false'. Refute it at one input. -/
def fnChannelsValidWrong : ChangeSpec := { name := "fnChannelsValid", fn := fun _ => fun
  | [d] => { results := [.lit (.bool false)], args := [d] }
  | _ => none }
def FnChannelsValidWrongFalsely : Prop := fnChannelsValidRow.holds Try.pinned (OpenSpec.ofChange fnChannelsValidWrong)

/-- 'laws.FnWindowAt': WHATEVER THE INPUT: true; the input reads as it did. -/
def fnWindowAtSpec : ChangeSpec := { name := "fnWindowAt", fn := fun _ => fun
  | [d] => { results := [.lit (.bool true)], args := [d] }
  | _ => none }
def fnWindowAtRow : OpenClaim := { program := "ytmlodhogfejdjaa", sum := "c9cffb92d9458094c8c731d79916f32054afc39d133a410ad464ef3ab92e3049", func := "loop.example/sepkernel/laws.FnWindowAt", spec := "fnWindowAt", unfollowed := true, recurses := true, apart := false }
def FnWindowAtSaid : Prop := fnWindowAtRow.holds Try.pinned (OpenSpec.ofChange fnWindowAtSpec)

/-- ITS FALSE NEIGHBOUR: 'it returns false'. Refute it at one input. -/
def fnWindowAtWrong : ChangeSpec := { name := "fnWindowAt", fn := fun _ => fun
  | [d] => { results := [.lit (.bool false)], args := [d] }
  | _ => none }
def FnWindowAtWrongFalsely : Prop := fnWindowAtRow.holds Try.pinned (OpenSpec.ofChange fnWindowAtWrong)

/-- 'laws.FnTransferWindow': WHATEVER THE INPUT: true; the input reads as it did. -/
def fnTransferWindowSpec : ChangeSpec := { name := "fnTransferWindow", fn := fun _ => fun
  | [d] => { results := [.lit (.bool true)], args := [d] }
  | _ => none }
def fnTransferWindowRow : OpenClaim := { program := "ytmlodhogfejdjaa", sum := "c9cffb92d9458094c8c731d79916f32054afc39d133a410ad464ef3ab92e3049", func := "loop.example/sepkernel/laws.FnTransferWindow", spec := "fnTransferWindow", unfollowed := true, recurses := true, apart := false }
def FnTransferWindowSaid : Prop := fnTransferWindowRow.holds Try.pinned (OpenSpec.ofChange fnTransferWindowSpec)

/-- ITS FALSE NEIGHBOUR: 'it returns false'. Refute it at one input. -/
def fnTransferWindowWrong : ChangeSpec := { name := "fnTransferWindow", fn := fun _ => fun
  | [d] => { results := [.lit (.bool false)], args := [d] }
  | _ => none }
def FnTransferWindowWrongFalsely : Prop := fnTransferWindowRow.holds Try.pinned (OpenSpec.ofChange fnTransferWindowWrong)

/-- 'laws.FnPartsValid': WHATEVER THE INPUT: true; the input reads as it did. -/
def fnPartsValidSpec : ChangeSpec := { name := "fnPartsValid", fn := fun _ => fun
  | [d] => { results := [.lit (.bool true)], args := [d] }
  | _ => none }
def fnPartsValidRow : OpenClaim := { program := "ytmlodhogfejdjaa", sum := "c9cffb92d9458094c8c731d79916f32054afc39d133a410ad464ef3ab92e3049", func := "loop.example/sepkernel/laws.FnPartsValid", spec := "fnPartsValid", unfollowed := true, recurses := true, apart := false }
def FnPartsValidSaid : Prop := fnPartsValidRow.holds Try.pinned (OpenSpec.ofChange fnPartsValidSpec)

/-- ITS FALSE NEIGHBOUR: 'it returns false'. Refute it at one input. -/
def fnPartsValidWrong : ChangeSpec := { name := "fnPartsValid", fn := fun _ => fun
  | [d] => { results := [.lit (.bool false)], args := [d] }
  | _ => none }
def FnPartsValidWrongFalsely : Prop := fnPartsValidRow.holds Try.pinned (OpenSpec.ofChange fnPartsValidWrong)

/-- 'laws.FnModesValid': WHATEVER THE INPUT: true; the input reads as it did. -/
def fnModesValidSpec : ChangeSpec := { name := "fnModesValid", fn := fun _ => fun
  | [d] => { results := [.lit (.bool true)], args := [d] }
  | _ => none }
def fnModesValidRow : OpenClaim := { program := "ytmlodhogfejdjaa", sum := "c9cffb92d9458094c8c731d79916f32054afc39d133a410ad464ef3ab92e3049", func := "loop.example/sepkernel/laws.FnModesValid", spec := "fnModesValid", unfollowed := true, recurses := true, apart := false }
def FnModesValidSaid : Prop := fnModesValidRow.holds Try.pinned (OpenSpec.ofChange fnModesValidSpec)

/-- ITS FALSE NEIGHBOUR: 'it returns false'. Refute it at one input. -/
def fnModesValidWrong : ChangeSpec := { name := "fnModesValid", fn := fun _ => fun
  | [d] => { results := [.lit (.bool false)], args := [d] }
  | _ => none }
def FnModesValidWrongFalsely : Prop := fnModesValidRow.holds Try.pinned (OpenSpec.ofChange fnModesValidWrong)

/-- 'laws.FnWindowsClash': WHATEVER THE INPUT: true; the input reads as it did. -/
def fnWindowsClashSpec : ChangeSpec := { name := "fnWindowsClash", fn := fun _ => fun
  | [d] => { results := [.lit (.bool true)], args := [d] }
  | _ => none }
def fnWindowsClashRow : OpenClaim := { program := "ytmlodhogfejdjaa", sum := "c9cffb92d9458094c8c731d79916f32054afc39d133a410ad464ef3ab92e3049", func := "loop.example/sepkernel/laws.FnWindowsClash", spec := "fnWindowsClash", unfollowed := true, recurses := true, apart := false }
def FnWindowsClashSaid : Prop := fnWindowsClashRow.holds Try.pinned (OpenSpec.ofChange fnWindowsClashSpec)

/-- ITS FALSE NEIGHBOUR: 'it returns false'. Refute it at one input. -/
def fnWindowsClashWrong : ChangeSpec := { name := "fnWindowsClash", fn := fun _ => fun
  | [d] => { results := [.lit (.bool false)], args := [d] }
  | _ => none }
def FnWindowsClashWrongFalsely : Prop := fnWindowsClashRow.holds Try.pinned (OpenSpec.ofChange fnWindowsClashWrong)

/-- 'laws.FnWindowsSelf': WHATEVER THE INPUT: true; the input reads as it did. -/
def fnWindowsSelfSpec : ChangeSpec := { name := "fnWindowsSelf", fn := fun _ => fun
  | [d] => { results := [.lit (.bool true)], args := [d] }
  | _ => none }
def fnWindowsSelfRow : OpenClaim := { program := "ytmlodhogfejdjaa", sum := "c9cffb92d9458094c8c731d79916f32054afc39d133a410ad464ef3ab92e3049", func := "loop.example/sepkernel/laws.FnWindowsSelf", spec := "fnWindowsSelf", unfollowed := true, recurses := true, apart := false }
def FnWindowsSelfSaid : Prop := fnWindowsSelfRow.holds Try.pinned (OpenSpec.ofChange fnWindowsSelfSpec)

/-- ITS FALSE NEIGHBOUR: 'it returns false'. Refute it at one input. -/
def fnWindowsSelfWrong : ChangeSpec := { name := "fnWindowsSelf", fn := fun _ => fun
  | [d] => { results := [.lit (.bool false)], args := [d] }
  | _ => none }
def FnWindowsSelfWrongFalsely : Prop := fnWindowsSelfRow.holds Try.pinned (OpenSpec.ofChange fnWindowsSelfWrong)

/-- 'laws.FnWindowsSingle': WHATEVER THE INPUT: true; the input reads as it did. -/
def fnWindowsSingleSpec : ChangeSpec := { name := "fnWindowsSingle", fn := fun _ => fun
  | [d] => { results := [.lit (.bool true)], args := [d] }
  | _ => none }
def fnWindowsSingleRow : OpenClaim := { program := "ytmlodhogfejdjaa", sum := "c9cffb92d9458094c8c731d79916f32054afc39d133a410ad464ef3ab92e3049", func := "loop.example/sepkernel/laws.FnWindowsSingle", spec := "fnWindowsSingle", unfollowed := true, recurses := true, apart := false }
def FnWindowsSingleSaid : Prop := fnWindowsSingleRow.holds Try.pinned (OpenSpec.ofChange fnWindowsSingleSpec)

/-- ITS FALSE NEIGHBOUR: 'it returns false'. Refute it at one input. -/
def fnWindowsSingleWrong : ChangeSpec := { name := "fnWindowsSingle", fn := fun _ => fun
  | [d] => { results := [.lit (.bool false)], args := [d] }
  | _ => none }
def FnWindowsSingleWrongFalsely : Prop := fnWindowsSingleRow.holds Try.pinned (OpenSpec.ofChange fnWindowsSingleWrong)

/-- 'laws.FnPartsSingle': WHATEVER THE INPUT: true; the input reads as it did. -/
def fnPartsSingleSpec : ChangeSpec := { name := "fnPartsSingle", fn := fun _ => fun
  | [d] => { results := [.lit (.bool true)], args := [d] }
  | _ => none }
def fnPartsSingleRow : OpenClaim := { program := "ytmlodhogfejdjaa", sum := "c9cffb92d9458094c8c731d79916f32054afc39d133a410ad464ef3ab92e3049", func := "loop.example/sepkernel/laws.FnPartsSingle", spec := "fnPartsSingle", unfollowed := true, recurses := true, apart := false }
def FnPartsSingleSaid : Prop := fnPartsSingleRow.holds Try.pinned (OpenSpec.ofChange fnPartsSingleSpec)

/-- ITS FALSE NEIGHBOUR: 'it returns false'. Refute it at one input. -/
def fnPartsSingleWrong : ChangeSpec := { name := "fnPartsSingle", fn := fun _ => fun
  | [d] => { results := [.lit (.bool false)], args := [d] }
  | _ => none }
def FnPartsSingleWrongFalsely : Prop := fnPartsSingleRow.holds Try.pinned (OpenSpec.ofChange fnPartsSingleWrong)

/- THE SECOND FORM. 'bulk': how many values and letters a reading holds, each counted each time it is reached (what is shared counts as often as it is met; a slice's spare places count too). A statement '..UptoSaid' is the law's where the arguments, and the package variables that the reading takes, are together of bulk at most 1048576: NARROWER than '..Said'. Prove '..Said' where nothing that the law and all that it calls make is longer than what came in: it says more and counts as full. Else prove '..UptoSaid'. A law counts once. -/
mutual
def uptoBulk {H : Type} : DataW H → Nat
  | .lit (.string bytes) => bytes.length + 1
  | .lit _ => 1
  | .nil => 1
  | .ptr d => uptoBulk d + 1
  | .slice elems spare => uptoBulkAll elems + uptoBulkAll spare + 1
  | .agg parts => uptoBulkAll parts + 1
  | .iface _ d => uptoBulk d + 1
  | .map entries => uptoBulkEntries entries + 1
  | .held _ => 1
def uptoBulkAll {H : Type} : List (DataW H) → Nat
  | [] => 0
  | d :: r => uptoBulk d + uptoBulkAll r
def uptoBulkEntries {H : Type} : List (Lit × DataW H) → Nat
  | [] => 0
  | x :: r => uptoBulkEntry x + uptoBulkEntries r
def uptoBulkEntry {H : Type} : Lit × DataW H → Nat
  | (.string bytes, d) => bytes.length + uptoBulk d + 1
  | (_, d) => uptoBulk d + 1
 end
def uptoSmall : (H : Type) → List (DataW H) → Bool := fun _ ds => decide (uptoBulkAll ds ≤ 1048576)
def OpenSpec.upto (s : _root_.Go.ChangeSpec) : _root_.Go.OpenSpec := { _root_.Go.OpenSpec.ofChange s with cond := some uptoSmall }

/-- 'laws.FnSlotsValid', WHERE WHAT IT READS IS OF BULK AT MOST 1048576: true; the input reads as it did. -/
def fnSlotsValidUptoRow : OpenClaim := { program := "ytmlodhogfejdjaa", sum := "c9cffb92d9458094c8c731d79916f32054afc39d133a410ad464ef3ab92e3049", func := "loop.example/sepkernel/laws.FnSlotsValid", spec := "fnSlotsValid", unfollowed := true, recurses := true, apart := false, narrowed := true }
def FnSlotsValidUptoSaid : Prop := fnSlotsValidUptoRow.holds Try.pinned (OpenSpec.upto fnSlotsValidSpec)

/-- 'laws.FnWindowsValid', WHERE WHAT IT READS IS OF BULK AT MOST 1048576: true; the input reads as it did. -/
def fnWindowsValidUptoRow : OpenClaim := { program := "ytmlodhogfejdjaa", sum := "c9cffb92d9458094c8c731d79916f32054afc39d133a410ad464ef3ab92e3049", func := "loop.example/sepkernel/laws.FnWindowsValid", spec := "fnWindowsValid", unfollowed := true, recurses := true, apart := false, narrowed := true }
def FnWindowsValidUptoSaid : Prop := fnWindowsValidUptoRow.holds Try.pinned (OpenSpec.upto fnWindowsValidSpec)

/-- 'laws.FnWindowsMeet', WHERE WHAT IT READS IS OF BULK AT MOST 1048576: true; the input reads as it did. -/
def fnWindowsMeetUptoRow : OpenClaim := { program := "ytmlodhogfejdjaa", sum := "c9cffb92d9458094c8c731d79916f32054afc39d133a410ad464ef3ab92e3049", func := "loop.example/sepkernel/laws.FnWindowsMeet", spec := "fnWindowsMeet", unfollowed := true, recurses := true, apart := false, narrowed := true }
def FnWindowsMeetUptoSaid : Prop := fnWindowsMeetUptoRow.holds Try.pinned (OpenSpec.upto fnWindowsMeetSpec)

/-- 'laws.FnChannelsValid', WHERE WHAT IT READS IS OF BULK AT MOST 1048576: true; the input reads as it did. -/
def fnChannelsValidUptoRow : OpenClaim := { program := "ytmlodhogfejdjaa", sum := "c9cffb92d9458094c8c731d79916f32054afc39d133a410ad464ef3ab92e3049", func := "loop.example/sepkernel/laws.FnChannelsValid", spec := "fnChannelsValid", unfollowed := true, recurses := true, apart := false, narrowed := true }
def FnChannelsValidUptoSaid : Prop := fnChannelsValidUptoRow.holds Try.pinned (OpenSpec.upto fnChannelsValidSpec)

/-- 'laws.FnWindowAt', WHERE WHAT IT READS IS OF BULK AT MOST 1048576: true; the input reads as it did. -/
def fnWindowAtUptoRow : OpenClaim := { program := "ytmlodhogfejdjaa", sum := "c9cffb92d9458094c8c731d79916f32054afc39d133a410ad464ef3ab92e3049", func := "loop.example/sepkernel/laws.FnWindowAt", spec := "fnWindowAt", unfollowed := true, recurses := true, apart := false, narrowed := true }
def FnWindowAtUptoSaid : Prop := fnWindowAtUptoRow.holds Try.pinned (OpenSpec.upto fnWindowAtSpec)

/-- 'laws.FnTransferWindow', WHERE WHAT IT READS IS OF BULK AT MOST 1048576: true; the input reads as it did. -/
def fnTransferWindowUptoRow : OpenClaim := { program := "ytmlodhogfejdjaa", sum := "c9cffb92d9458094c8c731d79916f32054afc39d133a410ad464ef3ab92e3049", func := "loop.example/sepkernel/laws.FnTransferWindow", spec := "fnTransferWindow", unfollowed := true, recurses := true, apart := false, narrowed := true }
def FnTransferWindowUptoSaid : Prop := fnTransferWindowUptoRow.holds Try.pinned (OpenSpec.upto fnTransferWindowSpec)

/-- 'laws.FnPartsValid', WHERE WHAT IT READS IS OF BULK AT MOST 1048576: true; the input reads as it did. -/
def fnPartsValidUptoRow : OpenClaim := { program := "ytmlodhogfejdjaa", sum := "c9cffb92d9458094c8c731d79916f32054afc39d133a410ad464ef3ab92e3049", func := "loop.example/sepkernel/laws.FnPartsValid", spec := "fnPartsValid", unfollowed := true, recurses := true, apart := false, narrowed := true }
def FnPartsValidUptoSaid : Prop := fnPartsValidUptoRow.holds Try.pinned (OpenSpec.upto fnPartsValidSpec)

/-- 'laws.FnModesValid', WHERE WHAT IT READS IS OF BULK AT MOST 1048576: true; the input reads as it did. -/
def fnModesValidUptoRow : OpenClaim := { program := "ytmlodhogfejdjaa", sum := "c9cffb92d9458094c8c731d79916f32054afc39d133a410ad464ef3ab92e3049", func := "loop.example/sepkernel/laws.FnModesValid", spec := "fnModesValid", unfollowed := true, recurses := true, apart := false, narrowed := true }
def FnModesValidUptoSaid : Prop := fnModesValidUptoRow.holds Try.pinned (OpenSpec.upto fnModesValidSpec)

/-- 'laws.FnWindowsClash', WHERE WHAT IT READS IS OF BULK AT MOST 1048576: true; the input reads as it did. -/
def fnWindowsClashUptoRow : OpenClaim := { program := "ytmlodhogfejdjaa", sum := "c9cffb92d9458094c8c731d79916f32054afc39d133a410ad464ef3ab92e3049", func := "loop.example/sepkernel/laws.FnWindowsClash", spec := "fnWindowsClash", unfollowed := true, recurses := true, apart := false, narrowed := true }
def FnWindowsClashUptoSaid : Prop := fnWindowsClashUptoRow.holds Try.pinned (OpenSpec.upto fnWindowsClashSpec)

/-- 'laws.FnWindowsSelf', WHERE WHAT IT READS IS OF BULK AT MOST 1048576: true; the input reads as it did. -/
def fnWindowsSelfUptoRow : OpenClaim := { program := "ytmlodhogfejdjaa", sum := "c9cffb92d9458094c8c731d79916f32054afc39d133a410ad464ef3ab92e3049", func := "loop.example/sepkernel/laws.FnWindowsSelf", spec := "fnWindowsSelf", unfollowed := true, recurses := true, apart := false, narrowed := true }
def FnWindowsSelfUptoSaid : Prop := fnWindowsSelfUptoRow.holds Try.pinned (OpenSpec.upto fnWindowsSelfSpec)

/-- 'laws.FnWindowsSingle', WHERE WHAT IT READS IS OF BULK AT MOST 1048576: true; the input reads as it did. -/
def fnWindowsSingleUptoRow : OpenClaim := { program := "ytmlodhogfejdjaa", sum := "c9cffb92d9458094c8c731d79916f32054afc39d133a410ad464ef3ab92e3049", func := "loop.example/sepkernel/laws.FnWindowsSingle", spec := "fnWindowsSingle", unfollowed := true, recurses := true, apart := false, narrowed := true }
def FnWindowsSingleUptoSaid : Prop := fnWindowsSingleUptoRow.holds Try.pinned (OpenSpec.upto fnWindowsSingleSpec)

/-- 'laws.FnPartsSingle', WHERE WHAT IT READS IS OF BULK AT MOST 1048576: true; the input reads as it did. -/
def fnPartsSingleUptoRow : OpenClaim := { program := "ytmlodhogfejdjaa", sum := "c9cffb92d9458094c8c731d79916f32054afc39d133a410ad464ef3ab92e3049", func := "loop.example/sepkernel/laws.FnPartsSingle", spec := "fnPartsSingle", unfollowed := true, recurses := true, apart := false, narrowed := true }
def FnPartsSingleUptoSaid : Prop := fnPartsSingleUptoRow.holds Try.pinned (OpenSpec.upto fnPartsSingleSpec)

end Rows
end Go.Proofs.Ytmlodhogfejdjaa
