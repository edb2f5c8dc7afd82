/-
  No cell of these rows narrows 'for every input' (looked for: loops, veiled, ifaces, maps, wideKeys, modest, calm, conditions, laid).
  DERIVED. THE GIVEN ROWS OF THIS SEAT. 4 by the template 'for every input the law returns true; each argument reads behind the call as it read before'; 0 by the template 'total and deterministic' (their statements: YtckgdlgdipfgmaaGreatTotals.lean).
  GIVEN WITH THE SEED: the statements are not yours to turn. If you find one false, say at which input.
  Laid BY PROGRAM, IN A SANDBOX (cutbox-rows.mjs): the forced cells as the released guide's own fill.sh prints them over the translation e519866c33b26816… (all of the seat's roots in one cut). By AI agents, Wed Nov 11 2026. No macro, syntax, notation, axiom, sorry.
-/
import Derived.Test.YtckgdlgdipfgmaaGreatChecked
import GoSem.Claim
import GoSem.ClaimJoined
import GoSem.ClaimMapViews
import Derived.JoinedTies
import Derived.KernelRfl
namespace Go.Proofs.YtckgdlgdipfgmaaGreat
/- THE CELL 'sum', in the pinned program and in every row, IS THE sha256 OF THE DUMP (.gsa) THAT YtckgdlgdipfgmaaGreatProg.lean LOADS. Nothing in Lean hashes anything: it is a label: what it is worth is what the hold of that sum in a sandbox is worth. -/
noncomputable def Tryz.pinned : Pinned := { name := "ytckgdlgdipfgmaagreat", sum := "e519866c33b26816774b1f878e286abeea2fa44ce154a960b501e84ed55a604d", checked := Tryz.checked }
namespace Rows
def none {H : Type} : Left H := { results := [], args := [] }

/-- 'laws.FnExactSameFor': WHATEVER THE INPUT: true; the input reads as it did. -/
def fnExactSameForSpec : ChangeSpec := { name := "fnExactSameFor", fn := fun _ => fun
  | [d1, d2, d3] => { results := [.lit (.bool true)], args := [d1, d2, d3] }
  | _ => none }
def fnExactSameForRow : OpenClaim := { program := "ytckgdlgdipfgmaagreat", sum := "e519866c33b26816774b1f878e286abeea2fa44ce154a960b501e84ed55a604d", func := "loop.example/sepkernel/laws.FnExactSameFor", spec := "fnExactSameFor", unfollowed := true, recurses := true, apart := false }
def FnExactSameForSaid : Prop := fnExactSameForRow.holds Tryz.pinned (OpenSpec.ofChange fnExactSameForSpec)

/-- ITS FALSE NEIGHBOUR: 'it returns false'. Refute it at one input. -/
def fnExactSameForWrong : ChangeSpec := { name := "fnExactSameFor", fn := fun _ => fun
  | [d1, d2, d3] => { results := [.lit (.bool false)], args := [d1, d2, d3] }
  | _ => none }
def FnExactSameForWrongFalsely : Prop := fnExactSameForRow.holds Tryz.pinned (OpenSpec.ofChange fnExactSameForWrong)

/-- 'laws.FnExactSameView': WHATEVER THE INPUT: true; the input reads as it did. -/
def fnExactSameViewSpec : ChangeSpec := { name := "fnExactSameView", fn := fun _ => fun
  | [d1, d2, d3] => { results := [.lit (.bool true)], args := [d1, d2, d3] }
  | _ => none }
def fnExactSameViewRow : OpenClaim := { program := "ytckgdlgdipfgmaagreat", sum := "e519866c33b26816774b1f878e286abeea2fa44ce154a960b501e84ed55a604d", func := "loop.example/sepkernel/laws.FnExactSameView", spec := "fnExactSameView", unfollowed := true, recurses := true, apart := false }
def FnExactSameViewSaid : Prop := fnExactSameViewRow.holds Tryz.pinned (OpenSpec.ofChange fnExactSameViewSpec)

/-- ITS FALSE NEIGHBOUR: 'it returns false'. Refute it at one input. -/
def fnExactSameViewWrong : ChangeSpec := { name := "fnExactSameView", fn := fun _ => fun
  | [d1, d2, d3] => { results := [.lit (.bool false)], args := [d1, d2, d3] }
  | _ => none }
def FnExactSameViewWrongFalsely : Prop := fnExactSameViewRow.holds Tryz.pinned (OpenSpec.ofChange fnExactSameViewWrong)

/-- 'laws.FnExactViewOf': WHATEVER THE INPUT: true; the input reads as it did. -/
def fnExactViewOfSpec : ChangeSpec := { name := "fnExactViewOf", fn := fun _ => fun
  | [d1, d2] => { results := [.lit (.bool true)], args := [d1, d2] }
  | _ => none }
def fnExactViewOfRow : OpenClaim := { program := "ytckgdlgdipfgmaagreat", sum := "e519866c33b26816774b1f878e286abeea2fa44ce154a960b501e84ed55a604d", func := "loop.example/sepkernel/laws.FnExactViewOf", spec := "fnExactViewOf", unfollowed := true, recurses := true, apart := false }
def FnExactViewOfSaid : Prop := fnExactViewOfRow.holds Tryz.pinned (OpenSpec.ofChange fnExactViewOfSpec)

/-- ITS FALSE NEIGHBOUR: 'it returns false'. Refute it at one input. -/
def fnExactViewOfWrong : ChangeSpec := { name := "fnExactViewOf", fn := fun _ => fun
  | [d1, d2] => { results := [.lit (.bool false)], args := [d1, d2] }
  | _ => none }
def FnExactViewOfWrongFalsely : Prop := fnExactViewOfRow.holds Tryz.pinned (OpenSpec.ofChange fnExactViewOfWrong)

/-- 'laws.FnExactWatchValid': WHATEVER THE INPUT: true; the input reads as it did. -/
def fnExactWatchValidSpec : ChangeSpec := { name := "fnExactWatchValid", fn := fun _ => fun
  | [d] => { results := [.lit (.bool true)], args := [d] }
  | _ => none }
def fnExactWatchValidRow : OpenClaim := { program := "ytckgdlgdipfgmaagreat", sum := "e519866c33b26816774b1f878e286abeea2fa44ce154a960b501e84ed55a604d", func := "loop.example/sepkernel/laws.FnExactWatchValid", spec := "fnExactWatchValid", unfollowed := true, recurses := true, apart := false }
def FnExactWatchValidSaid : Prop := fnExactWatchValidRow.holds Tryz.pinned (OpenSpec.ofChange fnExactWatchValidSpec)

/-- ITS FALSE NEIGHBOUR: 'it returns false'. Refute it at one input. -/
def fnExactWatchValidWrong : ChangeSpec := { name := "fnExactWatchValid", fn := fun _ => fun
  | [d] => { results := [.lit (.bool false)], args := [d] }
  | _ => none }
def FnExactWatchValidWrongFalsely : Prop := fnExactWatchValidRow.holds Tryz.pinned (OpenSpec.ofChange fnExactWatchValidWrong)

/- THE SECOND FORM. 'bulk': how many values and letters a reading holds, each counted each time it is reached (what is shared counts as often as it is met; a slice's spare places count too). A statement '..UptoSaid' is the law's where the arguments, and the package variables that the reading takes, are together of bulk at most 1048576: NARROWER than '..Said'. Prove '..Said' where nothing that the law and all that it calls make is longer than what came in: it says more and counts as full. Else prove '..UptoSaid'. A law counts once. -/
mutual
def uptoBulk {H : Type} : DataW H → Nat
  | .lit (.string bytes) => bytes.length + 1
  | .lit _ => 1
  | .nil => 1
  | .ptr d => uptoBulk d + 1
  | .slice elems spare => uptoBulkAll elems + uptoBulkAll spare + 1
  | .agg parts => uptoBulkAll parts + 1
  | .iface _ d => uptoBulk d + 1
  | .map entries => uptoBulkEntries entries + 1
  | .held _ => 1
def uptoBulkAll {H : Type} : List (DataW H) → Nat
  | [] => 0
  | d :: r => uptoBulk d + uptoBulkAll r
def uptoBulkEntries {H : Type} : List (Lit × DataW H) → Nat
  | [] => 0
  | x :: r => uptoBulkEntry x + uptoBulkEntries r
def uptoBulkEntry {H : Type} : Lit × DataW H → Nat
  | (.string bytes, d) => bytes.length + uptoBulk d + 1
  | (_, d) => uptoBulk d + 1
 end
def uptoSmall : (H : Type) → List (DataW H) → Bool := fun _ ds => decide (uptoBulkAll ds ≤ 1048576)
def OpenSpec.upto (s : _root_.Go.ChangeSpec) : _root_.Go.OpenSpec := { _root_.Go.OpenSpec.ofChange s with cond := some uptoSmall }

/-- 'laws.FnExactSameFor', WHERE WHAT IT READS IS OF BULK AT MOST 1048576: true; the input reads as it did. -/
def fnExactSameForUptoRow : OpenClaim := { program := "ytckgdlgdipfgmaagreat", sum := "e519866c33b26816774b1f878e286abeea2fa44ce154a960b501e84ed55a604d", func := "loop.example/sepkernel/laws.FnExactSameFor", spec := "fnExactSameFor", unfollowed := true, recurses := true, apart := false, narrowed := true }
def FnExactSameForUptoSaid : Prop := fnExactSameForUptoRow.holds Tryz.pinned (OpenSpec.upto fnExactSameForSpec)

/-- 'laws.FnExactSameView', WHERE WHAT IT READS IS OF BULK AT MOST 1048576: true; the input reads as it did. -/
def fnExactSameViewUptoRow : OpenClaim := { program := "ytckgdlgdipfgmaagreat", sum := "e519866c33b26816774b1f878e286abeea2fa44ce154a960b501e84ed55a604d", func := "loop.example/sepkernel/laws.FnExactSameView", spec := "fnExactSameView", unfollowed := true, recurses := true, apart := false, narrowed := true }
def FnExactSameViewUptoSaid : Prop := fnExactSameViewUptoRow.holds Tryz.pinned (OpenSpec.upto fnExactSameViewSpec)

/-- 'laws.FnExactViewOf', WHERE WHAT IT READS IS OF BULK AT MOST 1048576: true; the input reads as it did. -/
def fnExactViewOfUptoRow : OpenClaim := { program := "ytckgdlgdipfgmaagreat", sum := "e519866c33b26816774b1f878e286abeea2fa44ce154a960b501e84ed55a604d", func := "loop.example/sepkernel/laws.FnExactViewOf", spec := "fnExactViewOf", unfollowed := true, recurses := true, apart := false, narrowed := true }
def FnExactViewOfUptoSaid : Prop := fnExactViewOfUptoRow.holds Tryz.pinned (OpenSpec.upto fnExactViewOfSpec)

/-- 'laws.FnExactWatchValid', WHERE WHAT IT READS IS OF BULK AT MOST 1048576: true; the input reads as it did. -/
def fnExactWatchValidUptoRow : OpenClaim := { program := "ytckgdlgdipfgmaagreat", sum := "e519866c33b26816774b1f878e286abeea2fa44ce154a960b501e84ed55a604d", func := "loop.example/sepkernel/laws.FnExactWatchValid", spec := "fnExactWatchValid", unfollowed := true, recurses := true, apart := false, narrowed := true }
def FnExactWatchValidUptoSaid : Prop := fnExactWatchValidUptoRow.holds Tryz.pinned (OpenSpec.upto fnExactWatchValidSpec)

end Rows
end Go.Proofs.YtckgdlgdipfgmaaGreat
