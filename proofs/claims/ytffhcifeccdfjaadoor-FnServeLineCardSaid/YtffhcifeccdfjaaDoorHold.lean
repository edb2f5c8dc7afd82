/- Holds of the kind ChanLast: clone, send, take. -/
import Derived.Test.YtffhcifeccdfjaaDoorHoldV
import Derived.Test.YtffhcifeccdfjaaDoorClip
import Derived.Test.YtffhcifeccdfjaaDoorL1In
import Derived.Deep.RegionWith
import Derived.WalkSpells
namespace Go.Proofs.YtffhcifeccdfjaaDoor
set_option linter.unusedVariables false
set_option linter.unusedSimpArgs false
open Go.RowKit

set_option maxRecDepth 100000 in
theorem clone0_any (b o n c : Nat) (xs : List Int) (hn : n ≤ 1000) (w : World) (hs : Sl w 1 eI (some ⟨b, o, none⟩) n c xs) :
    Calls Tryd.prog 38 #[.slice (some ⟨b, o, none⟩) n c] w (Post SV.v fun s w' => SV.ok w' w.heap.size 1 eI s ∧ s.xs = xs ∧ Below w.heap.size w w') := by
  have hl := Lib.hid hs.len
  have own0 : Own (w.alloc (.cells #[] 3)) w.heap.size 3 1 eI _ ([] : List Int) := Own.of_blk (Blk.new w 3 #[]) (Nat.le_refl _) encI (by simp [maxLen])
  have hB0 := alo (Below.refl w.heap.size w) (.cells #[] 3)
  have src := hs.below hB0
  have hlen : n ≤ 100000000 := by omega
  have heq : (binOp .eql 34 (.slice (some ⟨b, o, none⟩) n c) (.slice none 0 0)).run Tryd.prog w = .ok (.bool false) w := by kernel_rfl
  go_enter Tryd.func38, Tryd.ntmps38
  go_wp2_with (at_builtin; refine app_own rfl _ _ appInt rfl encI w.heap.size _ [] rfl own0 _ _ _ xs rfl (fun e => by cases e) src (by simp; omega) hB0.size ?_; intro v5 w5 own5 hg5; have hB5 := belowApp hB0 own0 hg5 (Nat.le_refl _) hB0.size; clear hg5 own0 hB0 src; simp only [List.nil_append] at own5)
  obtain ⟨A9, c9, rfl, hA9, hsl9, hfr9⟩ := own5.sl encI
  go_ret
  exact ⟨⟨A9, _, c9, xs⟩, rfl, ⟨hsl9, fun g o e => (hfr9 g o e).1, hA9.1, hA9.2⟩, rfl, hB5⟩
theorem clone_any (b o n c : Nat) (xs : List Int) (hn : n ≤ 1000) (w : World) (hs : Sl w 1 eI (some ⟨b, o, none⟩) n c xs) :
    Calls Tryd.prog 27 #[.slice (some ⟨b, o, none⟩) n c] w (Post SV.v fun s w' => SV.ok w' w.heap.size 1 eI s ∧ s.xs = xs ∧ Below w.heap.size w w') := by
  have h1 := clone0_any b o n c xs hn w hs
  go_enter Tryd.func27, Tryd.ntmps27
  go_wp2_with fail
  refine h1.mono ?_
  rintro e w1 ⟨⟨A9, n9, c9, l9⟩, rfl, ⟨hsl9, hfr9, hnil9, hspot9⟩, hl9, hb9⟩
  simp only [SV.v] at hsl9 hl9 hfr9 hnil9 hspot9 ⊢
  have hle9 := hsl9.le
  have hmax9 := hsl9.max
  have hc := clipInt_any A9 n9 c9 hle9 hmax9 hnil9
  clear h1
  go_wp2_with fail
  refine (hc _).mono ?_
  rintro e w' ⟨rfl, rfl⟩
  go_wp2
  go_ret
  exact ⟨⟨A9, n9, n9, l9⟩, rfl, ⟨⟨hsl9.len, Nat.le_refl _, Nat.le_trans hle9 hmax9, hsl9.cells⟩, hfr9, fun e => (by have := hnil9 e; simp only [] at *; omega), hspot9⟩, hl9, hb9⟩
theorem okSetH {α : Type} {W : World} {base base' k g : Nat} {enc : α → List Value} {s : SV α} (h : SV.ok W base k enc s) (hg : g < base) (hb : base' ≤ base) (u : Value) : SV.ok (W.setCell ⟨g, 0, none⟩ u) base' k enc s :=
  ⟨h.sl.keep (by simp [World.setCell]) (fun b o e => Below.heap_setCell _ _ _ _ (by have := h.fresh b o e; simp only []; omega)), fun b o e => Nat.le_trans hb (h.fresh b o e), h.nil, h.spot⟩
def hdV (x : SV Int × Int) : Value := .tuple #[.agg #[x.1.v], .int .i64 x.2]
end Go.Proofs.YtffhcifeccdfjaaDoor