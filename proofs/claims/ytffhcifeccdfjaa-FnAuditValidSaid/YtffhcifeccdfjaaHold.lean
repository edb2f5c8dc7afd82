/- Holds of the kind ChanLast: clone, send, take. -/
import Derived.Test.YtffhcifeccdfjaaHoldV
import Derived.Test.YtffhcifeccdfjaaClip
import Derived.Test.YtffhcifeccdfjaaL1In
import Derived.Deep.RegionWith
import Derived.WalkSpells
namespace Go.Proofs.Ytffhcifeccdfjaa
set_option linter.unusedVariables false
set_option linter.unusedSimpArgs false
open Go.RowKit

set_option maxRecDepth 100000 in
theorem clone0_any (b o n c : Nat) (xs : List Int) (hn : n ≤ 1000) (w : World) (hs : Sl w 1 eI (some ⟨b, o, none⟩) n c xs) :
    Calls Try.prog 106 #[.slice (some ⟨b, o, none⟩) n c] w (Post SV.v fun s w' => SV.ok w' w.heap.size 1 eI s ∧ s.xs = xs ∧ Below w.heap.size w w') := by
  have hl := Lib.hid hs.len
  have own0 : Own (w.alloc (.cells #[] 3)) w.heap.size 3 1 eI _ ([] : List Int) := Own.of_blk (Blk.new w 3 #[]) (Nat.le_refl _) encI (by simp [maxLen])
  have hB0 := alo (Below.refl w.heap.size w) (.cells #[] 3)
  have src := hs.below hB0
  have hlen : n ≤ 100000000 := by omega
  have heq : (binOp .eql 38 (.slice (some ⟨b, o, none⟩) n c) (.slice none 0 0)).run Try.prog w = .ok (.bool false) w := by kernel_rfl
  go_enter Try.func106, Try.ntmps106
  go_wp2_with (at_builtin; refine app_own rfl _ _ appInt rfl encI w.heap.size _ [] rfl own0 _ _ _ xs rfl (fun e => by cases e) src (by simp; omega) hB0.size ?_; intro v5 w5 own5 hg5; have hB5 := belowApp hB0 own0 hg5 (Nat.le_refl _) hB0.size; clear hg5 own0 hB0 src; simp only [List.nil_append] at own5)
  obtain ⟨A9, c9, rfl, hA9, hsl9, hfr9⟩ := own5.sl encI
  go_ret
  exact ⟨⟨A9, _, c9, xs⟩, rfl, ⟨hsl9, fun g o e => (hfr9 g o e).1, hA9.1, hA9.2⟩, rfl, hB5⟩
theorem clone_any (b o n c : Nat) (xs : List Int) (hn : n ≤ 1000) (w : World) (hs : Sl w 1 eI (some ⟨b, o, none⟩) n c xs) :
    Calls Try.prog 98 #[.slice (some ⟨b, o, none⟩) n c] w (Post SV.v fun s w' => SV.ok w' w.heap.size 1 eI s ∧ s.xs = xs ∧ Below w.heap.size w w') := by
  have h1 := clone0_any b o n c xs hn w hs
  go_enter Try.func98, Try.ntmps98
  go_wp2_with fail
  refine h1.mono ?_
  rintro e w1 ⟨⟨A9, n9, c9, l9⟩, rfl, ⟨hsl9, hfr9, hnil9, hspot9⟩, hl9, hb9⟩
  simp only [SV.v] at hsl9 hl9 hfr9 hnil9 hspot9 ⊢
  have hle9 := hsl9.le
  have hmax9 := hsl9.max
  have hc := clipInt_any A9 n9 c9 hle9 hmax9 hnil9
  clear h1
  go_wp2_with fail
  refine (hc _).mono ?_
  rintro e w' ⟨rfl, rfl⟩
  go_wp2
  go_ret
  exact ⟨⟨A9, n9, n9, l9⟩, rfl, ⟨⟨hsl9.len, Nat.le_refl _, Nat.le_trans hle9 hmax9, hsl9.cells⟩, hfr9, fun e => (by have := hnil9 e; simp only [] at *; omega), hspot9⟩, hl9, hb9⟩
theorem okSetH {α : Type} {W : World} {base base' k g : Nat} {enc : α → List Value} {s : SV α} (h : SV.ok W base k enc s) (hg : g < base) (hb : base' ≤ base) (u : Value) : SV.ok (W.setCell ⟨g, 0, none⟩ u) base' k enc s :=
  ⟨h.sl.keep (by simp [World.setCell]) (fun b o e => Below.heap_setCell _ _ _ _ (by have := h.fresh b o e; simp only []; omega)), fun b o e => Nat.le_trans hb (h.fresh b o e), h.nil, h.spot⟩
def hdV (x : SV Int × Int) : Value := .tuple #[.agg #[x.1.v], .int .i64 x.2]
set_option maxRecDepth 100000 in
set_option maxHeartbeats 4000000 in
theorem takeLast_any (b o n c : Nat) (xs : List Int) (x0 : Int) (hn : 0 < n ∧ n ≤ 1000) (h0 : xs[0]? = some x0) (w : World) (hs : Sl w 1 eI (some ⟨b, o, none⟩) n c xs) :
    Calls Try.prog 74 #[.agg #[.slice (some ⟨b, o, none⟩) n c], .int .i64 1] w (Post hdV fun x w' => SV.ok w' w.heap.size 1 eI x.1 ∧ x.1.xs = xs ∧ x.2 = x0 ∧ Below w.heap.size w w') := by
  have hle := hs.le
  have hmax := hs.max
  obtain ⟨hn0, hn1⟩ := hn
  have hb0 := alo (alo (Below.refl w.heap.size w) (.cells #[.slice (some ⟨b, o, none⟩) n c] 63)) (.cells #[.slice none 0 0] 63)
  obtain ⟨b1, o1, hA1, hbw, _⟩ := hs.cells hn0
  obtain ⟨rfl, rfl⟩ : b = b1 ∧ o = o1 := by injection hA1 with hA1; injection hA1 with h1 h2; exact ⟨h1, h2⟩
  have hne1 : ¬ b = w.heap.size + 1 := by omega
  have hne2 : ¬ b = w.heap.size := by omega
  obtain ⟨b', o', hA, y, hy, hc⟩ := hs.nth (kk := 0) hn0 hb0
  obtain ⟨rfl, rfl⟩ : b = b' ∧ o = o' := by injection hA with hA; injection hA with h1 h2; exact ⟨h1, h2⟩
  obtain rfl : y = x0 := by rw [h0] at hy; injection hy with e; exact e.symm
  have q0 := hc 0 _ rfl
  simp only [eI, Nat.add_zero, Nat.mul_one, Nat.zero_mul] at q0
  have hbl := World.block_lt_of_cell? _ _ q0
  have hnz : ((n : Int) == 0) = false := by rw [beq_eq_false_iff_ne]; omega
  have hcl := fun W hW => clone_any b o n c xs hn1 W (hs.below hW)
  have B2 := (Blk.new w 63 #[.slice (some ⟨b, o, none⟩) n c]).alloc (.cells #[.slice none 0 0] 63)
  have B4 := Blk.new2 w (.cells #[.slice (some ⟨b, o, none⟩) n c] 63) 63 #[.slice none 0 0]
  clear hc h0 hy hA hs
  skip
  skip
  have cB2_0 := B2.c0; have fB2 := B2.frozen; have cB4_0 := B4.c0; have fB4 := B4.frozen
  go_enter Try.func74, Try.ntmps74
  go_wp2_with fail
  have hz0 : w.heap.size + 1 < ((w.alloc (.cells #[.slice (some ⟨b, o, none⟩) n c] 63)).alloc (.cells #[.slice none 0 0] 63)).heap.size := by simp
  generalize hW0 : (w.alloc (.cells #[.slice (some ⟨b, o, none⟩) n c] 63)).alloc (.cells #[.slice none 0 0] 63) = W0 at *
  clear hW0
  go_region_with (go_at_call 98; refine (hcl _ (by repeat (first | exact hb0 | apply Below.drew))).mono ?_; rintro e w1 ⟨⟨A9, n9, c9, l9⟩, rfl, hok9, hl9, hb9⟩; have q1 := (hb9.cell (p := ⟨b, o, none⟩) hbl).trans q0; have B2x := Blk.belowOf B2 hb9 (by repeat (first | exact B2 | apply Blk.drew)); have B4x := Blk.belowOf B4 hb9 (by repeat (first | exact B4 | apply Blk.drew)); have hbx := thn hb0.drew hb9; have cB2x := B2x.c0; have cB4x := B4x.c0; have fB4x := B4x.frozen; simp only [SV.v] at hok9 hl9 ⊢)
  all_goals
    go_wp2
    exact bodyPost_ret (v := hdV (⟨A9, n9, c9, l9⟩, y)) (by simp [results, Try.results74, go_sem, hdV, SV.v, cB4x]) rfl ⟨(⟨A9, n9, c9, l9⟩, y), rfl, okSetH hok9 hz0 (Nat.le_of_lt (Nat.lt_of_succ_lt hz0)) _, hl9, rfl, Below.setCell hbx (by simp only []; omega) _⟩
end Go.Proofs.Ytffhcifeccdfjaa
