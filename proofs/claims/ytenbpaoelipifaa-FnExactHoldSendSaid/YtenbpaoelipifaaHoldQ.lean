/- HoldTake of impl, whole. -/
import Derived.Test.YtenbpaoelipifaaHoldL
namespace Go.Proofs.Ytenbpaoelipifaa
set_option linter.unusedVariables false
set_option linter.unusedSimpArgs false
open Go.RowKit

/-- What is left behind a take, and the message. -/
def takeL (kind : Int) (xs : List Int) : List Int × Int := match xs with
  | [] => ([], -1)
  | y :: l => (if kind = 1 then y :: l else l, y)
set_option maxRecDepth 100000 in
set_option maxHeartbeats 4000000 in
theorem takeQueue_any (b o n c : Nat) (xs : List Int) (x0 kind : Int) (hk : (kind == (1 : Int)) = false) (hn : 0 < n ∧ n ≤ 1000) (h0 : xs[0]? = some x0) (w : World) (hs : Sl w 1 eI (some ⟨b, o, none⟩) n c xs) :
    Calls Try.prog 71 #[.agg #[.slice (some ⟨b, o, none⟩) n c], .int .i64 kind] w (Post hdV fun x w' => SV.ok w' w.heap.size 1 eI x.1 ∧ x.1.xs = xs.drop 1 ∧ x.2 = x0 ∧ Below w.heap.size w w') := by
  have hle := hs.le
  have hmax := hs.max
  obtain ⟨hn0, hn1⟩ := hn
  have hb0 := alo (alo (Below.refl w.heap.size w) (.cells #[.slice (some ⟨b, o, none⟩) n c] 52)) (.cells #[.slice none 0 0] 52)
  obtain ⟨b1, o1, hA1, hbw, _⟩ := hs.cells hn0
  obtain ⟨rfl, rfl⟩ : b = b1 ∧ o = o1 := by injection hA1 with hA1; injection hA1 with h1 h2; exact ⟨h1, h2⟩
  have hne1 : ¬ b = w.heap.size + 1 := by omega
  have hne2 : ¬ b = w.heap.size := by omega
  obtain ⟨b', o', hA, y, hy, hc⟩ := hs.nth (kk := 0) hn0 hb0
  obtain ⟨rfl, rfl⟩ : b = b' ∧ o = o' := by injection hA with hA; injection hA with h1 h2; exact ⟨h1, h2⟩
  obtain rfl : y = x0 := by rw [h0] at hy; injection hy with e; exact e.symm
  have q0 := hc 0 _ rfl
  simp only [eI, Nat.add_zero, Nat.mul_one, Nat.zero_mul] at q0
  have hbl := World.block_lt_of_cell? _ _ q0
  have hnz : ((n : Int) == 0) = false := by rw [beq_eq_false_iff_ne]; omega
  have hn2 : 1 ≤ n := hn0
  have hn3 : (1 : Int) ≤ (n : Int) := by omega
  have B2 := (Blk.new w 52 #[.slice (some ⟨b, o, none⟩) n c]).alloc (.cells #[.slice none 0 0] 52)
  have B4 := Blk.new2 w (.cells #[.slice (some ⟨b, o, none⟩) n c] 52) 52 #[.slice none 0 0]
  have hz0 : w.heap.size + 1 < ((w.alloc (.cells #[.slice (some ⟨b, o, none⟩) n c] 52)).alloc (.cells #[.slice none 0 0] 52)).heap.size := by simp
  have hd := hs.from1 1 hn2
  simp only [Option.map_some, Addr.add_lit] at hd
  have hcl : ∃ bb oo, (if c = 1 then some (⟨b, o, none⟩ : Addr) else some ⟨b, o + 1, none⟩) = some ⟨bb, oo, none⟩ := by split <;> exact ⟨_, _, rfl⟩
  obtain ⟨bb, oo, hbb⟩ := hcl
  rw [hbb] at hd
  have hcl := fun W hW => clone_any bb oo (n - 1) (c - 1) (xs.drop 1) (by omega) W (hd.below hW)
  clear hc h0 hy hA hs hd hA1
  skip
  skip
  have cB2_0 := B2.c0; have fB2 := B2.frozen; have cB4_0 := B4.c0; have fB4 := B4.frozen
  by_cases hc1 : c = 1
  · rw [if_pos hc1] at hbb
    obtain ⟨rfl, rfl⟩ : b = bb ∧ o = oo := by injection hbb with hbb; injection hbb with h1 h2; exact ⟨h1, h2⟩
    obtain rfl : c = 1 := hc1
    obtain rfl : n = 1 := by omega
    clear hbb hn0 hn1 hn2 hn3 hnz
    go_enter Try.func71, Try.ntmps71
    go_wp2_with fail
    generalize hW0 : (w.alloc (.cells #[.slice (some ⟨b, o, none⟩) 1 1] 52)).alloc (.cells #[.slice none 0 0] 52) = W0 at *
    clear hW0
    go_region_with (go_at_call 90; refine (hcl _ (by repeat (first | exact hb0 | apply Below.drew))).mono ?_; rintro e w1 ⟨⟨A9, n9, c9, l9⟩, rfl, hok9, hl9, hb9⟩; have q1 := (hb9.cell (p := ⟨b, o, none⟩) hbl).trans q0; have B2x := Blk.belowOf B2 hb9 (by repeat (first | exact B2 | apply Blk.drew)); have B4x := Blk.belowOf B4 hb9 (by repeat (first | exact B4 | apply Blk.drew)); have hbx := thn hb0.drew hb9; have cB2x := B2x.c0; have cB4x := B4x.c0; have fB4x := B4x.frozen; simp only [SV.v] at hok9 hl9 ⊢)
    all_goals
      go_wp2
      exact bodyPost_ret (v := hdV (⟨A9, n9, c9, l9⟩, y)) (by simp [results, Try.results71, go_sem, hdV, SV.v, cB4x]) rfl ⟨(⟨A9, n9, c9, l9⟩, y), rfl, okSetH hok9 hz0 (Nat.le_of_lt (Nat.lt_of_succ_lt hz0)) _, hl9, rfl, Below.setCell hbx (by simp only []; omega) _⟩
  · rw [if_neg hc1] at hbb
    obtain ⟨rfl, rfl⟩ : b = bb ∧ o + 1 = oo := by injection hbb with hbb; injection hbb with h1 h2; exact ⟨h1, h2⟩
    clear hbb
    go_enter Try.func71, Try.ntmps71
    go_wp2_with fail
    generalize hW0 : (w.alloc (.cells #[.slice (some ⟨b, o, none⟩) n c] 52)).alloc (.cells #[.slice none 0 0] 52) = W0 at *
    clear hW0
    go_region_with (go_at_call 90; refine (hcl _ (by repeat (first | exact hb0 | apply Below.drew))).mono ?_; rintro e w1 ⟨⟨A9, n9, c9, l9⟩, rfl, hok9, hl9, hb9⟩; have q1 := (hb9.cell (p := ⟨b, o, none⟩) hbl).trans q0; have B2x := Blk.belowOf B2 hb9 (by repeat (first | exact B2 | apply Blk.drew)); have B4x := Blk.belowOf B4 hb9 (by repeat (first | exact B4 | apply Blk.drew)); have hbx := thn hb0.drew hb9; have cB2x := B2x.c0; have cB4x := B4x.c0; have fB4x := B4x.frozen; simp only [SV.v] at hok9 hl9 ⊢)
    all_goals
      go_wp2
      exact bodyPost_ret (v := hdV (⟨A9, n9, c9, l9⟩, y)) (by simp [results, Try.results71, go_sem, hdV, SV.v, cB4x]) rfl ⟨(⟨A9, n9, c9, l9⟩, y), rfl, okSetH hok9 hz0 (Nat.le_of_lt (Nat.lt_of_succ_lt hz0)) _, hl9, rfl, Below.setCell hbx (by simp only []; omega) _⟩
end Go.Proofs.Ytenbpaoelipifaa
