/- take and HoldTake of impl, what they return may be written. -/
import Derived.Test.YtenbpaoelipifaaHoldQ
import Derived.Test.YtenbpaoelipifaaCloneP
import Derived.Deep.RegionHeld3
namespace Go.Proofs.Ytenbpaoelipifaa
set_option linter.unusedVariables false
set_option linter.unusedSimpArgs false
open Go.RowKit

set_option maxRecDepth 100000 in
set_option maxHeartbeats 4000000 in
theorem takeW_any (b o n c : Nat) (xs : List Int) (y kind : Int) (hn : 0 < n ∧ n ≤ 1000) (h0 : xs[0]? = some y) (w : World) (hs : Sl w 1 eI (some ⟨b, o, none⟩) n c xs) :
    Calls Try.prog 71 #[.agg #[.slice (some ⟨b, o, none⟩) n c], .int .i64 kind] w (Post hdV fun x w' => WS w' w.heap.size 3 1 eI x.1 ∧ x.1.xs = (if kind = 1 then xs else xs.drop 1) ∧ x.2 = y ∧ Below w.heap.size w w') := by
  obtain ⟨hn0, hn1⟩ := hn
  have hle := hs.le
  have hmax := hs.max
  have hb0 := alo (alo (Below.refl w.heap.size w) (.cells #[.slice (some ⟨b, o, none⟩) n c] 52)) (.cells #[.slice none 0 0] 52)
  have B2 := (Blk.new w 52 #[.slice (some ⟨b, o, none⟩) n c]).alloc (.cells #[.slice none 0 0] 52)
  have B4 := Blk.new2 w (.cells #[.slice (some ⟨b, o, none⟩) n c] 52) 52 #[.slice none 0 0]
  have hsW := hs.below hb0
  skip
  skip
  obtain ⟨b1, o1, hA1, hbw, _⟩ := hs.cells hn0
  obtain ⟨rfl, rfl⟩ : b = b1 ∧ o = o1 := by injection hA1 with hA1; injection hA1 with h1 h2; exact ⟨h1, h2⟩
  have hne1 : ¬ b = w.heap.size + 1 := by omega
  have hne2 : ¬ b = w.heap.size := by omega
  have hne3 : ¬ w.heap.size + 1 = b := by omega
  obtain ⟨b', o', hA, y', hy, hc⟩ := hs.nth (kk := 0) hn0 hb0
  obtain ⟨rfl, rfl⟩ : b = b' ∧ o = o' := by injection hA with hA; injection hA with h1 h2; exact ⟨h1, h2⟩
  obtain rfl : y = y' := by rw [h0] at hy; injection hy
  have q0 := hc 0 _ rfl
  simp only [eI, Nat.add_zero, Nat.mul_one, Nat.zero_mul] at q0
  have hbl := World.block_lt_of_cell? _ _ q0
  have hnz : ((n : Int) == 0) = false := by rw [beq_eq_false_iff_ne]; omega
  have hn2 : 1 ≤ n := hn0
  have hn3 : (1 : Int) ≤ (n : Int) := by omega
  have hpl : Plain (some ⟨b, o, none⟩) c := ⟨fun e => (by cases e), fun ad e => by injection e with e; rw [← e]⟩
  by_cases hk : kind = 1
  · rw [if_pos hk]
    have hkb : (kind == (1 : Int)) = true := by rw [beq_iff_eq]; exact hk
    have hcl := fun W hW => cloneI_any (some ⟨b, o, none⟩) n c xs hn1 hpl W (hsW.below hW)
    clear hc h0 hy hA hs hA1 hk hsW
    have cB2_0 := B2.c0; have fB2 := B2.frozen; have cB4_0 := B4.c0; have fB4 := B4.frozen
    go_enter Try.func71, Try.ntmps71
    go_wp2_with fail
    generalize hW0 : (w.alloc (.cells #[.slice (some ⟨b, o, none⟩) n c] 52)).alloc (.cells #[.slice none 0 0] 52) = W0 at *
    have hz0 : w.heap.size + 1 < W0.heap.size := B4.lt
    clear hW0
    go_region_held3 (fun w' => w'.cell? ⟨w.heap.size, 0, none⟩ = some (.slice (some ⟨b, o, none⟩) n c) ∧ w'.cell? ⟨b, o, none⟩ = some (.int .i64 y)) (go_keep) (first | (go_at_call 90; refine (hcl _ (by with_reducible (repeat (first | exact Below.refl _ _ | apply Below.drew)))).mono ?_; rintro e w1 ⟨⟨A9, n9, c9, l9⟩, rfl, ws9, ⟨hl9, -⟩, hb9⟩; simp only [SV.v] at ws9 hl9 ⊢; have hbx : Below W0.heap.size W0 w1 := thn (by with_reducible (repeat (first | exact Below.refl _ _ | apply Below.drew))) hb9; have q1 := (hbx.cell (p := ⟨b, o, none⟩) hbl).trans q0; have B2x := B2.below hbx; have B4x := B4.below hbx; have cB2x := B2x.c0; have cB4x := B4x.c0; have fB4x := B4x.frozen; replace ws9 := ws9.mono (show W0.heap.size ≤ _ from Nat.le_refl _)))
    all_goals
      clear cB2_0 cB4_0 fB2 fB4 q0
      have ws10 := ws9.set (g := w.heap.size + 1) (i := 0) hz0 (.slice A9 n9 c9)
      go_wp2
      exact bodyPost_ret (v := hdV (⟨A9, n9, c9, l9⟩, y)) (by simp [results, Try.results71, go_sem, hdV, SV.v, cB4x]) rfl ⟨(⟨A9, n9, c9, l9⟩, y), rfl, ws10.mono (by omega), hl9, rfl, (thn hb0 hbx).setCell (p := ⟨w.heap.size + 1, 0, none⟩) (by simp only []; omega) _⟩
  · rw [if_neg hk]
    have hkb : (kind == (1 : Int)) = false := by rw [beq_eq_false_iff_ne]; exact hk
    have hd := hsW.from1 1 hn2
    simp only [Option.map_some, Addr.add_lit] at hd
    have hcl : ∃ bb oo, (if c = 1 then some (⟨b, o, none⟩ : Addr) else some ⟨b, o + 1, none⟩) = some ⟨bb, oo, none⟩ := by split <;> exact ⟨_, _, rfl⟩
    obtain ⟨bb, oo, hbb⟩ := hcl
    rw [hbb] at hd
    have hpl2 : Plain (some ⟨bb, oo, none⟩) (c - 1) := ⟨fun e => (by cases e), fun ad e => by injection e with e; rw [← e]⟩
    have hcl := fun W hW => cloneI_any (some ⟨bb, oo, none⟩) (n - 1) (c - 1) (xs.drop 1) (by omega) hpl2 W (hd.below hW)
    clear hc h0 hy hA hs hd hA1 hk hsW hpl hpl2
    by_cases hc1 : c = 1
    · rw [if_pos hc1] at hbb
      obtain ⟨rfl, rfl⟩ : b = bb ∧ o = oo := by injection hbb with hbb; injection hbb with h1 h2; exact ⟨h1, h2⟩
      obtain rfl : c = 1 := hc1
      obtain rfl : n = 1 := by omega
      clear hbb hn0 hn1 hn2 hn3 hnz
      have cB2_0 := B2.c0; have fB2 := B2.frozen; have cB4_0 := B4.c0; have fB4 := B4.frozen
      go_enter Try.func71, Try.ntmps71
      go_wp2_with fail
      generalize hW0 : (w.alloc (.cells #[.slice (some ⟨b, o, none⟩) 1 1] 52)).alloc (.cells #[.slice none 0 0] 52) = W0 at *
      have hz0 : w.heap.size + 1 < W0.heap.size := B4.lt
      clear hW0
      go_region_held3 (fun w' => w'.cell? ⟨w.heap.size, 0, none⟩ = some (.slice (some ⟨b, o, none⟩) 1 1) ∧ w'.cell? ⟨b, o, none⟩ = some (.int .i64 y)) (go_keep) (first | (go_at_call 90; refine (hcl _ (by with_reducible (repeat (first | exact Below.refl _ _ | apply Below.drew)))).mono ?_; rintro e w1 ⟨⟨A9, n9, c9, l9⟩, rfl, ws9, ⟨hl9, -⟩, hb9⟩; simp only [SV.v] at ws9 hl9 ⊢; have hbx : Below W0.heap.size W0 w1 := thn (by with_reducible (repeat (first | exact Below.refl _ _ | apply Below.drew))) hb9; have q1 := (hbx.cell (p := ⟨b, o, none⟩) hbl).trans q0; have B2x := B2.below hbx; have B4x := B4.below hbx; have cB2x := B2x.c0; have cB4x := B4x.c0; have fB4x := B4x.frozen; replace ws9 := ws9.mono (show W0.heap.size ≤ _ from Nat.le_refl _)))
      all_goals
        clear cB2_0 cB4_0 fB2 fB4 q0
        have ws10 := ws9.set (g := w.heap.size + 1) (i := 0) hz0 (.slice A9 n9 c9)
        go_wp2
        exact bodyPost_ret (v := hdV (⟨A9, n9, c9, l9⟩, y)) (by simp [results, Try.results71, go_sem, hdV, SV.v, cB4x]) rfl ⟨(⟨A9, n9, c9, l9⟩, y), rfl, ws10.mono (by omega), hl9, rfl, (thn hb0 hbx).setCell (p := ⟨w.heap.size + 1, 0, none⟩) (by simp only []; omega) _⟩
    · rw [if_neg hc1] at hbb
      obtain ⟨rfl, rfl⟩ : b = bb ∧ o + 1 = oo := by injection hbb with hbb; injection hbb with h1 h2; exact ⟨h1, h2⟩
      clear hbb
      have cB2_0 := B2.c0; have fB2 := B2.frozen; have cB4_0 := B4.c0; have fB4 := B4.frozen
      go_enter Try.func71, Try.ntmps71
      go_wp2_with fail
      generalize hW0 : (w.alloc (.cells #[.slice (some ⟨b, o, none⟩) n c] 52)).alloc (.cells #[.slice none 0 0] 52) = W0 at *
      have hz0 : w.heap.size + 1 < W0.heap.size := B4.lt
      clear hW0
      go_region_held3 (fun w' => w'.cell? ⟨w.heap.size, 0, none⟩ = some (.slice (some ⟨b, o, none⟩) n c) ∧ w'.cell? ⟨b, o, none⟩ = some (.int .i64 y)) (go_keep) (first | (go_at_call 90; refine (hcl _ (by with_reducible (repeat (first | exact Below.refl _ _ | apply Below.drew)))).mono ?_; rintro e w1 ⟨⟨A9, n9, c9, l9⟩, rfl, ws9, ⟨hl9, -⟩, hb9⟩; simp only [SV.v] at ws9 hl9 ⊢; have hbx : Below W0.heap.size W0 w1 := thn (by with_reducible (repeat (first | exact Below.refl _ _ | apply Below.drew))) hb9; have q1 := (hbx.cell (p := ⟨b, o, none⟩) hbl).trans q0; have B2x := B2.below hbx; have B4x := B4.below hbx; have cB2x := B2x.c0; have cB4x := B4x.c0; have fB4x := B4x.frozen; replace ws9 := ws9.mono (show W0.heap.size ≤ _ from Nat.le_refl _)))
      all_goals
        clear cB2_0 cB4_0 fB2 fB4 q0
        have ws10 := ws9.set (g := w.heap.size + 1) (i := 0) hz0 (.slice A9 n9 c9)
        go_wp2
        exact bodyPost_ret (v := hdV (⟨A9, n9, c9, l9⟩, y)) (by simp [results, Try.results71, go_sem, hdV, SV.v, cB4x]) rfl ⟨(⟨A9, n9, c9, l9⟩, y), rfl, ws10.mono (by omega), hl9, rfl, (thn hb0 hbx).setCell (p := ⟨w.heap.size + 1, 0, none⟩) (by simp only []; omega) _⟩

theorem takeNil_any (A : Option Addr) (c : Nat) (kind : Int) (w : World) :
    Calls Try.prog 71 #[.agg #[.slice A 0 c], .int .i64 kind] w (Post hdV fun x w' => WS w' w.heap.size 3 1 eI x.1 ∧ (x.1.xs, x.2) = (([] : List Int), (-1 : Int)) ∧ Below w.heap.size w w') := by
  have hb0 := alo (alo (Below.refl w.heap.size w) (.cells #[.slice A 0 c] 52)) (.cells #[.slice none 0 0] 52)
  have B2 := (Blk.new w 52 #[.slice A 0 c]).alloc (.cells #[.slice none 0 0] 52)
  have B4 := Blk.new2 w (.cells #[.slice A 0 c] 52) 52 #[.slice none 0 0]
  skip
  skip
  have cB2_0 := B2.c0; have fB2 := B2.frozen; have cB4_0 := B4.c0; have fB4 := B4.frozen
  go_enter Try.func71, Try.ntmps71
  go_wp2
  exact bodyPost_ret (v := hdV (⟨none, 0, 0, []⟩, -1)) (by simp [results, Try.results71, go_sem, hdV, SV.v, cB4_0]) rfl ⟨(⟨none, 0, 0, []⟩, -1), rfl, WS.nilS, rfl, hb0⟩
def holdTake (xs : List Int) (kind size : Int) : List Int × Int := if holdOk xs kind size then takeL kind xs else ([], -1)
theorem holdOk_len {xs : List Int} {kind size : Int} (h : holdOk xs kind size = true) : xs.length ≤ 4 := by
  unfold holdOk sizedOk at h
  simp only [Bool.and_eq_true, Bool.or_eq_true, beq_iff_eq, inB_true, decide_eq_true_eq] at h
  omega
theorem takeAll_any (A : Option Addr) (n c : Nat) (xs : List Int) (kind : Int) (hn : n ≤ 1000) (hA : Plain A c) (w : World) (hs : Sl w 1 eI A n c xs) :
    Calls Try.prog 71 #[.agg #[.slice A n c], .int .i64 kind] w (Post hdV fun x w' => WS w' w.heap.size 3 1 eI x.1 ∧ (x.1.xs, x.2) = takeL kind xs ∧ Below w.heap.size w w') := by
  cases xs with
  | nil =>
    obtain rfl : n = 0 := hs.len.symm
    exact takeNil_any A c kind w
  | cons y l =>
    have hl := hs.len
    have hn0 : 0 < n := by rw [← hl]; simp
    obtain ⟨b, o, rfl, -⟩ := hs.cells hn0
    exact (takeW_any b o n c (y :: l) y kind ⟨hn0, hn⟩ rfl w hs).mono fun e w' ⟨x, h1, h2, h3, h4, h5⟩ => ⟨x, h1, h2, (by rw [h3, h4]; rfl), h5⟩
set_option maxHeartbeats 1000000 in
theorem holdTakeW_any (A : Option Addr) (n c : Nat) (xs : List Int) (kind size : Int) (hA : Plain A c) (w : World) (hs : Sl w 1 eI A n c xs) :
    Calls Try.prog 33 #[.agg #[.slice A n c], .int .i64 kind, .int .i64 size] w (Post hdV fun x w' => WS w' w.heap.size 3 1 eI x.1 ∧ (x.1.xs, x.2) = holdTake xs kind size ∧ Below w.heap.size w w') := by
  have hle := hs.le
  have hmax := hs.max
  have hb0 := alo (alo (Below.refl w.heap.size w) (.cells #[.slice (A) n c] 52)) (.cells #[.slice none 0 0] 52)
  have B2 := (Blk.new w 52 #[.slice (A) n c]).alloc (.cells #[.slice none 0 0] 52)
  have B4 := Blk.new2 w (.cells #[.slice (A) n c] 52) 52 #[.slice none 0 0]
  have hsW := hs.below hb0
  skip
  skip
  have h1 := holdValid_any A n c xs kind size _ hsW
  unfold holdTake
  cases hv : holdOk xs kind size
  · rw [hv] at h1
    simp only [Bool.false_eq_true, if_false]
    have cB2_0 := B2.c0; have fB2 := B2.frozen; have cB4_0 := B4.c0; have fB4 := B4.frozen
    go_enter Try.func33, Try.ntmps33
    go_wp2_with fail; refine (h1).mono ?_; rintro e w1 ⟨rfl, hbw1⟩; replace B2 := Blk.belowOf B2 hbw1 (by repeat (first | exact B2 | apply Blk.alloc | apply Blk.drew | (apply Blk.far; rotate_left; (first | assumption | exact Ne.symm (by assumption))) | apply Blk.set_)); replace B4 := Blk.belowOf B4 hbw1 (by repeat (first | exact B4 | apply Blk.alloc | apply Blk.drew | (apply Blk.far; rotate_left; (first | assumption | exact Ne.symm (by assumption))) | apply Blk.set_))
    clear cB2_0 fB2 cB4_0 fB4
    have hb1 := thn hb0 hbw1
    have cB2_0 := B2.c0; have fB2 := B2.frozen; have cB4_0 := B4.c0; have fB4 := B4.frozen
    go_wp2
    exact bodyPost_ret (v := hdV (⟨none, 0, 0, []⟩, -1)) (by simp [results, Try.results33, go_sem, hdV, SV.v, cB4_0]) rfl ⟨(⟨none, 0, 0, []⟩, -1), rfl, WS.nilS, rfl, hb1.setCell (p := ⟨w.heap.size + 1, 0, none⟩) (by simp only []; omega) _⟩
  · rw [hv] at h1
    simp only [if_true]
    have hl4 := holdOk_len hv
    have hl := hs.len
    have h3 := fun W hW => takeAll_any A n c xs kind (by omega) hA W (hs.below hW)
    clear hs hl hv hsW hl4
    generalize takeL kind xs = res at *
    skip
    have cB2_0 := B2.c0; have fB2 := B2.frozen; have cB4_0 := B4.c0; have fB4 := B4.frozen
    go_enter Try.func33, Try.ntmps33
    go_wp2_with fail; refine (h1).mono ?_; rintro e w1 ⟨rfl, hbw1⟩; replace B2 := Blk.belowOf B2 hbw1 (by repeat (first | exact B2 | apply Blk.alloc | apply Blk.drew | (apply Blk.far; rotate_left; (first | assumption | exact Ne.symm (by assumption))) | apply Blk.set_)); replace B4 := Blk.belowOf B4 hbw1 (by repeat (first | exact B4 | apply Blk.alloc | apply Blk.drew | (apply Blk.far; rotate_left; (first | assumption | exact Ne.symm (by assumption))) | apply Blk.set_))
    clear cB2_0 fB2 cB4_0 fB4
    have hb1 := thn hb0 hbw1
    have hz1 : w.heap.size + 1 < w1.heap.size := B4.lt
    have cB2_0 := B2.c0; have fB2 := B2.frozen; have cB4_0 := B4.c0; have fB4 := B4.frozen
    go_wp2_with fail
    refine (h3 _ hb1).mono ?_
    rintro e w2 ⟨⟨⟨A9, n9, c9, l9⟩, z⟩, rfl, hok, hr, hb2⟩
    simp only [hdV, SV.v] at hok hr ⊢
    have HR := Lib.hid hr
    clear hr
    replace B4 := B4.below hb2
    have hb3 := thn hb1 hb2
    skip
    have cB4_0 := B4.c0; have fB4 := B4.frozen
    go_wp2
    exact bodyPost_ret (v := hdV (⟨A9, n9, c9, l9⟩, z)) (by simp [results, Try.results33, go_sem, hdV, SV.v, cB4_0]) rfl ⟨(⟨A9, n9, c9, l9⟩, z), rfl, (hok.set (g := w.heap.size + 1) (i := 0) hz1 _).mono (by omega), HR.out, hb3.setCell (p := ⟨w.heap.size + 1, 0, none⟩) (by simp only []; omega) _⟩
end Go.Proofs.Ytenbpaoelipifaa
