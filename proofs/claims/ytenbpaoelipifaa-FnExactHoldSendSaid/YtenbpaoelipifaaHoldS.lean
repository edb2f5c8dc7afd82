/- send and HoldSend of impl, what they return may be written. -/
import Derived.Test.YtenbpaoelipifaaHoldT
import Derived.Test.YtenbpaoelipifaaConcatI
import Derived.Test.YtenbpaoelipifaaCloneP
namespace Go.Proofs.Ytenbpaoelipifaa
set_option linter.unusedVariables false
set_option linter.unusedSimpArgs false
open Go.RowKit

theorem bit_any (b : Bool) (w : World) : Calls Try.prog 94 #[.bool b] w fun e w' => .returned (.int .i64 (if b then 1 else 0)) = e ∧ w = w' := by
  cases b
  · go_enter Try.func94, Try.ntmps94
    go_wp2
    go_ret
    exact ⟨rfl, rfl⟩
  · go_enter Try.func94, Try.ntmps94
    go_wp2
    go_ret
    exact ⟨rfl, rfl⟩
def sendH (kind size : Int) (xs : List Int) (m : Int) : List Int × Int := if kind = 1 then ([m], 0) else if (xs.length : Int) < size then (xs ++ [m], 0) else (xs, if kind == 3 then 1 else 0)
set_option maxRecDepth 100000 in
set_option maxHeartbeats 4000000 in
theorem sendH_any (A : Option Addr) (n c : Nat) (xs : List Int) (kind size m : Int) (hn : n ≤ 900) (hA : Plain A c) (w : World) (hs : Sl w 1 eI A n c xs) :
    Calls Try.prog 80 #[.agg #[.slice A n c], .int .i64 kind, .int .i64 size, .int .i64 m] w (Post hdV fun x w' => WS w' w.heap.size 3 1 eI x.1 ∧ (x.1.xs, x.2) = sendH kind size xs m ∧ Below w.heap.size w w') := by
  have hle := hs.le
  have hmax := hs.max
  have hb0 := alo (alo (Below.refl w.heap.size w) (.cells #[.slice A n c] 52)) (.cells #[.slice none 0 0] 52)
  have B4 := (Blk.new w 52 #[.slice A n c]).alloc (.cells #[.slice none 0 0] 52)
  have B8 := Blk.new2 w (.cells #[.slice A n c] 52) 52 #[.slice none 0 0]
  have hsW := hs.below hb0
  skip
  skip
  have HL := Lib.hid hs.len
  unfold sendH
  by_cases hk : kind = 1
  · rw [if_pos hk]
    have hkb : (kind == (1 : Int)) = true := by rw [beq_iff_eq]; exact hk
    have hb1 := alo (alo (alo (Below.refl w.heap.size w) (.cells #[.slice A n c] 52)) (.cells #[.slice (some ⟨w.heap.size + 1 + 1, 0, none⟩) 1 1] 52)) (.cells #[.int .i64 m] 3)
    have B9 : Blk (((w.alloc (.cells #[.slice A n c] 52)).alloc (.cells #[.slice (some ⟨w.heap.size + 1 + 1, 0, none⟩) 1 1] 52)).alloc (.cells #[.int .i64 m] 3)) (w.heap.size + 1 + 1) 3 #[.int .i64 m] := by
      have := Blk.new2 (w.alloc (.cells #[.slice A n c] 52)) (.cells #[.slice (some ⟨w.heap.size + 1 + 1, 0, none⟩) 1 1] 52) 3 #[.int .i64 m]
      simpa using this
    have B7 := (Blk.new2 w (.cells #[.slice A n c] 52) 52 #[.slice (some ⟨w.heap.size + 1 + 1, 0, none⟩) 1 1]).alloc (.cells #[.int .i64 m] 3)
    have c8 := B7.c0
    have ws := WS.of_blk (base := w.heap.size) (xs := [m]) (enc := eI) B9 (by omega) encI (by simp)
    clear hk hs hsW B4 B8 hb0 B9 B7
    go_enter Try.func80, Try.ntmps80
    go_wp2
    exact bodyPost_ret (v := hdV (⟨some ⟨w.heap.size + 1 + 1, 0, none⟩, 1, 1, [m]⟩, 0)) (by simp [results, Try.results80, go_sem, hdV, SV.v, c8]) rfl ⟨(⟨some ⟨w.heap.size + 1 + 1, 0, none⟩, 1, 1, [m]⟩, 0), rfl, ws, rfl, hb1⟩
  · rw [if_neg hk]
    have hkb : (kind == (1 : Int)) = false := by rw [beq_eq_false_iff_ne]; exact hk
    rw [HL.out]
    by_cases hroom : (n : Int) < size
    · rw [if_pos hroom]
      obtain ⟨W0, hW0⟩ : ∃ W0, (w.alloc (.cells #[.slice A n c] 52)).alloc (.cells #[.slice none 0 0] 52) = W0 := ⟨_, rfl⟩
      have hz0 : (w.alloc (.cells #[.slice A n c] 52)).heap.size = w.heap.size + 1 := by simp
      have hz1 : ((w.alloc (.cells #[.slice A n c] 52)).alloc (.cells #[.slice none 0 0] 52)).heap.size = w.heap.size + 1 + 1 := by simp
      have hb2 := alo (alo hb0 (.cells #[.int .i64 m] 3)) (.cells #[.slice A n c, .slice (some ⟨w.heap.size + 1 + 1, 0, none⟩) 1 1] 48)
      have BM : Blk ((((w.alloc (.cells #[.slice A n c] 52)).alloc (.cells #[.slice none 0 0] 52)).alloc (.cells #[.int .i64 m] 3)).alloc (.cells #[.slice A n c, .slice (some ⟨w.heap.size + 1 + 1, 0, none⟩) 1 1] 48)) (w.heap.size + 1 + 1) 3 #[.int .i64 m] := by
        have := (Blk.new ((w.alloc (.cells #[.slice A n c] 52)).alloc (.cells #[.slice none 0 0] 52)) 3 #[.int .i64 m]).alloc (.cells #[.slice A n c, .slice (some ⟨w.heap.size + 1 + 1, 0, none⟩) 1 1] 48)
        rw [hz1] at this
        exact this
      have BB : Blk ((((w.alloc (.cells #[.slice A n c] 52)).alloc (.cells #[.slice none 0 0] 52)).alloc (.cells #[.int .i64 m] 3)).alloc (.cells #[.slice A n c, .slice (some ⟨w.heap.size + 1 + 1, 0, none⟩) 1 1] 48)) (w.heap.size + 1 + 1 + 1) 48 #[.slice A n c, .slice (some ⟨w.heap.size + 1 + 1, 0, none⟩) 1 1] := by
        have := Blk.new2 ((w.alloc (.cells #[.slice A n c] 52)).alloc (.cells #[.slice none 0 0] 52)) (.cells #[.int .i64 m] 3) 48 #[.slice A n c, .slice (some ⟨w.heap.size + 1 + 1, 0, none⟩) 1 1]
        rw [hz1] at this
        exact this
      have B4y := (B4.alloc (.cells #[.int .i64 m] 3)).alloc (.cells #[.slice A n c, .slice (some ⟨w.heap.size + 1 + 1, 0, none⟩) 1 1] 48)
      have B8y := (B8.alloc (.cells #[.int .i64 m] 3)).alloc (.cells #[.slice A n c, .slice (some ⟨w.heap.size + 1 + 1, 0, none⟩) 1 1] 48)
      have hcc := concatI_any A n c xs m (w.heap.size + 1 + 1 + 1) (w.heap.size + 1 + 1) (by omega) hA.1 _ (hs.below hb2) BB BM
      clear hk hs hsW BM BB hW0 hz0 hz1
      have cB4_0 := B4.c0; have fB4 := B4.frozen; have cB8_0 := B8.c0; have fB8 := B8.frozen
      go_enter Try.func80, Try.ntmps80
      go_wp2_with fail
      refine hcc.mono ?_
      rintro e w1 ⟨v, rfl, own1, hb3⟩
      obtain ⟨A1, c1, hvv, hA1, sl1, -⟩ := own1.sl encI
      have hln : (xs ++ [m]).length = n + 1 := by rw [List.length_append, List.length_singleton, HL.out]
      rw [hln] at hvv sl1
      subst hvv
      have hle1 := sl1.le
      have hmax1 := sl1.max
      have hcp := fun W => clipInt_any A1 _ c1 hle1 hmax1 hA1.1 W
      have ws1 := own1.ws (c' := n + 1) encI ⟨Nat.le_refl _, hle1⟩
      clear hln
      replace B4 := B4y.below hb3
      replace B8 := B8y.below hb3
      have hb4 := thn hb2 hb3
      clear B4y B8y hcc sl1 own1
      clear cB4_0 fB4 cB8_0 fB8
      have hz8 := B8.lt
      have cB4_0 := B4.c0; have fB4 := B4.frozen; have cB8_0 := B8.c0; have fB8 := B8.frozen
      go_wp2_with fail
      refine (hcp _).mono ?_; rintro e w' ⟨rfl, rfl⟩
      go_wp2
      exact bodyPost_ret (v := hdV (⟨A1, n + 1, n + 1, xs ++ [m]⟩, 0)) (by simp [results, Try.results80, go_sem, hdV, SV.v, cB8_0]) rfl ⟨(⟨A1, n + 1, n + 1, xs ++ [m]⟩, 0), rfl, (ws1.set (g := w.heap.size + 1) (i := 0) (by simp <;> omega) _).mono (by simp <;> omega), rfl, hb4.setCell (p := ⟨w.heap.size + 1, 0, none⟩) (by simp only []; omega) _⟩
    · rw [if_neg hroom]
      have hroom' : decide ((n : Int) < size) = false := decide_eq_false hroom
      have hcl := fun W hW => cloneI_any A n c xs (by omega) hA W (hs.below hW)
      clear hk hs hsW
      cases h3 : (kind == (3 : Int))
      · have hbt := fun W => bit_any false W
        skip
        have cB4_0 := B4.c0; have fB4 := B4.frozen; have cB8_0 := B8.c0; have fB8 := B8.frozen
        go_enter Try.func80, Try.ntmps80
        go_wp2_with fail
        refine (hcl _ hb0).mono ?_
        rintro e w1 ⟨⟨A9, n9, c9, l9⟩, rfl, ws9, ⟨hl9, -⟩, hb1⟩
        simp only [SV.v] at ws9 hl9 ⊢
        subst hl9
        replace B4 := B4.below hb1
        replace B8 := B8.below hb1
        have hb2 := thn hb0 hb1
        clear cB4_0 fB4 cB8_0 fB8
        have hz8 := B8.lt
        have cB4_0 := B4.c0; have fB4 := B4.frozen; have cB8_0 := B8.c0; have fB8 := B8.frozen
        go_wp2_with fail
        refine (hbt _).mono ?_; rintro e w' ⟨rfl, rfl⟩
        go_wp2
        exact bodyPost_ret (v := hdV (⟨A9, n9, c9, l9⟩, 0)) (by simp [results, Try.results80, go_sem, hdV, SV.v, cB8_0]) rfl ⟨(⟨A9, n9, c9, l9⟩, 0), rfl, (ws9.set (g := w.heap.size + 1) (i := 0) (by simp) _).mono (by simp <;> omega), (by first | rfl | exact ⟨rfl, rfl⟩), hb2.setCell (p := ⟨w.heap.size + 1, 0, none⟩) (by simp only []; omega) _⟩
      · have hbt := fun W => bit_any true W
        skip
        have cB4_0 := B4.c0; have fB4 := B4.frozen; have cB8_0 := B8.c0; have fB8 := B8.frozen
        go_enter Try.func80, Try.ntmps80
        go_wp2_with fail
        refine (hcl _ hb0).mono ?_
        rintro e w1 ⟨⟨A9, n9, c9, l9⟩, rfl, ws9, ⟨hl9, -⟩, hb1⟩
        simp only [SV.v] at ws9 hl9 ⊢
        subst hl9
        replace B4 := B4.below hb1
        replace B8 := B8.below hb1
        have hb2 := thn hb0 hb1
        clear cB4_0 fB4 cB8_0 fB8
        have hz8 := B8.lt
        have cB4_0 := B4.c0; have fB4 := B4.frozen; have cB8_0 := B8.c0; have fB8 := B8.frozen
        go_wp2_with fail
        refine (hbt _).mono ?_; rintro e w' ⟨rfl, rfl⟩
        go_wp2
        exact bodyPost_ret (v := hdV (⟨A9, n9, c9, l9⟩, 1)) (by simp [results, Try.results80, go_sem, hdV, SV.v, cB8_0]) rfl ⟨(⟨A9, n9, c9, l9⟩, 1), rfl, (ws9.set (g := w.heap.size + 1) (i := 0) (by simp) _).mono (by simp <;> omega), (by first | rfl | exact ⟨rfl, rfl⟩), hb2.setCell (p := ⟨w.heap.size + 1, 0, none⟩) (by simp only []; omega) _⟩
def holdSend (xs : List Int) (kind size m : Int) : List Int × Int := if holdOk xs kind size && inB m 0 255 then sendH kind size xs m else ([], -1)
set_option maxHeartbeats 1000000 in
theorem holdSendW_any (A : Option Addr) (n c : Nat) (xs : List Int) (kind size m : Int) (hA : Plain A c) (w : World) (hs : Sl w 1 eI A n c xs) :
    Calls Try.prog 48 #[.agg #[.slice A n c], .int .i64 kind, .int .i64 size, .int .i64 m] w (Post hdV fun x w' => WS w' w.heap.size 3 1 eI x.1 ∧ (x.1.xs, x.2) = holdSend xs kind size m ∧ Below w.heap.size w w') := by
  have hle := hs.le
  have hmax := hs.max
  have hb0 := alo (alo (Below.refl w.heap.size w) (.cells #[.slice A n c] 52)) (.cells #[.slice none 0 0] 52)
  have B4 := (Blk.new w 52 #[.slice A n c]).alloc (.cells #[.slice none 0 0] 52)
  have B8 := Blk.new2 w (.cells #[.slice A n c] 52) 52 #[.slice none 0 0]
  have hsW := hs.below hb0
  skip
  skip
  have h1 := holdValid_any A n c xs kind size _ hsW
  have h2 := fun W => isValue_any m W
  cases hv : holdOk xs kind size
  · have hz : holdSend xs kind size m = ([], -1) := by unfold holdSend; rw [hv]; rfl
    rw [hz]
    rw [hv] at h1
    clear hz
    go_enter Try.func48, Try.ntmps48
    skip
    have cB4_0 := B4.c0; have fB4 := B4.frozen; have cB8_0 := B8.c0; have fB8 := B8.frozen
    go_wp2_with fail; refine (h1).mono ?_; rintro e w1 ⟨rfl, hbw1⟩; replace B4 := Blk.belowOf B4 hbw1 (by repeat (first | exact B4 | apply Blk.alloc | apply Blk.drew | (apply Blk.far; rotate_left; (first | assumption | exact Ne.symm (by assumption))) | apply Blk.set_)); replace B8 := Blk.belowOf B8 hbw1 (by repeat (first | exact B8 | apply Blk.alloc | apply Blk.drew | (apply Blk.far; rotate_left; (first | assumption | exact Ne.symm (by assumption))) | apply Blk.set_))
    clear cB4_0 fB4 cB8_0 fB8
    have hb1 := thn hb0 hbw1
    have cB4_0 := B4.c0; have fB4 := B4.frozen; have cB8_0 := B8.c0; have fB8 := B8.frozen
    go_wp2_with fail
    try (refine (h2 _).mono ?_; rintro e w' ⟨rfl, rfl⟩; go_wp2_with fail)
    exact bodyPost_ret (v := hdV (⟨none, 0, 0, []⟩, -1)) (by simp [results, Try.results48, go_sem, hdV, SV.v, cB8_0]) rfl ⟨(⟨none, 0, 0, []⟩, -1), rfl, WS.nilS, (by first | rfl | exact ⟨rfl, rfl⟩), hb1.setCell (p := ⟨w.heap.size + 1, 0, none⟩) (by simp only []; omega) _⟩
  · rw [hv] at h1
    cases hm : inB m 0 255
    · have hz : holdSend xs kind size m = ([], -1) := by unfold holdSend; rw [hm, Bool.and_false]; rfl
      rw [hz]
      rw [hm] at h2
      clear hz
      go_enter Try.func48, Try.ntmps48
      skip
      have cB4_0 := B4.c0; have fB4 := B4.frozen; have cB8_0 := B8.c0; have fB8 := B8.frozen
      go_wp2_with fail; refine (h1).mono ?_; rintro e w1 ⟨rfl, hbw1⟩; replace B4 := Blk.belowOf B4 hbw1 (by repeat (first | exact B4 | apply Blk.alloc | apply Blk.drew | (apply Blk.far; rotate_left; (first | assumption | exact Ne.symm (by assumption))) | apply Blk.set_)); replace B8 := Blk.belowOf B8 hbw1 (by repeat (first | exact B8 | apply Blk.alloc | apply Blk.drew | (apply Blk.far; rotate_left; (first | assumption | exact Ne.symm (by assumption))) | apply Blk.set_))
      clear cB4_0 fB4 cB8_0 fB8
      have hb1 := thn hb0 hbw1
      have cB4_0 := B4.c0; have fB4 := B4.frozen; have cB8_0 := B8.c0; have fB8 := B8.frozen
      go_wp2_with fail
      try (refine (h2 _).mono ?_; rintro e w' ⟨rfl, rfl⟩; go_wp2_with fail)
      exact bodyPost_ret (v := hdV (⟨none, 0, 0, []⟩, -1)) (by simp [results, Try.results48, go_sem, hdV, SV.v, cB8_0]) rfl ⟨(⟨none, 0, 0, []⟩, -1), rfl, WS.nilS, (by first | rfl | exact ⟨rfl, rfl⟩), hb1.setCell (p := ⟨w.heap.size + 1, 0, none⟩) (by simp only []; omega) _⟩
    · have hz : holdSend xs kind size m = sendH kind size xs m := by unfold holdSend; rw [hv, hm]; rfl
      rw [hz]
      rw [hm] at h2
      have hl4 := holdOk_len hv
      have hl := hs.len
      have h3 := fun W hW => sendH_any A n c xs kind size m (by omega) hA W (hs.below hW)
      clear hs hl hv hsW hl4 hz hm
      generalize sendH kind size xs m = res at *
      skip
      have cB4_0 := B4.c0; have fB4 := B4.frozen; have cB8_0 := B8.c0; have fB8 := B8.frozen
      go_enter Try.func48, Try.ntmps48
      go_wp2_with fail; refine (h1).mono ?_; rintro e w1 ⟨rfl, hbw1⟩; replace B4 := Blk.belowOf B4 hbw1 (by repeat (first | exact B4 | apply Blk.alloc | apply Blk.drew | (apply Blk.far; rotate_left; (first | assumption | exact Ne.symm (by assumption))) | apply Blk.set_)); replace B8 := Blk.belowOf B8 hbw1 (by repeat (first | exact B8 | apply Blk.alloc | apply Blk.drew | (apply Blk.far; rotate_left; (first | assumption | exact Ne.symm (by assumption))) | apply Blk.set_))
      clear cB4_0 fB4 cB8_0 fB8
      have hb1 := thn hb0 hbw1
      have hz1 : w.heap.size + 1 < w1.heap.size := B8.lt
      have cB4_0 := B4.c0; have fB4 := B4.frozen; have cB8_0 := B8.c0; have fB8 := B8.frozen
      go_wp2_with fail
      refine (h2 _).mono ?_; rintro e w' ⟨rfl, rfl⟩
      go_wp2_with fail
      refine (h3 _ hb1).mono ?_
      rintro e w2 ⟨⟨⟨A9, n9, c9, l9⟩, z⟩, rfl, hok, hr, hb2⟩
      simp only [hdV, SV.v] at hok hr ⊢
      have HR := Lib.hid hr
      clear hr
      clear cB4_0 fB4 cB8_0 fB8
      replace B8 := B8.below hb2
      have hb3 := thn hb1 hb2
      skip
      have cB8_0 := B8.c0; have fB8 := B8.frozen
      go_wp2
      exact bodyPost_ret (v := hdV (⟨A9, n9, c9, l9⟩, z)) (by simp [results, Try.results48, go_sem, hdV, SV.v, cB8_0]) rfl ⟨(⟨A9, n9, c9, l9⟩, z), rfl, (hok.set (g := w.heap.size + 1) (i := 0) hz1 _).mono (by omega), HR.out, hb3.setCell (p := ⟨w.heap.size + 1, 0, none⟩) (by simp only []; omega) _⟩
end Go.Proofs.Ytenbpaoelipifaa
