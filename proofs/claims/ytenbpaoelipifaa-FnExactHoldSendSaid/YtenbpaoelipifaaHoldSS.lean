/- HoldSend of spec. -/
import Derived.Test.YtenbpaoelipifaaHoldS
import Derived.Test.YtenbpaoelipifaaHoldTS
namespace Go.Proofs.Ytenbpaoelipifaa
set_option linter.unusedVariables false
set_option linter.unusedSimpArgs false
open Go.RowKit

set_option maxRecDepth 100000 in
set_option maxHeartbeats 2000000 in
theorem specHoldSend_any (A : Option Addr) (n c : Nat) (xs : List Int) (kind size m : Int) (hn : n ≤ 2000000) (hnil : A = none → c = 0) (w : World) (hs : Sl w 1 eI A n c xs) :
    Calls Try.prog 47 #[.agg #[.slice A n c], .int .i64 kind, .int .i64 size, .int .i64 m] w (Post hoV fun x w' => Own w' w.heap.size 3 1 eI x.2 x.1.1 ∧ x.1 = holdSend xs kind size m ∧ Below w.heap.size w w') := by
  have hb0 := alo (alo (Below.refl w.heap.size w) (.cells #[.slice A n c] 52)) (.cells #[.slice none 0 0] 52)
  have B4 := (Blk.new w 52 #[.slice A n c]).alloc (.cells #[.slice none 0 0] 52)
  have B8 := Blk.new2 w (.cells #[.slice A n c] 52) 52 #[.slice none 0 0]
  have h1 := fun W hW => ownHold_any A n c xs hn hnil W (hs.below hW)
  have hl := fun W => l1In_any m 0 255 W
  skip
  cases hok : holdOk xs kind size
  · have hz : holdSend xs kind size m = ([], -1) := by unfold holdSend; rw [hok]; rfl
    rw [hz]
    clear hz
    go_enter Try.func47, Try.ntmps47
    skip
    have cB4_0 := B4.c0; have fB4 := B4.frozen; have cB8_0 := B8.c0; have fB8 := B8.frozen
    go_wp2_with fail
    refine (h1 _ hb0).mono ?_
    rintro e w1 ⟨⟨A9, n9, c9, l9⟩, rfl, ⟨hsl9, hfr9, hnil9, -⟩, hl9, hbw1⟩
    simp only [SV.v] at hsl9 hl9 hfr9 hnil9 ⊢
    subst hl9
    have HL9 := Lib.hid hsl9.len
    replace B4 := B4.below hbw1
    replace B8 := B8.below hbw1
    have hb1 := thn hb0 hbw1
    have hz1 : w.heap.size + 1 < w1.heap.size := B8.lt
    clear cB4_0 fB4 cB8_0 fB8
    have sl9 : Sl (w1.setCell ⟨w.heap.size, 0, none⟩ (.slice A9 n9 c9)) 1 eI A9 n9 c9 l9 := hsl9.keep (by simp [World.setCell]) (fun b o e => Below.heap_setCell _ _ _ _ (by have := hfr9 b o e; simp at this; simp only []; omega))
    have hv := specHoldValid_any A9 n9 c9 l9 kind size (w1.setCell ⟨w.heap.size, 0, none⟩ (.slice A9 n9 c9)) sl9
    rw [hok] at hv
    have B4a : Blk (w1.setCell ⟨w.heap.size, 0, none⟩ (.slice A9 n9 c9)) w.heap.size 52 #[.slice A9 n9 c9] := B4.set_ 0 _
    have B8a := B8.far (p := ⟨w.heap.size, 0, none⟩) (by simp only []; omega) (.slice A9 n9 c9)
    have hb2 := hb1.setCell (p := ⟨w.heap.size, 0, none⟩) (Nat.le_refl _) (.slice A9 n9 c9)
    have c4 := B4.c0
    have f4 := B4.frozen
    have c4a := B4a.c0
    go_wp2_with fail
    refine hv.mono ?_
    rintro e w3 ⟨rfl, hb3⟩
    clear B4 B8 c4 f4 c4a hsl9 hv hb1
    have B4 := B4a.below hb3
    have B8 := B8a.below hb3
    replace sl9 := sl9.below hb3
    have hbw := thn hb2 hb3
    have hz3 : w.heap.size + 1 < w3.heap.size := B8.lt
    clear B4a B8a hb2 hb3
    skip
    skip
    have cB4_0 := B4.c0; have fB4 := B4.frozen; have cB8_0 := B8.c0; have fB8 := B8.frozen
    go_wp2_with fail
    try (refine (hl _).mono ?_; rintro e w' ⟨rfl, rfl⟩)
    (try go_wp2)
    exact bodyPost_ret (v := hoV (([], -1), .slice none 0 0)) (by simp [results, Try.results47, go_sem, hoV, cB8_0]) rfl ⟨(([], -1), .slice none 0 0), rfl, Own.nil, (by first | rfl | exact ⟨rfl, rfl⟩), hbw.setCell (p := ⟨w.heap.size + 1, 0, none⟩) (by simp only []; omega) _⟩
  · cases hm : inB m 0 255
    · have hz : holdSend xs kind size m = ([], -1) := by unfold holdSend; rw [hm, Bool.and_false]; rfl
      rw [hz]
      rw [hm] at hl
      clear hz
      go_enter Try.func47, Try.ntmps47
      skip
      have cB4_0 := B4.c0; have fB4 := B4.frozen; have cB8_0 := B8.c0; have fB8 := B8.frozen
      go_wp2_with fail
      refine (h1 _ hb0).mono ?_
      rintro e w1 ⟨⟨A9, n9, c9, l9⟩, rfl, ⟨hsl9, hfr9, hnil9, -⟩, hl9, hbw1⟩
      simp only [SV.v] at hsl9 hl9 hfr9 hnil9 ⊢
      subst hl9
      have HL9 := Lib.hid hsl9.len
      replace B4 := B4.below hbw1
      replace B8 := B8.below hbw1
      have hb1 := thn hb0 hbw1
      have hz1 : w.heap.size + 1 < w1.heap.size := B8.lt
      clear cB4_0 fB4 cB8_0 fB8
      have sl9 : Sl (w1.setCell ⟨w.heap.size, 0, none⟩ (.slice A9 n9 c9)) 1 eI A9 n9 c9 l9 := hsl9.keep (by simp [World.setCell]) (fun b o e => Below.heap_setCell _ _ _ _ (by have := hfr9 b o e; simp at this; simp only []; omega))
      have hv := specHoldValid_any A9 n9 c9 l9 kind size (w1.setCell ⟨w.heap.size, 0, none⟩ (.slice A9 n9 c9)) sl9
      rw [hok] at hv
      have B4a : Blk (w1.setCell ⟨w.heap.size, 0, none⟩ (.slice A9 n9 c9)) w.heap.size 52 #[.slice A9 n9 c9] := B4.set_ 0 _
      have B8a := B8.far (p := ⟨w.heap.size, 0, none⟩) (by simp only []; omega) (.slice A9 n9 c9)
      have hb2 := hb1.setCell (p := ⟨w.heap.size, 0, none⟩) (Nat.le_refl _) (.slice A9 n9 c9)
      have c4 := B4.c0
      have f4 := B4.frozen
      have c4a := B4a.c0
      go_wp2_with fail
      refine hv.mono ?_
      rintro e w3 ⟨rfl, hb3⟩
      clear B4 B8 c4 f4 c4a hsl9 hv hb1
      have B4 := B4a.below hb3
      have B8 := B8a.below hb3
      replace sl9 := sl9.below hb3
      have hbw := thn hb2 hb3
      have hz3 : w.heap.size + 1 < w3.heap.size := B8.lt
      clear B4a B8a hb2 hb3
      skip
      skip
      have cB4_0 := B4.c0; have fB4 := B4.frozen; have cB8_0 := B8.c0; have fB8 := B8.frozen
      go_wp2_with fail
      try (refine (hl _).mono ?_; rintro e w' ⟨rfl, rfl⟩)
      (try go_wp2)
      exact bodyPost_ret (v := hoV (([], -1), .slice none 0 0)) (by simp [results, Try.results47, go_sem, hoV, cB8_0]) rfl ⟨(([], -1), .slice none 0 0), rfl, Own.nil, (by first | rfl | exact ⟨rfl, rfl⟩), hbw.setCell (p := ⟨w.heap.size + 1, 0, none⟩) (by simp only []; omega) _⟩
    · have hl4 := holdOk_len hok
      rw [hm] at hl
      obtain ⟨res, hres⟩ : ∃ res, holdSend xs kind size m = res := ⟨_, rfl⟩
      rw [hres]
      have HX := Lib.hid hs.len
      have hrs : sendH kind size xs m = res := by rw [← hres]; unfold holdSend; rw [hok, hm]; rfl
      clear hres
      by_cases hk : kind = 1
      · have hkb : (kind == (1 : Int)) = true := by rw [beq_iff_eq]; exact hk
        have hres := Lib.hid (show ([m], 0) = res by rw [← hrs]; unfold sendH; rw [if_pos hk])
        clear hk hrs
        go_enter Try.func47, Try.ntmps47
        skip
        have cB4_0 := B4.c0; have fB4 := B4.frozen; have cB8_0 := B8.c0; have fB8 := B8.frozen
        go_wp2_with fail
        refine (h1 _ hb0).mono ?_
        rintro e w1 ⟨⟨A9, n9, c9, l9⟩, rfl, ⟨hsl9, hfr9, hnil9, -⟩, hl9, hbw1⟩
        simp only [SV.v] at hsl9 hl9 hfr9 hnil9 ⊢
        subst hl9
        have HL9 := Lib.hid hsl9.len
        replace B4 := B4.below hbw1
        replace B8 := B8.below hbw1
        have hb1 := thn hb0 hbw1
        have hz1 : w.heap.size + 1 < w1.heap.size := B8.lt
        clear cB4_0 fB4 cB8_0 fB8
        have sl9 : Sl (w1.setCell ⟨w.heap.size, 0, none⟩ (.slice A9 n9 c9)) 1 eI A9 n9 c9 l9 := hsl9.keep (by simp [World.setCell]) (fun b o e => Below.heap_setCell _ _ _ _ (by have := hfr9 b o e; simp at this; simp only []; omega))
        have hv := specHoldValid_any A9 n9 c9 l9 kind size (w1.setCell ⟨w.heap.size, 0, none⟩ (.slice A9 n9 c9)) sl9
        rw [hok] at hv
        have B4a : Blk (w1.setCell ⟨w.heap.size, 0, none⟩ (.slice A9 n9 c9)) w.heap.size 52 #[.slice A9 n9 c9] := B4.set_ 0 _
        have B8a := B8.far (p := ⟨w.heap.size, 0, none⟩) (by simp only []; omega) (.slice A9 n9 c9)
        have hb2 := hb1.setCell (p := ⟨w.heap.size, 0, none⟩) (Nat.le_refl _) (.slice A9 n9 c9)
        have c4 := B4.c0
        have f4 := B4.frozen
        have c4a := B4a.c0
        go_wp2_with fail
        refine hv.mono ?_
        rintro e w3 ⟨rfl, hb3⟩
        clear B4 B8 c4 f4 c4a hsl9 hv hb1
        have B4 := B4a.below hb3
        have B8 := B8a.below hb3
        replace sl9 := sl9.below hb3
        have hbw := thn hb2 hb3
        have hz3 : w.heap.size + 1 < w3.heap.size := B8.lt
        clear B4a B8a hb2 hb3
        skip
        skip
        have cB4_0 := B4.c0; have fB4 := B4.frozen; have cB8_0 := B8.c0; have fB8 := B8.frozen
        go_wp2_with fail
        try (refine (hl _).mono ?_; rintro e w' ⟨rfl, rfl⟩)
        have B8b : Blk (w3.setCell ⟨w.heap.size + 1, 0, none⟩ (.slice (some ⟨w3.heap.size, 0, none⟩) 1 1)) (w.heap.size + 1) 52 #[.slice (some ⟨w3.heap.size, 0, none⟩) 1 1] := B8.set_ 0 _
        have hb4 := alo (hbw.setCell (p := ⟨w.heap.size + 1, 0, none⟩) (by simp only []; omega) (.slice (some ⟨w3.heap.size, 0, none⟩) 1 1)) (.cells #[.int .i64 m] 3)
        have hsz : (w3.setCell ⟨w.heap.size + 1, 0, none⟩ (.slice (some ⟨w3.heap.size, 0, none⟩) 1 1)).heap.size = w3.heap.size := by simp [World.setCell]
        have hnew := Blk.new (w3.setCell ⟨w.heap.size + 1, 0, none⟩ (.slice (some ⟨w3.heap.size, 0, none⟩) 1 1)) 3 #[.int .i64 m]
        rw [hsz] at hnew
        have own := Own.of_blk (base := w.heap.size) (xs := [m]) (enc := eI) hnew (by omega) encI (by simp [maxLen])
        simp only [List.length_singleton] at own
        have c8b := (B8b.alloc (.cells #[.int .i64 m] 3)).c0
        have B8c := B8.alloc (.cells #[.int .i64 m] 3)
        have c8 := B8c.c0
        have f8 := B8c.frozen
        clear hsz hnew B8b B8c
        go_wp2
        exact bodyPost_ret (v := hoV (([m], 0), .slice (some ⟨w3.heap.size, 0, none⟩) 1 1)) (by simp [results, Try.results47, go_sem, hoV, c8b]) rfl ⟨(([m], 0), .slice (some ⟨w3.heap.size, 0, none⟩) 1 1), rfl, own, hres.out, hb4⟩
      · have hkb : (kind == (1 : Int)) = false := by rw [beq_eq_false_iff_ne]; exact hk
        unfold sendH at hrs
        rw [if_neg hk, HX.out] at hrs
        by_cases hroom : (n : Int) < size
        · rw [if_pos hroom] at hrs
          have hres := Lib.hid hrs
          clear hrs hk
          go_enter Try.func47, Try.ntmps47
          skip
          have cB4_0 := B4.c0; have fB4 := B4.frozen; have cB8_0 := B8.c0; have fB8 := B8.frozen
          go_wp2_with fail
          refine (h1 _ hb0).mono ?_
          rintro e w1 ⟨⟨A9, n9, c9, l9⟩, rfl, ⟨hsl9, hfr9, hnil9, -⟩, hl9, hbw1⟩
          simp only [SV.v] at hsl9 hl9 hfr9 hnil9 ⊢
          subst hl9
          have HL9 := Lib.hid hsl9.len
          replace B4 := B4.below hbw1
          replace B8 := B8.below hbw1
          have hb1 := thn hb0 hbw1
          have hz1 : w.heap.size + 1 < w1.heap.size := B8.lt
          clear cB4_0 fB4 cB8_0 fB8
          have sl9 : Sl (w1.setCell ⟨w.heap.size, 0, none⟩ (.slice A9 n9 c9)) 1 eI A9 n9 c9 l9 := hsl9.keep (by simp [World.setCell]) (fun b o e => Below.heap_setCell _ _ _ _ (by have := hfr9 b o e; simp at this; simp only []; omega))
          have hv := specHoldValid_any A9 n9 c9 l9 kind size (w1.setCell ⟨w.heap.size, 0, none⟩ (.slice A9 n9 c9)) sl9
          rw [hok] at hv
          have B4a : Blk (w1.setCell ⟨w.heap.size, 0, none⟩ (.slice A9 n9 c9)) w.heap.size 52 #[.slice A9 n9 c9] := B4.set_ 0 _
          have B8a := B8.far (p := ⟨w.heap.size, 0, none⟩) (by simp only []; omega) (.slice A9 n9 c9)
          have hb2 := hb1.setCell (p := ⟨w.heap.size, 0, none⟩) (Nat.le_refl _) (.slice A9 n9 c9)
          have c4 := B4.c0
          have f4 := B4.frozen
          have c4a := B4a.c0
          go_wp2_with fail
          refine hv.mono ?_
          rintro e w3 ⟨rfl, hb3⟩
          clear B4 B8 c4 f4 c4a hsl9 hv hb1
          have B4 := B4a.below hb3
          have B8 := B8a.below hb3
          replace sl9 := sl9.below hb3
          have hbw := thn hb2 hb3
          have hz3 : w.heap.size + 1 < w3.heap.size := B8.lt
          clear B4a B8a hb2 hb3
          skip
          skip
          have cB4_0 := B4.c0; have fB4 := B4.frozen; have cB8_0 := B8.c0; have fB8 := B8.frozen
          go_wp2_with fail
          try (refine (hl _).mono ?_; rintro e w' ⟨rfl, rfl⟩)
          obtain rfl : n9 = n := HL9.out.symm.trans HX.out
          have hle9 := sl9.le
          have hmax9 := sl9.max
          have own0 : Own (w3.alloc (.cells #[] 3)) w3.heap.size 3 1 eI _ ([] : List Int) := Own.of_blk (Blk.new w3 3 #[]) (Nat.le_refl _) encI (by simp [maxLen])
          have hb4 := alo hbw (.cells #[] 3)
          have src := sl9.below (alo (Below.refl _ _) (.cells #[] 3))
          have B4z := B4.alloc (.cells #[] 3)
          have B8z := B8.alloc (.cells #[] 3)
          have y1 := B4z.c0
          go_upto_region 7 with (at_builtin; refine app_own rfl _ _ appInt rfl encI w3.heap.size _ [] rfl own0 _ _ _ l9 rfl hnil9 src (by simp; omega) (by simp) ?_; intro v5 w5 own5 hg5; have B4a := B4z.app own0 hg5 (by omega); have B8a := B8z.app own0 hg5 (by omega); have hb5 := belowApp hb4 own0 hg5 (by omega) hb4.size; simp only [List.nil_append] at own5; obtain ⟨A5, c5, hvv, -, -, -⟩ := own5.sl encI; rw [HL9.out] at hvv; subst hvv; have e1 := B4a.c0; have e2 := (B4a.alloc (.cells #[.slice A5 n9 c5] 52)).c0)
          have B10 := Blk.new w5 52 #[.slice A5 n9 c5]
          replace B4 := B4a.alloc (.cells #[.slice A5 n9 c5] 52)
          replace B8 := B8a.alloc (.cells #[.slice A5 n9 c5] 52)
          replace own5 := own5.alloc (.cells #[.slice A5 n9 c5] 52)
          have hb6 := alo hb5 (.cells #[.slice A5 n9 c5] 52)
          have hg8 : w3.heap.size < w5.heap.size := by have := hg5.size; simp at this; omega
          clear B4z B8z B4a B8a own0 hb4 src hg5 e1 e2 y1 cB4_0 fB4 cB8_0 fB8 sl9 hb5 hbw
          have hbw := hb6
          clear hb6
          generalize w5.alloc (.cells #[.slice A5 n9 c5] 52) = w6 at *
          generalize w5.heap.size = g8 at *
          skip
          have cB4_0 := B4.c0; have fB4 := B4.frozen; have cB8_0 := B8.c0; have fB8 := B8.frozen; have cB10_0 := B10.c0; have fB10 := B10.frozen
          have own6 := own5.alloc (.cells #[.int .i64 m] 3)
          have src := Sl.of_blk (xs := [m]) (Blk.new w6 3 #[.int .i64 m]) encI (by simp)
          have hb7 := alo hbw (.cells #[.int .i64 m] 3)
          have B4z := B4.alloc (.cells #[.int .i64 m] 3)
          have B8z := B8.alloc (.cells #[.int .i64 m] 3)
          have B10z := B10.alloc (.cells #[.int .i64 m] 3)
          have hlen1 : l9.length + 1 ≤ 100000000 := by omega
          have hz6 := B10.lt
          go_upto_region 9 with (at_builtin; refine app_own rfl _ _ appInt rfl encI w3.heap.size _ l9 rfl own6 _ 1 1 [m] rfl (fun e => by cases e) src hlen1 (by simp; omega) ?_; intro v7 w7 own7 hg7; have B8a := B8z.app own6 hg7 (by omega); have B10a := B10z.appO hg7 (own6.neBlk B10z (by decide)); have hb8 := belowApp hb7 own6 hg7 (by omega) hb7.size; obtain ⟨A7, c7, hvv, -, -, -⟩ := own7.sl encI; rw [List.length_append, List.length_singleton, HL9.out] at hvv; subst hvv; have e3 := B10a.c0; have e4 := B10a.frozen)
          have B10w := B10a.set_ 0 (.slice A7 (n9 + 1) c7)
          have B8w := B8a.far (p := ⟨g8, 0, none⟩) (by simp only []; omega) (.slice A7 (n9 + 1) c7)
          have own8 := own7.farNe (p := ⟨g8, 0, none⟩) (own7.neBlk B10a (by decide)) (.slice A7 (n9 + 1) c7)
          have hb9 := hb8.setCell (p := ⟨g8, 0, none⟩) (by simp only []; omega) (.slice A7 (n9 + 1) c7)
          clear B4 B8 B10 cB4_0 cB8_0 cB10_0 fB4 fB8 fB10 e3 e4 B4z B8z B10z hbw hb7 own6 own5 src hg7
          generalize w7.setCell ⟨g8, 0, none⟩ (.slice A7 (n9 + 1) c7) = w8 at *
          have x1 := B10w.c0
          have x2 := B8w.c0
          have x3 := B8w.frozen
          have e9 := (B8w.set_ 0 (.slice A7 (n9 + 1) c7)).c0
          go_wp2
          exact bodyPost_ret (v := hoV ((l9 ++ [m], 0), .slice A7 (n9 + 1) c7)) (by simp [results, Try.results47, go_sem, hoV, e9, x2]) rfl ⟨((l9 ++ [m], 0), .slice A7 (n9 + 1) c7), rfl, ((own8.far (p := ⟨w.heap.size + 1, 0, none⟩) (by simp only []; omega) _).low (by omega)), hres.out, hb9.setCell (p := ⟨w.heap.size + 1, 0, none⟩) (by simp only []; omega) _⟩
        · rw [if_neg hroom] at hrs
          have hroom' : decide ((n : Int) < size) = false := decide_eq_false hroom
          cases h3 : (kind == (3 : Int))
          · rw [h3] at hrs
            have hres := Lib.hid (show (xs, 0) = res from hrs)
            clear hrs hk
            go_enter Try.func47, Try.ntmps47
            skip
            have cB4_0 := B4.c0; have fB4 := B4.frozen; have cB8_0 := B8.c0; have fB8 := B8.frozen
            go_wp2_with fail
            refine (h1 _ hb0).mono ?_
            rintro e w1 ⟨⟨A9, n9, c9, l9⟩, rfl, ⟨hsl9, hfr9, hnil9, -⟩, hl9, hbw1⟩
            simp only [SV.v] at hsl9 hl9 hfr9 hnil9 ⊢
            subst hl9
            have HL9 := Lib.hid hsl9.len
            replace B4 := B4.below hbw1
            replace B8 := B8.below hbw1
            have hb1 := thn hb0 hbw1
            have hz1 : w.heap.size + 1 < w1.heap.size := B8.lt
            clear cB4_0 fB4 cB8_0 fB8
            have sl9 : Sl (w1.setCell ⟨w.heap.size, 0, none⟩ (.slice A9 n9 c9)) 1 eI A9 n9 c9 l9 := hsl9.keep (by simp [World.setCell]) (fun b o e => Below.heap_setCell _ _ _ _ (by have := hfr9 b o e; simp at this; simp only []; omega))
            have hv := specHoldValid_any A9 n9 c9 l9 kind size (w1.setCell ⟨w.heap.size, 0, none⟩ (.slice A9 n9 c9)) sl9
            rw [hok] at hv
            have B4a : Blk (w1.setCell ⟨w.heap.size, 0, none⟩ (.slice A9 n9 c9)) w.heap.size 52 #[.slice A9 n9 c9] := B4.set_ 0 _
            have B8a := B8.far (p := ⟨w.heap.size, 0, none⟩) (by simp only []; omega) (.slice A9 n9 c9)
            have hb2 := hb1.setCell (p := ⟨w.heap.size, 0, none⟩) (Nat.le_refl _) (.slice A9 n9 c9)
            have c4 := B4.c0
            have f4 := B4.frozen
            have c4a := B4a.c0
            go_wp2_with fail
            refine hv.mono ?_
            rintro e w3 ⟨rfl, hb3⟩
            clear B4 B8 c4 f4 c4a hsl9 hv hb1
            have B4 := B4a.below hb3
            have B8 := B8a.below hb3
            replace sl9 := sl9.below hb3
            have hbw := thn hb2 hb3
            have hz3 : w.heap.size + 1 < w3.heap.size := B8.lt
            clear B4a B8a hb2 hb3
            skip
            skip
            have cB4_0 := B4.c0; have fB4 := B4.frozen; have cB8_0 := B8.c0; have fB8 := B8.frozen
            go_wp2_with fail
            try (refine (hl _).mono ?_; rintro e w' ⟨rfl, rfl⟩)
            obtain rfl : n9 = n := HL9.out.symm.trans HX.out
            have hle9 := sl9.le
            have hmax9 := sl9.max
            have own0 : Own (w3.alloc (.cells #[] 3)) w3.heap.size 3 1 eI _ ([] : List Int) := Own.of_blk (Blk.new w3 3 #[]) (Nat.le_refl _) encI (by simp [maxLen])
            have hb4 := alo hbw (.cells #[] 3)
            have src := sl9.below (alo (Below.refl _ _) (.cells #[] 3))
            have B4z := B4.alloc (.cells #[] 3)
            have B8z := B8.alloc (.cells #[] 3)
            have y1 := B4z.c0
            go_upto_region 7 with (at_builtin; refine app_own rfl _ _ appInt rfl encI w3.heap.size _ [] rfl own0 _ _ _ l9 rfl hnil9 src (by simp; omega) (by simp) ?_; intro v5 w5 own5 hg5; have B4a := B4z.app own0 hg5 (by omega); have B8a := B8z.app own0 hg5 (by omega); have hb5 := belowApp hb4 own0 hg5 (by omega) hb4.size; simp only [List.nil_append] at own5; obtain ⟨A5, c5, hvv, -, -, -⟩ := own5.sl encI; rw [HL9.out] at hvv; subst hvv; have e1 := B4a.c0; have e2 := (B4a.alloc (.cells #[.slice A5 n9 c5] 52)).c0)
            have B10 := Blk.new w5 52 #[.slice A5 n9 c5]
            replace B4 := B4a.alloc (.cells #[.slice A5 n9 c5] 52)
            replace B8 := B8a.alloc (.cells #[.slice A5 n9 c5] 52)
            replace own5 := own5.alloc (.cells #[.slice A5 n9 c5] 52)
            have hb6 := alo hb5 (.cells #[.slice A5 n9 c5] 52)
            have hg8 : w3.heap.size < w5.heap.size := by have := hg5.size; simp at this; omega
            clear B4z B8z B4a B8a own0 hb4 src hg5 e1 e2 y1 cB4_0 fB4 cB8_0 fB8 sl9 hb5 hbw
            have hbw := hb6
            clear hb6
            generalize w5.alloc (.cells #[.slice A5 n9 c5] 52) = w6 at *
            generalize w5.heap.size = g8 at *
            skip
            have cB4_0 := B4.c0; have fB4 := B4.frozen; have cB8_0 := B8.c0; have fB8 := B8.frozen; have cB10_0 := B10.c0; have fB10 := B10.frozen
            have B8w := B8.set_ 0 (.slice A5 n9 c5)
            have e9 := B8w.c0
            go_wp2
            exact bodyPost_ret (v := hoV ((l9, 0), .slice A5 n9 c5)) (by simp [results, Try.results47, go_sem, hoV, e9, cB8_0]) rfl ⟨((l9, 0), .slice A5 n9 c5), rfl, ((own5.far (p := ⟨w.heap.size + 1, 0, none⟩) (by simp only []; omega) _).low (by omega)), hres.out, hbw.setCell (p := ⟨w.heap.size + 1, 0, none⟩) (by simp only []; omega) _⟩
          · rw [h3] at hrs
            have hres := Lib.hid (show (xs, 1) = res from hrs)
            clear hrs hk
            go_enter Try.func47, Try.ntmps47
            skip
            have cB4_0 := B4.c0; have fB4 := B4.frozen; have cB8_0 := B8.c0; have fB8 := B8.frozen
            go_wp2_with fail
            refine (h1 _ hb0).mono ?_
            rintro e w1 ⟨⟨A9, n9, c9, l9⟩, rfl, ⟨hsl9, hfr9, hnil9, -⟩, hl9, hbw1⟩
            simp only [SV.v] at hsl9 hl9 hfr9 hnil9 ⊢
            subst hl9
            have HL9 := Lib.hid hsl9.len
            replace B4 := B4.below hbw1
            replace B8 := B8.below hbw1
            have hb1 := thn hb0 hbw1
            have hz1 : w.heap.size + 1 < w1.heap.size := B8.lt
            clear cB4_0 fB4 cB8_0 fB8
            have sl9 : Sl (w1.setCell ⟨w.heap.size, 0, none⟩ (.slice A9 n9 c9)) 1 eI A9 n9 c9 l9 := hsl9.keep (by simp [World.setCell]) (fun b o e => Below.heap_setCell _ _ _ _ (by have := hfr9 b o e; simp at this; simp only []; omega))
            have hv := specHoldValid_any A9 n9 c9 l9 kind size (w1.setCell ⟨w.heap.size, 0, none⟩ (.slice A9 n9 c9)) sl9
            rw [hok] at hv
            have B4a : Blk (w1.setCell ⟨w.heap.size, 0, none⟩ (.slice A9 n9 c9)) w.heap.size 52 #[.slice A9 n9 c9] := B4.set_ 0 _
            have B8a := B8.far (p := ⟨w.heap.size, 0, none⟩) (by simp only []; omega) (.slice A9 n9 c9)
            have hb2 := hb1.setCell (p := ⟨w.heap.size, 0, none⟩) (Nat.le_refl _) (.slice A9 n9 c9)
            have c4 := B4.c0
            have f4 := B4.frozen
            have c4a := B4a.c0
            go_wp2_with fail
            refine hv.mono ?_
            rintro e w3 ⟨rfl, hb3⟩
            clear B4 B8 c4 f4 c4a hsl9 hv hb1
            have B4 := B4a.below hb3
            have B8 := B8a.below hb3
            replace sl9 := sl9.below hb3
            have hbw := thn hb2 hb3
            have hz3 : w.heap.size + 1 < w3.heap.size := B8.lt
            clear B4a B8a hb2 hb3
            skip
            skip
            have cB4_0 := B4.c0; have fB4 := B4.frozen; have cB8_0 := B8.c0; have fB8 := B8.frozen
            go_wp2_with fail
            try (refine (hl _).mono ?_; rintro e w' ⟨rfl, rfl⟩)
            obtain rfl : n9 = n := HL9.out.symm.trans HX.out
            have hle9 := sl9.le
            have hmax9 := sl9.max
            have own0 : Own (w3.alloc (.cells #[] 3)) w3.heap.size 3 1 eI _ ([] : List Int) := Own.of_blk (Blk.new w3 3 #[]) (Nat.le_refl _) encI (by simp [maxLen])
            have hb4 := alo hbw (.cells #[] 3)
            have src := sl9.below (alo (Below.refl _ _) (.cells #[] 3))
            have B4z := B4.alloc (.cells #[] 3)
            have B8z := B8.alloc (.cells #[] 3)
            have y1 := B4z.c0
            go_upto_region 7 with (at_builtin; refine app_own rfl _ _ appInt rfl encI w3.heap.size _ [] rfl own0 _ _ _ l9 rfl hnil9 src (by simp; omega) (by simp) ?_; intro v5 w5 own5 hg5; have B4a := B4z.app own0 hg5 (by omega); have B8a := B8z.app own0 hg5 (by omega); have hb5 := belowApp hb4 own0 hg5 (by omega) hb4.size; simp only [List.nil_append] at own5; obtain ⟨A5, c5, hvv, -, -, -⟩ := own5.sl encI; rw [HL9.out] at hvv; subst hvv; have e1 := B4a.c0; have e2 := (B4a.alloc (.cells #[.slice A5 n9 c5] 52)).c0)
            have B10 := Blk.new w5 52 #[.slice A5 n9 c5]
            replace B4 := B4a.alloc (.cells #[.slice A5 n9 c5] 52)
            replace B8 := B8a.alloc (.cells #[.slice A5 n9 c5] 52)
            replace own5 := own5.alloc (.cells #[.slice A5 n9 c5] 52)
            have hb6 := alo hb5 (.cells #[.slice A5 n9 c5] 52)
            have hg8 : w3.heap.size < w5.heap.size := by have := hg5.size; simp at this; omega
            clear B4z B8z B4a B8a own0 hb4 src hg5 e1 e2 y1 cB4_0 fB4 cB8_0 fB8 sl9 hb5 hbw
            have hbw := hb6
            clear hb6
            generalize w5.alloc (.cells #[.slice A5 n9 c5] 52) = w6 at *
            generalize w5.heap.size = g8 at *
            skip
            have cB4_0 := B4.c0; have fB4 := B4.frozen; have cB8_0 := B8.c0; have fB8 := B8.frozen; have cB10_0 := B10.c0; have fB10 := B10.frozen
            have B8w := B8.set_ 0 (.slice A5 n9 c5)
            have e9 := B8w.c0
            go_wp2
            exact bodyPost_ret (v := hoV ((l9, 1), .slice A5 n9 c5)) (by simp [results, Try.results47, go_sem, hoV, e9, cB8_0]) rfl ⟨((l9, 1), .slice A5 n9 c5), rfl, ((own5.far (p := ⟨w.heap.size + 1, 0, none⟩) (by simp only []; omega) _).low (by omega)), hres.out, hbw.setCell (p := ⟨w.heap.size + 1, 0, none⟩) (by simp only []; omega) _⟩
end Go.Proofs.Ytenbpaoelipifaa
