/- HoldTake of spec. -/
import Derived.Test.YtenbpaoelipifaaHoldT
import Derived.Test.YtenbpaoelipifaaOwnX
import Derived.Deep.RegionHeld3
import Derived.Deep.Cut
namespace Go.Proofs.Ytenbpaoelipifaa
set_option linter.unusedVariables false
set_option linter.unusedSimpArgs false
open Go.RowKit

theorem Sl.app0 {α β : Type} {w w' : World} {base E k k' n c : Nat} {enc : α → List Value} {enc' : β → List Value} {v : Value} {xs : List α} {ys : List β} {A : Option Addr} (h : Sl w k' enc' A n c ys) (hown : Own w base E k enc v xs) (hg : w.grownBy w' v.ownBlock) (hA : 0 < n → ∀ b o, A = some ⟨b, o, none⟩ → b < base) : Sl w' k' enc' A n c ys := by
  by_cases hn : 0 < n
  · exact h.app hown hg (hA hn)
  · exact ⟨h.len, h.le, h.max, fun h => absurd h hn⟩
def hoV (x : (List Int × Int) × Value) : Value := .tuple #[.agg #[x.2], .int .i64 x.1.2]
set_option maxRecDepth 100000 in
set_option maxHeartbeats 2000000 in
theorem specHoldTake_any (A : Option Addr) (n c : Nat) (xs : List Int) (kind size : Int) (hn : n ≤ 2000000) (hnil : A = none → c = 0) (w : World) (hs : Sl w 1 eI A n c xs) :
    Calls Try.prog 31 #[.agg #[.slice A n c], .int .i64 kind, .int .i64 size] w (Post hoV fun x w' => Own w' w.heap.size 3 1 eI x.2 x.1.1 ∧ x.1 = holdTake xs kind size ∧ Below w.heap.size w w') := by
  have hb0 := alo (alo (Below.refl w.heap.size w) (.cells #[.slice A n c] 52)) (.cells #[.slice none 0 0] 52)
  have B3 := (Blk.new w 52 #[.slice A n c]).alloc (.cells #[.slice none 0 0] 52)
  have B6 := Blk.new2 w (.cells #[.slice A n c] 52) 52 #[.slice none 0 0]
  have h1 := fun W hW => ownHold_any A n c xs hn hnil W (hs.below hW)
  skip
  unfold holdTake
  cases hok : holdOk xs kind size
  · simp only [Bool.false_eq_true, if_false]
    go_enter Try.func31, Try.ntmps31
    skip
    have cB3_0 := B3.c0; have fB3 := B3.frozen; have cB6_0 := B6.c0; have fB6 := B6.frozen
    go_wp2_with fail
    refine (h1 _ hb0).mono ?_
    rintro e w1 ⟨⟨A9, n9, c9, l9⟩, rfl, ⟨hsl9, hfr9, hnil9, -⟩, hl9, hbw1⟩
    simp only [SV.v] at hsl9 hl9 hfr9 hnil9 ⊢
    subst hl9
    have hlen9 := hsl9.len
    replace B3 := B3.below hbw1
    replace B6 := B6.below hbw1
    have hb1 := thn hb0 hbw1
    have hz1 : w.heap.size + 1 < w1.heap.size := B6.lt
    clear cB3_0 fB3 cB6_0 fB6
    have sl9 : Sl (w1.setCell ⟨w.heap.size, 0, none⟩ (.slice A9 n9 c9)) 1 eI A9 n9 c9 l9 := hsl9.keep (by simp [World.setCell]) (fun b o e => Below.heap_setCell _ _ _ _ (by have := hfr9 b o e; simp at this; simp only []; omega))
    have hv := specHoldValid_any A9 n9 c9 l9 kind size (w1.setCell ⟨w.heap.size, 0, none⟩ (.slice A9 n9 c9)) sl9
    rw [hok] at hv
    have B3a : Blk (w1.setCell ⟨w.heap.size, 0, none⟩ (.slice A9 n9 c9)) w.heap.size 52 #[.slice A9 n9 c9] := B3.set_ 0 _
    have B6a := B6.far (p := ⟨w.heap.size, 0, none⟩) (by simp only []; omega) (.slice A9 n9 c9)
    have hb2 := hb1.setCell (p := ⟨w.heap.size, 0, none⟩) (Nat.le_refl _) (.slice A9 n9 c9)
    have c4 := B3.c0
    have f4 := B3.frozen
    have c4a := B3a.c0
    go_wp2_with fail
    refine hv.mono ?_
    rintro e w3 ⟨rfl, hb3⟩
    clear B3 B6 c4 f4 c4a hsl9 hv hb1
    have B3 := B3a.below hb3
    have B6 := B6a.below hb3
    replace sl9 := sl9.below hb3
    have hbw := thn hb2 hb3
    have hz3 : w.heap.size + 1 < w3.heap.size := B6.lt
    clear B3a B6a hb2 hb3
    skip
    skip
    have cB3_0 := B3.c0; have fB3 := B3.frozen; have cB6_0 := B6.c0; have fB6 := B6.frozen
    go_wp2
    exact bodyPost_ret (v := hoV (([], -1), .slice none 0 0)) (by simp [results, Try.results31, go_sem, hoV, cB6_0]) rfl ⟨(([], -1), .slice none 0 0), rfl, Own.nil, rfl, hbw.setCell (p := ⟨w.heap.size + 1, 0, none⟩) (by simp only []; omega) _⟩
  · simp only [if_true]
    have hl4 := holdOk_len hok
    obtain ⟨res, hres⟩ : ∃ res, takeL kind xs = res := ⟨_, rfl⟩
    rw [hres]
    replace hres := Lib.hid hres
    go_enter Try.func31, Try.ntmps31
    skip
    have cB3_0 := B3.c0; have fB3 := B3.frozen; have cB6_0 := B6.c0; have fB6 := B6.frozen
    go_wp2_with fail
    refine (h1 _ hb0).mono ?_
    rintro e w1 ⟨⟨A9, n9, c9, l9⟩, rfl, ⟨hsl9, hfr9, hnil9, -⟩, hl9, hbw1⟩
    simp only [SV.v] at hsl9 hl9 hfr9 hnil9 ⊢
    subst hl9
    have hlen9 := hsl9.len
    replace B3 := B3.below hbw1
    replace B6 := B6.below hbw1
    have hb1 := thn hb0 hbw1
    have hz1 : w.heap.size + 1 < w1.heap.size := B6.lt
    clear cB3_0 fB3 cB6_0 fB6
    have sl9 : Sl (w1.setCell ⟨w.heap.size, 0, none⟩ (.slice A9 n9 c9)) 1 eI A9 n9 c9 l9 := hsl9.keep (by simp [World.setCell]) (fun b o e => Below.heap_setCell _ _ _ _ (by have := hfr9 b o e; simp at this; simp only []; omega))
    have hv := specHoldValid_any A9 n9 c9 l9 kind size (w1.setCell ⟨w.heap.size, 0, none⟩ (.slice A9 n9 c9)) sl9
    rw [hok] at hv
    have B3a : Blk (w1.setCell ⟨w.heap.size, 0, none⟩ (.slice A9 n9 c9)) w.heap.size 52 #[.slice A9 n9 c9] := B3.set_ 0 _
    have B6a := B6.far (p := ⟨w.heap.size, 0, none⟩) (by simp only []; omega) (.slice A9 n9 c9)
    have hb2 := hb1.setCell (p := ⟨w.heap.size, 0, none⟩) (Nat.le_refl _) (.slice A9 n9 c9)
    have c4 := B3.c0
    have f4 := B3.frozen
    have c4a := B3a.c0
    go_wp2_with fail
    refine hv.mono ?_
    rintro e w3 ⟨rfl, hb3⟩
    clear B3 B6 c4 f4 c4a hsl9 hv hb1
    have B3 := B3a.below hb3
    have B6 := B6a.below hb3
    replace sl9 := sl9.below hb3
    have hbw := thn hb2 hb3
    have hz3 : w.heap.size + 1 < w3.heap.size := B6.lt
    clear B3a B6a hb2 hb3
    skip
    skip
    have cB3_0 := B3.c0; have fB3 := B3.frozen; have cB6_0 := B6.c0; have fB6 := B6.frozen
    have hle9 := sl9.le
    have hmax9 := sl9.max
    have own0 : Own (w3.alloc (.cells #[] 3)) w3.heap.size 3 1 eI _ ([] : List Int) := Own.of_blk (Blk.new w3 3 #[]) (Nat.le_refl _) encI (by simp [maxLen])
    have hb4 := alo hbw (.cells #[] 3)
    have src := sl9.below (alo (Below.refl _ _) (.cells #[] 3))
    have B3z := B3.alloc (.cells #[] 3)
    have B6z := B6.alloc (.cells #[] 3)
    have y1 := B3z.c0
    have lt9 : 0 < n9 → ∀ b o, A9 = some ⟨b, o, none⟩ → b < w3.heap.size := fun h b o e => by
      obtain ⟨b', o', e', h', -⟩ := sl9.cells h
      rw [e] at e'
      injection e' with e'
      injection e' with e1 _
      omega
    go_upto_region 5 with (at_builtin; refine app_own rfl _ _ appInt rfl encI w3.heap.size _ [] rfl own0 _ _ _ l9 rfl hnil9 src (by simp; omega) (by simp) ?_; intro v5 w5 own5 hg5; have B3a := B3z.app own0 hg5 (by omega); have B6a := B6z.app own0 hg5 (by omega); have hb5 := belowApp hb4 own0 hg5 (by omega) hb4.size; simp only [List.nil_append] at own5; obtain ⟨A5, c5, hvv, -, -, -⟩ := own5.sl encI; rw [hlen9] at hvv; subst hvv; have e1 := B3a.c0; have e2 := (B3a.alloc (.cells #[.slice A5 n9 c5] 52)).c0)
    have B8 := Blk.new w5 52 #[.slice A5 n9 c5]
    replace B3 := B3a.alloc (.cells #[.slice A5 n9 c5] 52)
    replace B6 := B6a.alloc (.cells #[.slice A5 n9 c5] 52)
    replace own5 := own5.alloc (.cells #[.slice A5 n9 c5] 52)
    have hsl5 := (src.app0 own0 hg5 lt9).below (alo (Below.refl _ _) (.cells #[.slice A5 n9 c5] 52))
    have hb6 := alo hb5 (.cells #[.slice A5 n9 c5] 52)
    have hg8 : w3.heap.size < w5.heap.size := by have := hg5.size; simp at this; omega
    clear B3z B6z B3a B6a own0 hb4 src hg5 e1 e2 y1 cB3_0 fB3 cB6_0 fB6 sl9 hb5 hbw
    have hbw := hb6
    have sl9 := hsl5
    clear hb6 hsl5
    generalize w5.alloc (.cells #[.slice A5 n9 c5] 52) = w6 at *
    generalize w5.heap.size = g8 at *
    have HL9 := Lib.hid hlen9
    clear hlen9
    skip
    by_cases hn0 : 0 < n9
    · obtain ⟨b, o, rfl, y, hy, hc⟩ := sl9.nth (kk := 0) hn0 (Below.refl _ _)
      have q0 := hc 0 _ rfl
      simp only [eI, Nat.add_zero, Nat.mul_one, Nat.zero_mul] at q0
      have hbl : b < w3.heap.size := lt9 hn0 b o rfl
      obtain ⟨t, rfl⟩ : ∃ t, l9 = y :: t := by
        cases l9 with
        | nil => cases hy
        | cons z t => injection hy with hy; rw [hy]; exact ⟨t, rfl⟩
      have hne1 : ¬ b = w.heap.size + 1 := by
        have := hfr9 b o rfl
        simp at this
        omega
      have hne2 : ¬ w.heap.size + 1 = b := fun h => hne1 h.symm
      have hne3 : ¬ g8 = w.heap.size + 1 := by omega
      have hne4 : ¬ w.heap.size + 1 = g8 := by omega
      have hnz : ((n9 : Int) == 0) = false := by rw [beq_eq_false_iff_ne]; omega
      have hn2 : 1 ≤ n9 := hn0
      have hn3 : (1 : Int) ≤ (n9 : Int) := by omega
      have hn4 : (0 : Int) < (n9 : Int) := by omega
      by_cases hk : kind = 1
      · have hkb : (kind == (1 : Int)) = true := by rw [beq_iff_eq]; exact hk
        have hkb2 : (kind != (1 : Int)) = false := by simp [hk]
        replace hres := Lib.hid (show (y :: t, y) = res by rw [← hres.out]; simp only [takeL, hk, if_true])
        clear hc hy hk
        have cB3_0 := B3.c0; have fB3 := B3.frozen; have cB6_0 := B6.c0; have fB6 := B6.frozen; have cB8_0 := B8.c0; have fB8 := B8.frozen
        go_wp2_with fail
        go_region_held3 (fun w' => w'.cell? ⟨w.heap.size, 0, none⟩ = some (.slice (some ⟨b, o, none⟩) (n9) (c9)) ∧ w'.cell? ⟨g8, 0, none⟩ = some (.slice A5 n9 c5) ∧ w'.cell? ⟨b, o, none⟩ = some (.int .i64 y)) (go_keep) (fail)
        all_goals
          have B6w := B6.drew.set_ 0 (.slice A5 n9 c5)
          have e9 := B6w.c0
          go_wp2
          exact bodyPost_ret (v := hoV ((y :: t, y), .slice A5 n9 c5)) (by simp [results, Try.results31, go_sem, hoV, e9, cB6_0]) rfl ⟨((y :: t, y), .slice A5 n9 c5), rfl, ((own5.drew.far (p := ⟨w.heap.size + 1, 0, none⟩) (by simp only []; omega) _).low (by omega)), hres.out, hbw.drew.setCell (p := ⟨w.heap.size + 1, 0, none⟩) (by simp only []; omega) _⟩
      · have hkb : (kind == (1 : Int)) = false := by rw [beq_eq_false_iff_ne]; exact hk
        have hkb2 : (kind != (1 : Int)) = true := by simp [hk]
        replace hres := Lib.hid (show (t, y) = res by rw [← hres.out]; simp only [takeL, hk, if_false])
        have hd := sl9.from1 1 hn2
        simp only [Option.map_some, Addr.add_lit, List.drop_succ_cons, List.drop_zero] at hd
        have hcl : ∃ bb oo, (if c9 = 1 then some (⟨b, o, none⟩ : Addr) else some ⟨b, o + 1, none⟩) = some ⟨bb, oo, none⟩ := by split <;> exact ⟨_, _, rfl⟩
        obtain ⟨bb, oo, hbb⟩ := hcl
        rw [hbb] at hd
        have own0 : Own (w6.alloc (.cells #[] 3)) w6.heap.size 3 1 eI _ ([] : List Int) := Own.of_blk (Blk.new w6 3 #[]) (Nat.le_refl _) encI (by simp [maxLen])
        have hb4 := alo hbw (.cells #[] 3)
        have src := hd.below (alo (Below.refl _ _) (.cells #[] 3))
        have B3z := B3.alloc (.cells #[] 3)
        have B6z := B6.alloc (.cells #[] 3)
        have B8z := B8.alloc (.cells #[] 3)
        have q0z := (World.cell?_of_block (w := w6) (Below.heap_alloc w6 (.cells #[] 3) b (World.block_lt_of_cell? _ _ q0))).trans q0
        have hz8 := B8.lt
        have hz6 := B6.lt
        have hlt := HL9.out
        have hlt2 : n9 - 1 ≤ 100 := by omega
        clear hc hy hk hd sl9 own5 hlt
        have cB3_0 := B3.c0; have fB3 := B3.frozen; have cB6_0 := B6.c0; have fB6 := B6.frozen; have cB8_0 := B8.c0; have fB8 := B8.frozen
        have y1 := B3z.c0
        by_cases hc1 : c9 = 1
        · rw [if_pos hc1] at hbb
          obtain ⟨rfl, rfl⟩ : b = bb ∧ o = oo := by injection hbb with hbb; injection hbb with h1 h2; exact ⟨h1, h2⟩
          obtain rfl : c9 = 1 := hc1
          obtain rfl : n9 = 1 := by omega
          clear hbb hn0 hn2 hn3 hnz hn4
          go_upto_region 9 with (at_builtin; refine app_own rfl _ _ appInt rfl encI w6.heap.size _ [] rfl own0 _ _ _ t rfl (fun e => by cases e) src (by simp <;> omega) (by simp) ?_; intro v7 w7 own7 hg7; have B3a := B3z.app own0 hg7 (by omega); have B6a := B6z.app own0 hg7 (by omega); have B8a := B8z.app own0 hg7 (by omega); have hb7 := belowApp hb4 own0 hg7 (by omega) hb4.size; simp only [List.nil_append] at own7; obtain ⟨A7, c7, rfl, -, -, -⟩ := own7.sl encI; have q7 := (World.cell?_of_block (w := w6.alloc (.cells #[] 3)) (hg7.block b (by have := World.block_lt_of_cell? _ _ q0z; exact this) (fun e => by have := own0.lt b e.symm; have := World.block_lt_of_cell? _ _ q0; omega))).trans q0z; have y2 := B8a.c0; have y3 := B8a.frozen)
          have own5 := own7.far (p := ⟨g8, 0, none⟩) (by simp only []; omega) (.slice A7 t.length c7)
          have B3v := B3a.far (p := ⟨g8, 0, none⟩) (by simp only []; omega) (.slice A7 t.length c7)
          have B6v := B6a.far (p := ⟨g8, 0, none⟩) (by simp only []; omega) (.slice A7 t.length c7)
          have B8v : Blk (w7.setCell ⟨g8, 0, none⟩ (.slice A7 t.length c7)) g8 52 #[.slice A7 t.length c7] := B8a.set_ 0 _
          have hb8 := hb7.setCell (p := ⟨g8, 0, none⟩) (by simp only []; omega) (.slice A7 t.length c7)
          have q8 := (World.cell?_of_block (w := w7) (Below.heap_setCell w7 ⟨g8, 0, none⟩ (.slice A7 t.length c7) b (by simp only []; omega))).trans q7
          clear B3 B6 B8 B3z B6z B8z B3a B6a B8a q7 q0 q0z hbw hb4 hb7 cB3_0 fB3 cB6_0 fB6 cB8_0 fB8 y1 y2 y3 own7 hg7 own0 src
          generalize w7.setCell ⟨g8, 0, none⟩ (.slice A7 t.length c7) = w8 at *
          have B3 := B3v
          have B6 := B6v
          have B8 := B8v
          have q0 := q8
          have hbw := hb8
          clear B3v B6v B8v q8 hb8
          skip
          have cB3_0 := B3.c0; have fB3 := B3.frozen; have cB6_0 := B6.c0; have fB6 := B6.frozen; have cB8_0 := B8.c0; have fB8 := B8.frozen
          go_wp2_with fail
          go_region_held3 (fun w' => w'.cell? ⟨w.heap.size, 0, none⟩ = some (.slice (some ⟨b, o, none⟩) (1) (1)) ∧ w'.cell? ⟨g8, 0, none⟩ = some (.slice A7 t.length c7) ∧ w'.cell? ⟨b, o, none⟩ = some (.int .i64 y)) (go_keep) (fail)
          all_goals
            have B6w := B6.drew.set_ 0 (.slice A7 t.length c7)
            have e9 := B6w.c0
            go_wp2
            exact bodyPost_ret (v := hoV ((t, y), .slice A7 t.length c7)) (by simp [results, Try.results31, go_sem, hoV, e9, cB6_0]) rfl ⟨((t, y), .slice A7 t.length c7), rfl, ((own5.drew.far (p := ⟨w.heap.size + 1, 0, none⟩) (by simp only []; omega) _).low (by omega)), hres.out, hbw.drew.setCell (p := ⟨w.heap.size + 1, 0, none⟩) (by simp only []; omega) _⟩
        · rw [if_neg hc1] at hbb
          obtain ⟨rfl, rfl⟩ : b = bb ∧ o + 1 = oo := by injection hbb with hbb; injection hbb with h1 h2; exact ⟨h1, h2⟩
          clear hbb
          go_upto_region 9 with (at_builtin; refine app_own rfl _ _ appInt rfl encI w6.heap.size _ [] rfl own0 _ _ _ t rfl (fun e => by cases e) src (by simp <;> omega) (by simp) ?_; intro v7 w7 own7 hg7; have B3a := B3z.app own0 hg7 (by omega); have B6a := B6z.app own0 hg7 (by omega); have B8a := B8z.app own0 hg7 (by omega); have hb7 := belowApp hb4 own0 hg7 (by omega) hb4.size; simp only [List.nil_append] at own7; obtain ⟨A7, c7, rfl, -, -, -⟩ := own7.sl encI; have q7 := (World.cell?_of_block (w := w6.alloc (.cells #[] 3)) (hg7.block b (by have := World.block_lt_of_cell? _ _ q0z; exact this) (fun e => by have := own0.lt b e.symm; have := World.block_lt_of_cell? _ _ q0; omega))).trans q0z; have y2 := B8a.c0; have y3 := B8a.frozen)
          have own5 := own7.far (p := ⟨g8, 0, none⟩) (by simp only []; omega) (.slice A7 t.length c7)
          have B3v := B3a.far (p := ⟨g8, 0, none⟩) (by simp only []; omega) (.slice A7 t.length c7)
          have B6v := B6a.far (p := ⟨g8, 0, none⟩) (by simp only []; omega) (.slice A7 t.length c7)
          have B8v : Blk (w7.setCell ⟨g8, 0, none⟩ (.slice A7 t.length c7)) g8 52 #[.slice A7 t.length c7] := B8a.set_ 0 _
          have hb8 := hb7.setCell (p := ⟨g8, 0, none⟩) (by simp only []; omega) (.slice A7 t.length c7)
          have q8 := (World.cell?_of_block (w := w7) (Below.heap_setCell w7 ⟨g8, 0, none⟩ (.slice A7 t.length c7) b (by simp only []; omega))).trans q7
          clear B3 B6 B8 B3z B6z B8z B3a B6a B8a q7 q0 q0z hbw hb4 hb7 cB3_0 fB3 cB6_0 fB6 cB8_0 fB8 y1 y2 y3 own7 hg7 own0 src
          generalize w7.setCell ⟨g8, 0, none⟩ (.slice A7 t.length c7) = w8 at *
          have B3 := B3v
          have B6 := B6v
          have B8 := B8v
          have q0 := q8
          have hbw := hb8
          clear B3v B6v B8v q8 hb8
          skip
          have cB3_0 := B3.c0; have fB3 := B3.frozen; have cB6_0 := B6.c0; have fB6 := B6.frozen; have cB8_0 := B8.c0; have fB8 := B8.frozen
          go_wp2_with fail
          go_region_held3 (fun w' => w'.cell? ⟨w.heap.size, 0, none⟩ = some (.slice (some ⟨b, o, none⟩) (n9) (c9)) ∧ w'.cell? ⟨g8, 0, none⟩ = some (.slice A7 t.length c7) ∧ w'.cell? ⟨b, o, none⟩ = some (.int .i64 y)) (go_keep) (fail)
          all_goals
            have B6w := B6.drew.set_ 0 (.slice A7 t.length c7)
            have e9 := B6w.c0
            go_wp2
            exact bodyPost_ret (v := hoV ((t, y), .slice A7 t.length c7)) (by simp [results, Try.results31, go_sem, hoV, e9, cB6_0]) rfl ⟨((t, y), .slice A7 t.length c7), rfl, ((own5.drew.far (p := ⟨w.heap.size + 1, 0, none⟩) (by simp only []; omega) _).low (by omega)), hres.out, hbw.drew.setCell (p := ⟨w.heap.size + 1, 0, none⟩) (by simp only []; omega) _⟩
    · obtain rfl : n9 = 0 := by omega
      obtain rfl : l9 = [] := List.eq_nil_of_length_eq_zero HL9.out
      have cB3_0 := B3.c0; have fB3 := B3.frozen; have cB6_0 := B6.c0; have fB6 := B6.frozen; have cB8_0 := B8.c0; have fB8 := B8.frozen
      have B6w := B6.set_ 0 (.slice A5 0 c5)
      have e9 := B6w.c0
      go_wp2
      exact bodyPost_ret (v := hoV (([], -1), .slice A5 0 c5)) (by simp [results, Try.results31, go_sem, hoV, e9, cB6_0]) rfl ⟨(([], -1), .slice A5 0 c5), rfl, ((own5.far (p := ⟨w.heap.size + 1, 0, none⟩) (by simp only []; omega) _).low (by omega)), hres.out, hbw.setCell (p := ⟨w.heap.size + 1, 0, none⟩) (by simp only []; omega) _⟩
end Go.Proofs.Ytenbpaoelipifaa
