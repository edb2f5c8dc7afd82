/- Slots: the draws. -/
import Derived.Test.YtmlodhogfejdjaaPick
import Derived.Test.YtmlodhogfejdjaaAppT
namespace Go.Proofs.Ytmlodhogfejdjaa
set_option linter.unusedVariables false
set_option linter.unusedSimpArgs false
open Go.RowKit

def SlotB (x : Int × Int) : Prop := -2 ≤ x.1 ∧ x.1 ≤ 6 ∧ 0 ≤ x.2 ∧ x.2 ≤ 21
theorem slot_one (w : World) (a b : Int) : Sl (w.alloc (.cells #[.int .i64 a, .int .i64 b] 28)) 2 eS (some ⟨w.heap.size, 0, none⟩) 1 1 [(a, b)] :=
  Sl.of_blk (xs := [(a, b)]) (Blk.new w 28 #[.int .i64 a, .int .i64 b]) encS (by simp)
theorem slots_set {l : List (Int × Int)} {y : Int × Int} (h : ∀ x ∈ l, SlotB x) (hy : SlotB y) (j : Nat) : ∀ x ∈ l.set j y, SlotB x := fun x hx => by
  rcases List.mem_or_eq_of_mem_set hx with h1 | h1
  · exact h x h1
  · rw [h1]; exact hy

set_option maxRecDepth 100000 in
set_option maxHeartbeats 2000000 in
theorem l20Slots_any (r : Nat) (parts k b : Int) (w : World) (h : Rd w r 97 b) (hb : b ≤ 999998000) (hk : (0 ≤ parts ∧ parts ≤ 5) ∧ -1000 ≤ k) :
    Calls Try.prog 77 #[.pointer (some ⟨r, 0, none⟩), .int .i64 parts, .int .i64 k] w (Post SV.v fun s w' => SV.ok w' w.heap.size 2 eS s ∧ s.n ≤ 13 ∧ (∀ x ∈ s.xs, SlotB x) ∧ Stp r 97 w (b + 100) w') := by
  have hS := Stp.refl h
  have hr0 := h.lt
  obtain ⟨⟨hm0, hm1⟩, hk⟩ := hk
  clear h
  skip
  have own0 : Own (w.alloc (.cells #[] 28)) w.heap.size 28 2 eS _ ([] : List (Int × Int)) := Own.of_blk (Blk.new w 28 #[]) (Nat.le_refl _) encS (by simp [maxLen])
  skip
  go_enter Try.func77, Try.ntmps77
  go_wp2_with fail; refine (pick_any _ (6) _ _ (by repeat (first | exact hS.rd | apply Rd.drew | apply Rd.alloc | (apply Rd.setCell; rotate_left; assumption))) (by omega) (by omega)).mono ?_; rintro e w0 ⟨v0, rfl, hv00, hv01, hs⟩; replace own0 := Own.stpOf own0 hs (by repeat (first | exact own0 | apply Own.alloc | apply Own.drew)) (by assumption); replace hS := Stp.trans (by repeat (first | exact hS | apply Stp.drew | apply Stp.alloc | (apply Stp.set; assumption; assumption))) hs; clear hs
  go_wp2
  go_loopg [7, 8] 20 (fun gg s5 s6 wr => ∃ (kk : Int) (l : List (Int × Int)), 0 ≤ kk ∧ kk ≤ gg ∧ gg ≤ 20 ∧ s6 = .int .i64 kk ∧ l.length + kk ≤ 6 ∧ 1 ≤ l.length + kk ∧ Aside (Own wr w.heap.size 28 2 eS s5 l) ∧ Aside (∀ y ∈ l, SlotB y) ∧ Aside (Stp r 97 w (b + 1 + 10 * l.length) wr))
  case atStart => exact ⟨1 + v0, [], by omega, by omega, by omega, rfl, by simp; omega, by simp; omega, own0, (show Aside _ from fun y hy => by cases hy), hS.le (by simp)⟩
  case round =>
    obtain ⟨kk, l, hk0, hk1, hg, rfl, hl, hl1, OW, BB, SS⟩ := hrel
    clear hS own0
    have hS := SS.out
    have own1 := OW.out
    clear SS OW
    by_cases hlt : 0 < kk
    · skip
      go_wp2_with fail; refine (pick_any _ (parts + 1) _ _ (by repeat (first | exact hS.rd | apply Rd.drew | apply Rd.alloc | (apply Rd.setCell; rotate_left; assumption))) (by omega) (by omega)).mono ?_; rintro e w1 ⟨v1, rfl, hv10, hv11, hs⟩; replace own1 := Own.stpOf own1 hs (by repeat (first | exact own1 | apply Own.alloc | apply Own.drew)) (by assumption); replace hS := Stp.trans (by repeat (first | exact hS | apply Stp.drew | apply Stp.alloc | (apply Stp.set; assumption; assumption))) hs; clear hs
      go_wp2_with fail; refine (pick_any _ (5) _ _ (by repeat (first | exact hS.rd | apply Rd.drew | apply Rd.alloc | (apply Rd.setCell; rotate_left; assumption))) (by omega) (by omega)).mono ?_; rintro e w2 ⟨v2, rfl, hv20, hv21, hs⟩; replace own1 := Own.stpOf own1 hs (by repeat (first | exact own1 | apply Own.alloc | apply Own.drew)) (by assumption); replace hS := Stp.trans (by repeat (first | exact hS | apply Stp.drew | apply Stp.alloc | (apply Stp.set; assumption; assumption))) hs; clear hs
      have src := slot_one w2 (v1 - 1) (1 + v2)
      have own2 := own1.alloc (.cells #[.int .i64 (v1 - 1), .int .i64 (1 + v2)] 28)
      have hS2 := hS.alloc (.cells #[.int .i64 (v1 - 1), .int .i64 (1 + v2)] 28)
      go_wp2_with (at_builtin; refine app_own rfl _ _ appSlot rfl encS w.heap.size _ l rfl own2 _ 1 1 [(v1 - 1, 1 + v2)] rfl (fun e => by cases e) src (by omega) hS2.grown.size ?_; intro v' w5 own5 hg5; have hS5 := hS2.app own2 hg5 (Nat.le_refl _) hr0)
      go_roundg (gk - 1)
      case measure => omega
      case rel => exact ⟨kk - 1, l ++ [(v1 - 1, 1 + v2)], by omega, by omega, by omega, by go_num, by simp; omega, by simp; omega, own5, (show Aside _ from fun z hz => (List.mem_append.1 hz).elim (BB.out z) (fun h => by rw [List.mem_singleton.1 h]; unfold SlotB; simp only []; omega)), hS5.le (by simp; omega)⟩
    · obtain rfl : kk = 0 := by omega
      clear hlt
      obtain ⟨x, l', rfl⟩ : ∃ x l', l = x :: l' := by
        cases l with
        | nil => simp at hl1
        | cons x l' => exact ⟨x, l', rfl⟩
      skip
      go_wp2_with fail; refine (odd_any _ (k) _ _ (by repeat (first | exact hS.rd | apply Rd.drew | apply Rd.alloc | (apply Rd.setCell; rotate_left; assumption))) (by omega) (by omega)).mono ?_; rintro e w1 ⟨q, rfl, hs⟩; replace own1 := Own.stpOf own1 hs (by repeat (first | exact own1 | apply Own.alloc | apply Own.drew)) (by assumption); replace hS := Stp.trans (by repeat (first | exact hS | apply Stp.drew | apply Stp.alloc | (apply Stp.set; assumption; assumption))) hs; clear hs
      obtain ⟨g, c, rfl, hgb, hgl, hc1, hc2⟩ := own1.form (by simp)
      cases q
      · go_wp2
        go_ret
        exact ⟨⟨_, _, c, x :: l'⟩, rfl, ⟨own1.slI encS, fun g o e => by injection e with e; injection e with e; omega, (fun e => by cases e), (fun ad e => by injection e with e; rw [← e])⟩, by simp at hl ⊢; omega, BB.out, hS.le (by simp at hl ⊢; omega)⟩
      · go_wp2_with fail; refine (pick_any _ (4) _ _ (by repeat (first | exact hS.rd | apply Rd.drew | apply Rd.alloc | (apply Rd.setCell; rotate_left; assumption))) (by omega) (by omega)).mono ?_; rintro e w2 ⟨v2, rfl, hv20, hv21, hs⟩; replace own1 := Own.stpOf own1 hs (by repeat (first | exact own1 | apply Own.alloc | apply Own.drew)) (by assumption); replace hS := Stp.trans (by repeat (first | exact hS | apply Stp.drew | apply Stp.alloc | (apply Stp.set; assumption; assumption))) hs; clear hs
        have hbx := BB.out x (by simp)
        rcases (show v2 = 0 ∨ v2 = 1 ∨ v2 = 2 ∨ v2 = 3 by omega) with rfl | rfl | rfl | rfl
        · have B1 := Blk.new w2 3 #[.int .i64 (-2), .int .i64 parts]; have lB1 := hS.rd.lt; have nB1 := Nat.ne_of_gt lB1; have sB1 := hS.grown.size
          go_wp2_with fail; refine (pick_any _ (2) _ _ (by repeat (first | exact hS.rd | apply Rd.drew | apply Rd.alloc | (apply Rd.setCell; rotate_left; assumption))) (by omega) (by omega)).mono ?_; rintro e w3 ⟨v3, rfl, hv30, hv31, hs⟩; replace own1 := Own.stpOf own1 hs (by repeat (first | exact own1 | apply Own.alloc | apply Own.drew)) (by assumption); replace B1 := Blk.stpOf B1 hs (by repeat (first | exact B1 | apply Blk.alloc | apply Blk.drew | (apply Blk.far; rotate_left; (first | assumption | exact Ne.symm (by assumption))) | apply Blk.set_)) (by assumption); replace hS := Stp.trans (by repeat (first | exact hS | apply Stp.drew | apply Stp.alloc | (apply Stp.set; assumption; assumption))) hs; clear hs
          have hs3 := sel_bd (lo := -2) (hi := 6) [-2, parts] (by simp; omega) (by simp) v3 hv30 hv31
          have g1 := (B1.cell v3.toNat).trans (litq2 hv30 hv31 _ _)
          have cx := own1.cellF encS 0 0 0 x _ rfl rfl rfl
          have fx := own1.frozenAt 0
          have st := own1.storedF encS 0 0 0 x (sel [-2, parts] v3, x.2) (.int .i64 (sel [-2, parts] v3)) rfl (by decide) rfl rfl
          generalize sel [-2, parts] v3 = y at *
          go_wp2
          go_ret
          exact ⟨⟨_, _, c, (y, x.2) :: l'⟩, rfl, ⟨st.1.slI encS, fun g o e => by injection e with e; injection e with e; omega, (fun e => by cases e), (fun ad e => by injection e with e; rw [← e])⟩, by simp at hl ⊢; omega, slots_set BB.out (y := (y, x.2)) (by unfold SlotB at hbx ⊢; simp only []; omega) 0, (hS.app own1 st.2 (Nat.le_refl _) hr0).le (by simp at hl ⊢; omega)⟩
        · skip
          have B1 := Blk.new w2 3 #[.int .i64 0, .int .i64 21]; have lB1 := hS.rd.lt; have nB1 := Nat.ne_of_gt lB1; have sB1 := hS.grown.size
          go_wp2_with fail; refine (pick_any _ (2) _ _ (by repeat (first | exact hS.rd | apply Rd.drew | apply Rd.alloc | (apply Rd.setCell; rotate_left; assumption))) (by omega) (by omega)).mono ?_; rintro e w3 ⟨v3, rfl, hv30, hv31, hs⟩; replace own1 := Own.stpOf own1 hs (by repeat (first | exact own1 | apply Own.alloc | apply Own.drew)) (by assumption); replace B1 := Blk.stpOf B1 hs (by repeat (first | exact B1 | apply Blk.alloc | apply Blk.drew | (apply Blk.far; rotate_left; (first | assumption | exact Ne.symm (by assumption))) | apply Blk.set_)) (by assumption); replace hS := Stp.trans (by repeat (first | exact hS | apply Stp.drew | apply Stp.alloc | (apply Stp.set; assumption; assumption))) hs; clear hs
          have hs3 := sel_bd (lo := 0) (hi := 22) [0, 21] (by simp) (by simp) v3 hv30 hv31
          have g1 := (B1.cell v3.toNat).trans (litq2 hv30 hv31 _ _)
          have cx := own1.cellF encS 1 0 1 x _ rfl rfl rfl
          have fx := own1.frozenAt 1
          have st := own1.storedF encS 1 0 1 x (x.1, sel [0, 21] v3) (.int .i64 (sel [0, 21] v3)) rfl (by decide) rfl rfl
          generalize sel [0, 21] v3 = y at *
          go_wp2
          go_ret
          exact ⟨⟨_, _, c, (x.1, y) :: l'⟩, rfl, ⟨st.1.slI encS, fun g o e => by injection e with e; injection e with e; omega, (fun e => by cases e), (fun ad e => by injection e with e; rw [← e])⟩, by simp at hl ⊢; omega, slots_set BB.out (y := (x.1, y)) (by unfold SlotB at hbx ⊢; simp only []; omega) 0, (hS.app own1 st.2 (Nat.le_refl _) hr0).le (by simp at hl ⊢; omega)⟩
        · go_wp2
          go_ret
          have own2 : Own (w2.alloc (.cells #[] 28)) w.heap.size 28 2 eS _ ([] : List (Int × Int)) := Own.of_blk (Blk.new w2 28 #[]) hS.grown.size encS (by simp [maxLen])
          exact ⟨⟨_, _, _, []⟩, rfl, ⟨own2.slI encS, fun g o e => by injection e with e; injection e with e; have := hS.grown.size; omega, (fun e => by cases e), (fun ad e => by injection e with e; rw [← e])⟩, by simp, (fun x hx => by cases hx), (hS.alloc _).le (by simp at hl ⊢; omega)⟩
        · go_wp2
          go_loopg [7] 20 (fun gg s5 wr => ∃ (l : List (Int × Int)), 13 - l.length ≤ gg ∧ l.length ≤ 13 ∧ Aside (Own wr w.heap.size 28 2 eS s5 l) ∧ Aside (∀ y ∈ l, SlotB y) ∧ Aside (Stp r 97 w (b + 100) wr))
          case atStart => exact ⟨x :: l', by omega, by simp at hl ⊢; omega, own1, BB, hS.le (by simp at hl ⊢; omega)⟩
          case round =>
            clear hS own1 BB hbx hl hl1 hc1 hc2
            obtain ⟨l, hg1, hl, OW, BB, SS⟩ := hrel
            have hS := SS.out
            have own1 := OW.out
            clear SS OW
            obtain ⟨A, c, rfl, hA, hsl, hfr⟩ := own1.sl encS
            by_cases hlt : l.length ≤ 12
            · have src := slot_one wr (-1) 1
              have own2 := own1.alloc (.cells #[.int .i64 (-1), .int .i64 1] 28)
              have hS2 := hS.alloc (.cells #[.int .i64 (-1), .int .i64 1] 28)
              go_wp2_with (at_builtin; refine app_own rfl _ _ appSlot rfl encS w.heap.size _ l rfl own2 _ 1 1 [(-1, 1)] rfl (fun e => by cases e) src (by omega) hS2.grown.size ?_; intro v' w5 own5 hg5; have hS5 := hS2.app own2 hg5 (Nat.le_refl _) hr0)
              go_roundg (gk - 1)
              case measure => omega
              case rel => exact ⟨l ++ [(-1, 1)], by simp; omega, by simp; omega, own5, (show Aside _ from fun z hz => (List.mem_append.1 hz).elim (BB.out z) (fun h => by rw [List.mem_singleton.1 h]; unfold SlotB; simp)), hS5⟩
            · go_wp2
              go_ret
              exact ⟨⟨A, _, c, l⟩, rfl, ⟨hsl, fun g o e => (hfr g o e).1, hA.1, hA.2⟩, hl, BB.out, hS⟩
end Go.Proofs.Ytmlodhogfejdjaa
