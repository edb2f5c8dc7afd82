/- The draw of programs. -/
import Derived.Test.YtffhcifeccdfjaaVProg
import Derived.Test.YtffhcifeccdfjaaAppT
import Derived.Test.YtffhcifeccdfjaaOwnX
import Derived.Test.YtffhcifeccdfjaaSel
import Derived.Test.YtffhcifeccdfjaaReg
namespace Go.Proofs.Ytffhcifeccdfjaa
set_option linter.unusedVariables false
set_option linter.unusedSimpArgs false
open Go.RowKit

set_option maxRecDepth 100000 in
set_option maxHeartbeats 4000000 in
theorem l20Program_any (r : Nat) (cells b : Int) (w : World) (h : Rd w r 96 b) (hb : b ≤ 999998000) (hc : 1 ≤ cells ∧ cells ≤ 4) :
    Calls Try.prog 56 #[.pointer (some ⟨r, 0, none⟩), .int .i64 cells, .int .i64 4, .int .i64 2] w (Post SV.v fun s w' => SV.ok w' w.heap.size 3 eO s ∧ s.n ≤ 21 ∧ Stp r 96 w (b + 200) w') := by
  have hS := Stp.refl h
  have hr0 := h.lt
  clear h
  have own1 : Own (w.alloc (.cells #[] 48)) w.heap.size 48 3 eO _ ([] : List (Int × Int × Int)) := Own.of_blk (Blk.new w 48 #[]) (Nat.le_refl _) encO (by simp [maxLen])
  replace hS := hS.alloc (.cells #[] 48)
  go_enter Try.func56, Try.ntmps56
  go_wp2_with fail
  refine (pick_any r 7 _ _ hS.rd (by omega) (by omega)).mono ?_
  rintro e w1 ⟨v0, rfl, hv00, hv01, hs⟩
  replace own1 := own1.stp hs (by omega)
  replace hS := hS.trans hs
  clear hs
  have hw0 := IntWalk.i64_in (1 + v0) (by omega)
  obtain ⟨m, hm⟩ : ∃ m, 1 + v0 = m := ⟨_, rfl⟩
  rw [hm] at hw0
  have hm0 : 1 ≤ m ∧ m ≤ 7 := by omega
  go_wp2_with fail
  refine (pick_any r 3 _ _ hS.rd (by omega) (by omega)).mono ?_
  rintro e w2 ⟨v1, rfl, hv10, hv11, hs⟩
  replace own1 := own1.stp hs (by omega)
  replace hS := hS.trans hs
  clear hs hw0
  go_wp2_with fail
  go_loopg [9, 12] 20 (fun gg s9 s12 wr => ∃ (kk : Int) (l : List (Int × Int × Int)) (vl : Value), s9 = vl ∧ 0 ≤ kk ∧ kk ≤ m ∧ m - kk ≤ gg ∧ s12 = .int .i64 kk ∧ (l.length : Int) = kk ∧ Aside (Own wr w.heap.size 48 3 eO vl l) ∧ Aside (Stp r 96 w (b + 10 + 10 * kk) wr))
  case atStart => exact ⟨0, [], _, rfl, by omega, by omega, by omega, rfl, rfl, (show Aside _ from own1), (show Aside _ from hS.le (by omega))⟩
  case round =>
    obtain ⟨kk, l, vl, rfl, hk0, hk1, hg, rfl, hll, OW, SS⟩ := hrel
    clear own1 hS
    have own1 := OW.out
    have hS := SS.out
    clear OW SS
    by_cases hlt : kk < m
    · have B0 := Blk.new wr 3 #[.int .i64 1, .int .i64 2, .int .i64 3, .int .i64 4, .int .i64 5, .int .i64 6, .int .i64 5, .int .i64 6, .int .i64 7, .int .i64 2, .int .i64 0, .int .i64 8]
      have hz0 := hS.rd.lt
      replace own1 := own1.alloc (.cells #[.int .i64 1, .int .i64 2, .int .i64 3, .int .i64 4, .int .i64 5, .int .i64 6, .int .i64 5, .int .i64 6, .int .i64 7, .int .i64 2, .int .i64 0, .int .i64 8] 3)
      replace hS := hS.alloc (.cells #[.int .i64 1, .int .i64 2, .int .i64 3, .int .i64 4, .int .i64 5, .int .i64 6, .int .i64 5, .int .i64 6, .int .i64 7, .int .i64 2, .int .i64 0, .int .i64 8] 3)
      go_wp2_with fail
      all_goals
        refine (pick_any r _ _ _ hS.rd (by omega) (by omega)).mono ?_
        rintro e w3 ⟨v4, rfl, hv40, hv41, hs⟩
        replace B0 := Blk.stp hs B0 (by omega)
        have own3 := own1.stp hs (by omega)
        have hS3 := hS.trans hs
        have h12 : v4 < 12 := by omega
        have hsel := sel_bd (lo := 0) (hi := 9) [1, 2, 3, 4, 5, 6, 5, 6, 7, 2, 0, 8] (by simp) (by simp) v4 hv40 (by simp; omega)
        have g1 := (B0.cell v4.toNat).trans (litq (cs := [1, 2, 3, 4, 5, 6, 5, 6, 7, 2, 0, 8]) hv40 (by simp; omega))
        generalize sel [1, 2, 3, 4, 5, 6, 5, 6, 7, 2, 0, 8] v4 = y at *
        have hz3 := hS3.grown.size
        have hz3r := hS3.rd.lt
        have hne13 : u9.ownBlock ≠ some w3.heap.size := fun e => Nat.ne_of_lt (own3.lt _ e).2 rfl
        have B13 := Blk.new w3 48 #[.int .i64 y, .int .i64 0, .int .i64 0]
        replace own3 := own3.alloc (.cells #[.int .i64 y, .int .i64 0, .int .i64 0] 48)
        replace hS3 := hS3.alloc (.cells #[.int .i64 y, .int .i64 0, .int .i64 0] 48)
        clear hs own1 hS B0
        have c13 := B13.c0
        rcases (show y = 1 ∨ (y = 2 ∨ y = 3) ∨ y = 4 ∨ (y = 5 ∨ y = 6) ∨ y = 7 ∨ (y = 0 ∨ y = 8) by omega) with rfl | (rfl | rfl) | rfl | (rfl | rfl) | rfl | (rfl | rfl)
        · go_wp2_with fail
          refine (pick_any r (cells) _ _ hS3.rd (by omega) (by omega)).mono ?_
          rintro e w4 ⟨x1, rfl, hx1a, hx1b, hs⟩
          replace B13 := Blk.stp hs B13 (by omega)
          replace own3 := own3.stp hs (by omega)
          replace hS3 := hS3.trans hs
          clear hs
          have f13 := B13.frozen
          have d13 := B13.c1
          have B13n := B13.set_ 1 (.int .i64 (x1))
          have own3n := own3.farNe (p := ⟨w3.heap.size, 1, none⟩) hne13 (.int .i64 (x1))
          have hS3n := Stp.set (p := ⟨w3.heap.size, 1, none⟩) (.int .i64 (x1)) hz3 hz3r hS3
          clear B13 own3 hS3
          have B13 := B13n
          have own3 := own3n
          have hS3 := hS3n
          clear B13n own3n hS3n
          go_wp2_with fail
          refine (pick_any r (4) _ _ hS3.rd (by omega) (by omega)).mono ?_
          rintro e w5 ⟨x2, rfl, hx2a, hx2b, hs⟩
          replace B13 := Blk.stp hs B13 (by omega)
          replace own3 := own3.stp hs (by omega)
          replace hS3 := hS3.trans hs
          clear hs
          clear f13 d13
          go_wp2_with fail
          refine (pick_any r (256) _ _ hS3.rd (by omega) (by omega)).mono ?_
          rintro e w6 ⟨x3, rfl, hx3a, hx3b, hs⟩
          replace B13 := Blk.stp hs B13 (by omega)
          replace own3 := own3.stp hs (by omega)
          replace hS3 := hS3.trans hs
          clear hs
          have B2 := Blk.new w6 3 #[.int .i64 x2, .int .i64 x3]
          replace B13 := B13.alloc (.cells #[.int .i64 x2, .int .i64 x3] 3)
          replace own3 := own3.alloc (.cells #[.int .i64 x2, .int .i64 x3] 3)
          replace hS3 := hS3.alloc (.cells #[.int .i64 x2, .int .i64 x3] 3)
          have hz6 := hS3.rd.lt
          go_wp2_with fail
          refine (pick_any r 2 _ _ hS3.rd (by omega) (by omega)).mono ?_
          rintro e w7 ⟨x4, rfl, hx40, hx41, hs⟩
          replace B2 := Blk.stp hs B2 (by have := B13.lt; simp at this; omega)
          replace B13 := Blk.stp hs B13 (by omega)
          replace own3 := own3.stp hs (by omega)
          replace hS3 := hS3.trans hs
          clear hs
          have g2 := (B2.cell x4.toNat).trans (litq2 hx40 hx41 _ _)
          generalize sel [x2, x3] x4 = z at *
          have f13 := B13.frozen
          have d13 := B13.c2
          have B13n := B13.set_ 2 (.int .i64 (z))
          have own3n := own3.farNe (p := ⟨w3.heap.size, 2, none⟩) hne13 (.int .i64 (z))
          have hS3n := Stp.set (p := ⟨w3.heap.size, 2, none⟩) (.int .i64 (z)) hz3 hz3r hS3
          clear B13 own3 hS3
          have B13 := B13n
          have own3 := own3n
          have hS3 := hS3n
          clear B13n own3n hS3n
          have c0 := B13.c0
          have c1 := B13.c1
          have c2 := B13.c2
          have src := Sl.of_blk (xs := [((1 : Int), (x1 : Int), (z : Int))]) (Blk.new ((w7.setCell ⟨w3.heap.size, 2, none⟩ (.int .i64 z))) 48 #[.int .i64 (1), .int .i64 (x1), .int .i64 (z)]) encO (by simp)
          rw [show ((w7.setCell ⟨w3.heap.size, 2, none⟩ (.int .i64 z))).heap.size = w7.heap.size from by simp [World.setCell]] at src
          have own4 := own3.alloc (.cells #[.int .i64 (1), .int .i64 (x1), .int .i64 (z)] 48)
          have hS4 := hS3.alloc (.cells #[.int .i64 (1), .int .i64 (x1), .int .i64 (z)] 48)
          go_wp2_with (at_builtin; refine app_own rfl _ _ appOrd rfl encO w.heap.size _ l rfl own4 _ 1 1 [((1 : Int), (x1 : Int), (z : Int))] rfl (fun e => by cases e) src (by omega) hS4.grown.size ?_; intro v' w9 own5 hg5; have hS5 := hS4.app own4 hg5 (Nat.le_refl _) hr0)
          go_roundg (gk - 1)
          case measure => omega
          case rel => exact ⟨kk + 1, l ++ [((1 : Int), (x1 : Int), (z : Int))], _, rfl, by omega, by omega, by omega, by go_num, by simp; omega, (show Aside _ from own5), (show Aside _ from hS5.le (by omega))⟩
        · go_wp2_with fail
          refine (pick_any r (cells) _ _ hS3.rd (by omega) (by omega)).mono ?_
          rintro e w4 ⟨x1, rfl, hx1a, hx1b, hs⟩
          replace B13 := Blk.stp hs B13 (by omega)
          replace own3 := own3.stp hs (by omega)
          replace hS3 := hS3.trans hs
          clear hs
          have f13 := B13.frozen
          have d13 := B13.c1
          have B13n := B13.set_ 1 (.int .i64 (x1))
          have own3n := own3.farNe (p := ⟨w3.heap.size, 1, none⟩) hne13 (.int .i64 (x1))
          have hS3n := Stp.set (p := ⟨w3.heap.size, 1, none⟩) (.int .i64 (x1)) hz3 hz3r hS3
          clear B13 own3 hS3
          have B13 := B13n
          have own3 := own3n
          have hS3 := hS3n
          clear B13n own3n hS3n
          go_wp2_with fail
          refine (pick_any r (cells) _ _ hS3.rd (by omega) (by omega)).mono ?_
          rintro e w5 ⟨x2, rfl, hx2a, hx2b, hs⟩
          replace B13 := Blk.stp hs B13 (by omega)
          replace own3 := own3.stp hs (by omega)
          replace hS3 := hS3.trans hs
          clear hs
          clear f13 d13
          have f13 := B13.frozen
          have d13 := B13.c2
          have B13n := B13.set_ 2 (.int .i64 (x2))
          have own3n := own3.farNe (p := ⟨w3.heap.size, 2, none⟩) hne13 (.int .i64 (x2))
          have hS3n := Stp.set (p := ⟨w3.heap.size, 2, none⟩) (.int .i64 (x2)) hz3 hz3r hS3
          clear B13 own3 hS3
          have B13 := B13n
          have own3 := own3n
          have hS3 := hS3n
          clear B13n own3n hS3n
          have c0 := B13.c0
          have c1 := B13.c1
          have c2 := B13.c2
          have src := Sl.of_blk (xs := [((2 : Int), (x1 : Int), (x2 : Int))]) (Blk.new ((w5.setCell ⟨w3.heap.size, 2, none⟩ (.int .i64 x2))) 48 #[.int .i64 (2), .int .i64 (x1), .int .i64 (x2)]) encO (by simp)
          rw [show ((w5.setCell ⟨w3.heap.size, 2, none⟩ (.int .i64 x2))).heap.size = w5.heap.size from by simp [World.setCell]] at src
          have own4 := own3.alloc (.cells #[.int .i64 (2), .int .i64 (x1), .int .i64 (x2)] 48)
          have hS4 := hS3.alloc (.cells #[.int .i64 (2), .int .i64 (x1), .int .i64 (x2)] 48)
          go_wp2_with (at_builtin; refine app_own rfl _ _ appOrd rfl encO w.heap.size _ l rfl own4 _ 1 1 [((2 : Int), (x1 : Int), (x2 : Int))] rfl (fun e => by cases e) src (by omega) hS4.grown.size ?_; intro v' w9 own5 hg5; have hS5 := hS4.app own4 hg5 (Nat.le_refl _) hr0)
          go_roundg (gk - 1)
          case measure => omega
          case rel => exact ⟨kk + 1, l ++ [((2 : Int), (x1 : Int), (x2 : Int))], _, rfl, by omega, by omega, by omega, by go_num, by simp; omega, (show Aside _ from own5), (show Aside _ from hS5.le (by omega))⟩
        · go_wp2_with fail
          refine (pick_any r (cells) _ _ hS3.rd (by omega) (by omega)).mono ?_
          rintro e w4 ⟨x1, rfl, hx1a, hx1b, hs⟩
          replace B13 := Blk.stp hs B13 (by omega)
          replace own3 := own3.stp hs (by omega)
          replace hS3 := hS3.trans hs
          clear hs
          have f13 := B13.frozen
          have d13 := B13.c1
          have B13n := B13.set_ 1 (.int .i64 (x1))
          have own3n := own3.farNe (p := ⟨w3.heap.size, 1, none⟩) hne13 (.int .i64 (x1))
          have hS3n := Stp.set (p := ⟨w3.heap.size, 1, none⟩) (.int .i64 (x1)) hz3 hz3r hS3
          clear B13 own3 hS3
          have B13 := B13n
          have own3 := own3n
          have hS3 := hS3n
          clear B13n own3n hS3n
          go_wp2_with fail
          refine (pick_any r (cells) _ _ hS3.rd (by omega) (by omega)).mono ?_
          rintro e w5 ⟨x2, rfl, hx2a, hx2b, hs⟩
          replace B13 := Blk.stp hs B13 (by omega)
          replace own3 := own3.stp hs (by omega)
          replace hS3 := hS3.trans hs
          clear hs
          clear f13 d13
          have f13 := B13.frozen
          have d13 := B13.c2
          have B13n := B13.set_ 2 (.int .i64 (x2))
          have own3n := own3.farNe (p := ⟨w3.heap.size, 2, none⟩) hne13 (.int .i64 (x2))
          have hS3n := Stp.set (p := ⟨w3.heap.size, 2, none⟩) (.int .i64 (x2)) hz3 hz3r hS3
          clear B13 own3 hS3
          have B13 := B13n
          have own3 := own3n
          have hS3 := hS3n
          clear B13n own3n hS3n
          have c0 := B13.c0
          have c1 := B13.c1
          have c2 := B13.c2
          have src := Sl.of_blk (xs := [((3 : Int), (x1 : Int), (x2 : Int))]) (Blk.new ((w5.setCell ⟨w3.heap.size, 2, none⟩ (.int .i64 x2))) 48 #[.int .i64 (3), .int .i64 (x1), .int .i64 (x2)]) encO (by simp)
          rw [show ((w5.setCell ⟨w3.heap.size, 2, none⟩ (.int .i64 x2))).heap.size = w5.heap.size from by simp [World.setCell]] at src
          have own4 := own3.alloc (.cells #[.int .i64 (3), .int .i64 (x1), .int .i64 (x2)] 48)
          have hS4 := hS3.alloc (.cells #[.int .i64 (3), .int .i64 (x1), .int .i64 (x2)] 48)
          go_wp2_with (at_builtin; refine app_own rfl _ _ appOrd rfl encO w.heap.size _ l rfl own4 _ 1 1 [((3 : Int), (x1 : Int), (x2 : Int))] rfl (fun e => by cases e) src (by omega) hS4.grown.size ?_; intro v' w9 own5 hg5; have hS5 := hS4.app own4 hg5 (Nat.le_refl _) hr0)
          go_roundg (gk - 1)
          case measure => omega
          case rel => exact ⟨kk + 1, l ++ [((3 : Int), (x1 : Int), (x2 : Int))], _, rfl, by omega, by omega, by omega, by go_num, by simp; omega, (show Aside _ from own5), (show Aside _ from hS5.le (by omega))⟩
        · go_wp2_with fail
          refine (pick_any r (m) _ _ hS3.rd (by omega) (by omega)).mono ?_
          rintro e w4 ⟨x1, rfl, hx1a, hx1b, hs⟩
          replace B13 := Blk.stp hs B13 (by omega)
          replace own3 := own3.stp hs (by omega)
          replace hS3 := hS3.trans hs
          clear hs
          have f13 := B13.frozen
          have d13 := B13.c1
          have B13n := B13.set_ 1 (.int .i64 (x1))
          have own3n := own3.farNe (p := ⟨w3.heap.size, 1, none⟩) hne13 (.int .i64 (x1))
          have hS3n := Stp.set (p := ⟨w3.heap.size, 1, none⟩) (.int .i64 (x1)) hz3 hz3r hS3
          clear B13 own3 hS3
          have B13 := B13n
          have own3 := own3n
          have hS3 := hS3n
          clear B13n own3n hS3n
          go_wp2_with fail
          refine (pick_any r (cells) _ _ hS3.rd (by omega) (by omega)).mono ?_
          rintro e w5 ⟨x2, rfl, hx2a, hx2b, hs⟩
          replace B13 := Blk.stp hs B13 (by omega)
          replace own3 := own3.stp hs (by omega)
          replace hS3 := hS3.trans hs
          clear hs
          clear f13 d13
          have f13 := B13.frozen
          have d13 := B13.c2
          have B13n := B13.set_ 2 (.int .i64 (x2))
          have own3n := own3.farNe (p := ⟨w3.heap.size, 2, none⟩) hne13 (.int .i64 (x2))
          have hS3n := Stp.set (p := ⟨w3.heap.size, 2, none⟩) (.int .i64 (x2)) hz3 hz3r hS3
          clear B13 own3 hS3
          have B13 := B13n
          have own3 := own3n
          have hS3 := hS3n
          clear B13n own3n hS3n
          have c0 := B13.c0
          have c1 := B13.c1
          have c2 := B13.c2
          have src := Sl.of_blk (xs := [((4 : Int), (x1 : Int), (x2 : Int))]) (Blk.new ((w5.setCell ⟨w3.heap.size, 2, none⟩ (.int .i64 x2))) 48 #[.int .i64 (4), .int .i64 (x1), .int .i64 (x2)]) encO (by simp)
          rw [show ((w5.setCell ⟨w3.heap.size, 2, none⟩ (.int .i64 x2))).heap.size = w5.heap.size from by simp [World.setCell]] at src
          have own4 := own3.alloc (.cells #[.int .i64 (4), .int .i64 (x1), .int .i64 (x2)] 48)
          have hS4 := hS3.alloc (.cells #[.int .i64 (4), .int .i64 (x1), .int .i64 (x2)] 48)
          go_wp2_with (at_builtin; refine app_own rfl _ _ appOrd rfl encO w.heap.size _ l rfl own4 _ 1 1 [((4 : Int), (x1 : Int), (x2 : Int))] rfl (fun e => by cases e) src (by omega) hS4.grown.size ?_; intro v' w9 own5 hg5; have hS5 := hS4.app own4 hg5 (Nat.le_refl _) hr0)
          go_roundg (gk - 1)
          case measure => omega
          case rel => exact ⟨kk + 1, l ++ [((4 : Int), (x1 : Int), (x2 : Int))], _, rfl, by omega, by omega, by omega, by go_num, by simp; omega, (show Aside _ from own5), (show Aside _ from hS5.le (by omega))⟩
        · go_wp2_with fail
          refine (pick_any r (4) _ _ hS3.rd (by omega) (by omega)).mono ?_
          rintro e w4 ⟨x1, rfl, hx1a, hx1b, hs⟩
          replace B13 := Blk.stp hs B13 (by omega)
          replace own3 := own3.stp hs (by omega)
          replace hS3 := hS3.trans hs
          clear hs
          have f13 := B13.frozen
          have d13 := B13.c1
          have B13n := B13.set_ 1 (.int .i64 (x1))
          have own3n := own3.farNe (p := ⟨w3.heap.size, 1, none⟩) hne13 (.int .i64 (x1))
          have hS3n := Stp.set (p := ⟨w3.heap.size, 1, none⟩) (.int .i64 (x1)) hz3 hz3r hS3
          clear B13 own3 hS3
          have B13 := B13n
          have own3 := own3n
          have hS3 := hS3n
          clear B13n own3n hS3n
          go_wp2_with fail
          refine (pick_any r (cells) _ _ hS3.rd (by omega) (by omega)).mono ?_
          rintro e w5 ⟨x2, rfl, hx2a, hx2b, hs⟩
          replace B13 := Blk.stp hs B13 (by omega)
          replace own3 := own3.stp hs (by omega)
          replace hS3 := hS3.trans hs
          clear hs
          clear f13 d13
          have f13 := B13.frozen
          have d13 := B13.c2
          have B13n := B13.set_ 2 (.int .i64 (x2))
          have own3n := own3.farNe (p := ⟨w3.heap.size, 2, none⟩) hne13 (.int .i64 (x2))
          have hS3n := Stp.set (p := ⟨w3.heap.size, 2, none⟩) (.int .i64 (x2)) hz3 hz3r hS3
          clear B13 own3 hS3
          have B13 := B13n
          have own3 := own3n
          have hS3 := hS3n
          clear B13n own3n hS3n
          have c0 := B13.c0
          have c1 := B13.c1
          have c2 := B13.c2
          have src := Sl.of_blk (xs := [((5 : Int), (x1 : Int), (x2 : Int))]) (Blk.new ((w5.setCell ⟨w3.heap.size, 2, none⟩ (.int .i64 x2))) 48 #[.int .i64 (5), .int .i64 (x1), .int .i64 (x2)]) encO (by simp)
          rw [show ((w5.setCell ⟨w3.heap.size, 2, none⟩ (.int .i64 x2))).heap.size = w5.heap.size from by simp [World.setCell]] at src
          have own4 := own3.alloc (.cells #[.int .i64 (5), .int .i64 (x1), .int .i64 (x2)] 48)
          have hS4 := hS3.alloc (.cells #[.int .i64 (5), .int .i64 (x1), .int .i64 (x2)] 48)
          go_wp2_with (at_builtin; refine app_own rfl _ _ appOrd rfl encO w.heap.size _ l rfl own4 _ 1 1 [((5 : Int), (x1 : Int), (x2 : Int))] rfl (fun e => by cases e) src (by omega) hS4.grown.size ?_; intro v' w9 own5 hg5; have hS5 := hS4.app own4 hg5 (Nat.le_refl _) hr0)
          go_roundg (gk - 1)
          case measure => omega
          case rel => exact ⟨kk + 1, l ++ [((5 : Int), (x1 : Int), (x2 : Int))], _, rfl, by omega, by omega, by omega, by go_num, by simp; omega, (show Aside _ from own5), (show Aside _ from hS5.le (by omega))⟩
        · go_wp2_with fail
          refine (pick_any r (4) _ _ hS3.rd (by omega) (by omega)).mono ?_
          rintro e w4 ⟨x1, rfl, hx1a, hx1b, hs⟩
          replace B13 := Blk.stp hs B13 (by omega)
          replace own3 := own3.stp hs (by omega)
          replace hS3 := hS3.trans hs
          clear hs
          have f13 := B13.frozen
          have d13 := B13.c1
          have B13n := B13.set_ 1 (.int .i64 (x1))
          have own3n := own3.farNe (p := ⟨w3.heap.size, 1, none⟩) hne13 (.int .i64 (x1))
          have hS3n := Stp.set (p := ⟨w3.heap.size, 1, none⟩) (.int .i64 (x1)) hz3 hz3r hS3
          clear B13 own3 hS3
          have B13 := B13n
          have own3 := own3n
          have hS3 := hS3n
          clear B13n own3n hS3n
          go_wp2_with fail
          refine (pick_any r (cells) _ _ hS3.rd (by omega) (by omega)).mono ?_
          rintro e w5 ⟨x2, rfl, hx2a, hx2b, hs⟩
          replace B13 := Blk.stp hs B13 (by omega)
          replace own3 := own3.stp hs (by omega)
          replace hS3 := hS3.trans hs
          clear hs
          clear f13 d13
          have f13 := B13.frozen
          have d13 := B13.c2
          have B13n := B13.set_ 2 (.int .i64 (x2))
          have own3n := own3.farNe (p := ⟨w3.heap.size, 2, none⟩) hne13 (.int .i64 (x2))
          have hS3n := Stp.set (p := ⟨w3.heap.size, 2, none⟩) (.int .i64 (x2)) hz3 hz3r hS3
          clear B13 own3 hS3
          have B13 := B13n
          have own3 := own3n
          have hS3 := hS3n
          clear B13n own3n hS3n
          have c0 := B13.c0
          have c1 := B13.c1
          have c2 := B13.c2
          have src := Sl.of_blk (xs := [((6 : Int), (x1 : Int), (x2 : Int))]) (Blk.new ((w5.setCell ⟨w3.heap.size, 2, none⟩ (.int .i64 x2))) 48 #[.int .i64 (6), .int .i64 (x1), .int .i64 (x2)]) encO (by simp)
          rw [show ((w5.setCell ⟨w3.heap.size, 2, none⟩ (.int .i64 x2))).heap.size = w5.heap.size from by simp [World.setCell]] at src
          have own4 := own3.alloc (.cells #[.int .i64 (6), .int .i64 (x1), .int .i64 (x2)] 48)
          have hS4 := hS3.alloc (.cells #[.int .i64 (6), .int .i64 (x1), .int .i64 (x2)] 48)
          go_wp2_with (at_builtin; refine app_own rfl _ _ appOrd rfl encO w.heap.size _ l rfl own4 _ 1 1 [((6 : Int), (x1 : Int), (x2 : Int))] rfl (fun e => by cases e) src (by omega) hS4.grown.size ?_; intro v' w9 own5 hg5; have hS5 := hS4.app own4 hg5 (Nat.le_refl _) hr0)
          go_roundg (gk - 1)
          case measure => omega
          case rel => exact ⟨kk + 1, l ++ [((6 : Int), (x1 : Int), (x2 : Int))], _, rfl, by omega, by omega, by omega, by go_num, by simp; omega, (show Aside _ from own5), (show Aside _ from hS5.le (by omega))⟩
        · go_wp2_with fail
          refine (pick_any r (cells) _ _ hS3.rd (by omega) (by omega)).mono ?_
          rintro e w4 ⟨x1, rfl, hx1a, hx1b, hs⟩
          replace B13 := Blk.stp hs B13 (by omega)
          replace own3 := own3.stp hs (by omega)
          replace hS3 := hS3.trans hs
          clear hs
          have f13 := B13.frozen
          have d13 := B13.c1
          have B13n := B13.set_ 1 (.int .i64 (x1))
          have own3n := own3.farNe (p := ⟨w3.heap.size, 1, none⟩) hne13 (.int .i64 (x1))
          have hS3n := Stp.set (p := ⟨w3.heap.size, 1, none⟩) (.int .i64 (x1)) hz3 hz3r hS3
          clear B13 own3 hS3
          have B13 := B13n
          have own3 := own3n
          have hS3 := hS3n
          clear B13n own3n hS3n
          have c0 := B13.c0
          have c1 := B13.c1
          have c2 := B13.c2
          have src := Sl.of_blk (xs := [((7 : Int), (x1 : Int), (0 : Int))]) (Blk.new ((w4.setCell ⟨w3.heap.size, 1, none⟩ (.int .i64 x1))) 48 #[.int .i64 (7), .int .i64 (x1), .int .i64 (0)]) encO (by simp)
          rw [show ((w4.setCell ⟨w3.heap.size, 1, none⟩ (.int .i64 x1))).heap.size = w4.heap.size from by simp [World.setCell]] at src
          have own4 := own3.alloc (.cells #[.int .i64 (7), .int .i64 (x1), .int .i64 (0)] 48)
          have hS4 := hS3.alloc (.cells #[.int .i64 (7), .int .i64 (x1), .int .i64 (0)] 48)
          go_wp2_with (at_builtin; refine app_own rfl _ _ appOrd rfl encO w.heap.size _ l rfl own4 _ 1 1 [((7 : Int), (x1 : Int), (0 : Int))] rfl (fun e => by cases e) src (by omega) hS4.grown.size ?_; intro v' w9 own5 hg5; have hS5 := hS4.app own4 hg5 (Nat.le_refl _) hr0)
          go_roundg (gk - 1)
          case measure => omega
          case rel => exact ⟨kk + 1, l ++ [((7 : Int), (x1 : Int), (0 : Int))], _, rfl, by omega, by omega, by omega, by go_num, by simp; omega, (show Aside _ from own5), (show Aside _ from hS5.le (by omega))⟩
        · have c0 := B13.c0
          have c1 := B13.c1
          have c2 := B13.c2
          have src := Sl.of_blk (xs := [((0 : Int), (0 : Int), (0 : Int))]) (Blk.new ((w3.alloc (.cells #[.int .i64 0, .int .i64 0, .int .i64 0] 48))) 48 #[.int .i64 (0), .int .i64 (0), .int .i64 (0)]) encO (by simp)
          rw [show ((w3.alloc (.cells #[.int .i64 0, .int .i64 0, .int .i64 0] 48))).heap.size = w3.heap.size + 1 from by simp [World.setCell]] at src
          have own4 := own3.alloc (.cells #[.int .i64 (0), .int .i64 (0), .int .i64 (0)] 48)
          have hS4 := hS3.alloc (.cells #[.int .i64 (0), .int .i64 (0), .int .i64 (0)] 48)
          go_wp2_with (at_builtin; refine app_own rfl _ _ appOrd rfl encO w.heap.size _ l rfl own4 _ 1 1 [((0 : Int), (0 : Int), (0 : Int))] rfl (fun e => by cases e) src (by omega) hS4.grown.size ?_; intro v' w9 own5 hg5; have hS5 := hS4.app own4 hg5 (Nat.le_refl _) hr0)
          go_roundg (gk - 1)
          case measure => omega
          case rel => exact ⟨kk + 1, l ++ [((0 : Int), (0 : Int), (0 : Int))], _, rfl, by omega, by omega, by omega, by go_num, by simp; omega, (show Aside _ from own5), (show Aside _ from hS5.le (by omega))⟩
        · have c0 := B13.c0
          have c1 := B13.c1
          have c2 := B13.c2
          have src := Sl.of_blk (xs := [((8 : Int), (0 : Int), (0 : Int))]) (Blk.new ((w3.alloc (.cells #[.int .i64 8, .int .i64 0, .int .i64 0] 48))) 48 #[.int .i64 (8), .int .i64 (0), .int .i64 (0)]) encO (by simp)
          rw [show ((w3.alloc (.cells #[.int .i64 8, .int .i64 0, .int .i64 0] 48))).heap.size = w3.heap.size + 1 from by simp [World.setCell]] at src
          have own4 := own3.alloc (.cells #[.int .i64 (8), .int .i64 (0), .int .i64 (0)] 48)
          have hS4 := hS3.alloc (.cells #[.int .i64 (8), .int .i64 (0), .int .i64 (0)] 48)
          go_wp2_with (at_builtin; refine app_own rfl _ _ appOrd rfl encO w.heap.size _ l rfl own4 _ 1 1 [((8 : Int), (0 : Int), (0 : Int))] rfl (fun e => by cases e) src (by omega) hS4.grown.size ?_; intro v' w9 own5 hg5; have hS5 := hS4.app own4 hg5 (Nat.le_refl _) hr0)
          go_roundg (gk - 1)
          case measure => omega
          case rel => exact ⟨kk + 1, l ++ [((8 : Int), (0 : Int), (0 : Int))], _, rfl, by omega, by omega, by omega, by go_num, by simp; omega, (show Aside _ from own5), (show Aside _ from hS5.le (by omega))⟩
    · obtain rfl : kk = m := by omega
      clear hlt
      obtain ⟨x, l', rfl⟩ : ∃ x l', l = x :: l' := by
        cases l with
        | nil => simp at hll; omega
        | cons x l' => exact ⟨x, l', rfl⟩
      have hl7 : (x :: l').length ≤ 7 := by omega
      obtain ⟨g, c, hvg, hgb, hgl, hc1, hc2⟩ := own1.form (by simp)
      subst hvg
      go_wp2_with fail
      refine (odd_any _ 2 _ _ hS.rd (by omega) (by omega)).mono ?_
      rintro e w4 ⟨q, rfl, hs⟩
      replace own1 := own1.stp hs (by omega)
      replace hS := (hS.trans hs).le (show _ ≤ b + 100 by omega)
      clear hs
      cases q
      · go_wp2
        go_ret
        exact ⟨⟨_, _, c, x :: l'⟩, rfl, ⟨own1.slI encO, fun g o e => by injection e with e; injection e with e; omega, (fun e => by cases e), (fun ad e => by injection e with e; rw [← e])⟩, by simp at hl7 ⊢; omega, hS.le (by omega)⟩
      · go_wp2_with fail
        refine (pick_any r 4 _ _ hS.rd (by omega) (by omega)).mono ?_
        rintro e w5 ⟨v5, rfl, hv50, hv51, hs⟩
        replace own1 := own1.stp hs (by omega)
        replace hS := (hS.trans hs).le (show _ ≤ b + 110 by omega)
        clear hs
        rcases (show v5 = 0 ∨ v5 = 1 ∨ v5 = 2 ∨ v5 = 3 by omega) with rfl | rfl | rfl | rfl
        · have B2 := Blk.new w5 3 #[.int .i64 (-1), .int .i64 9]
          replace own1 := own1.alloc (.cells #[.int .i64 (-1), .int .i64 9] 3)
          replace hS := hS.alloc (.cells #[.int .i64 (-1), .int .i64 9] 3)
          have hz5 := hS.rd.lt
          have hz6 : w5.heap.size ≠ r := by have := hS.grown.size; simp at this; have h2 := (own1.lt g rfl); simp at h2; omega
          go_wp2_with fail
          refine (pick_any r 2 _ _ hS.rd (by omega) (by omega)).mono ?_
          rintro e w6 ⟨v6, rfl, hv60, hv61, hs⟩
          replace B2 := Blk.stp hs B2 hz6
          replace own1 := own1.stp hs (by omega)
          replace hS := (hS.trans hs).le (show _ ≤ b + 120 by omega)
          clear hs
          have g2 := (B2.cell v6.toNat).trans (litq2 hv60 hv61 _ _)
          generalize sel [-1, 9] v6 = z at *
          have c0 := own1.cellF encO 0 0 0 x _ rfl rfl rfl
          have c1 := own1.cellF encO 1 0 1 x _ rfl rfl rfl
          have c2 := own1.cellF encO 2 0 2 x _ rfl rfl rfl
          have f0 := own1.frozenAt 0
          have f1 := own1.frozenAt 1
          have f2 := own1.frozenAt 2
          have st0 := own1.storedF encO 0 0 0 x (z, x.2.1, x.2.2) (.int .i64 (z)) rfl (by decide) rfl rfl
          have st1 := st0.1.storedF encO 1 0 1 (z, x.2.1, x.2.2) (z, 0, x.2.2) (.int .i64 (0)) rfl (by decide) rfl rfl
          have st2 := st1.1.storedF encO 2 0 2 (z, 0, x.2.2) (z, 0, 0) (.int .i64 (0)) rfl (by decide) rfl rfl
          have hS8 := ((hS.app own1 st0.2 (Nat.le_refl _) hr0).app st0.1 st1.2 (Nat.le_refl _) hr0).app st1.1 st2.2 (Nat.le_refl _) hr0
          go_wp2
          go_ret
          exact ⟨⟨_, _, c, (z, 0, 0) :: l'⟩, rfl, ⟨st2.1.slI encO, fun g o e => by injection e with e; injection e with e; omega, (fun e => by cases e), (fun ad e => by injection e with e; rw [← e])⟩, by simp at hl7 ⊢; omega, hS8.le (by omega)⟩
        · have c0 := own1.cellF encO 0 0 0 x _ rfl rfl rfl
          have c1 := own1.cellF encO 1 0 1 x _ rfl rfl rfl
          have c2 := own1.cellF encO 2 0 2 x _ rfl rfl rfl
          have f0 := own1.frozenAt 0
          have f1 := own1.frozenAt 1
          have f2 := own1.frozenAt 2
          have st0 := own1.storedF encO 0 0 0 x (3, x.2.1, x.2.2) (.int .i64 (3)) rfl (by decide) rfl rfl
          have st1 := st0.1.storedF encO 1 0 1 (3, x.2.1, x.2.2) (3, cells, x.2.2) (.int .i64 (cells)) rfl (by decide) rfl rfl
          have st2 := st1.1.storedF encO 2 0 2 (3, cells, x.2.2) (3, cells, 0) (.int .i64 (0)) rfl (by decide) rfl rfl
          have hS8 := ((hS.app own1 st0.2 (Nat.le_refl _) hr0).app st0.1 st1.2 (Nat.le_refl _) hr0).app st1.1 st2.2 (Nat.le_refl _) hr0
          go_wp2
          go_ret
          exact ⟨⟨_, _, c, (3, cells, 0) :: l'⟩, rfl, ⟨st2.1.slI encO, fun g o e => by injection e with e; injection e with e; omega, (fun e => by cases e), (fun ad e => by injection e with e; rw [← e])⟩, by simp at hl7 ⊢; omega, hS8.le (by omega)⟩
        · have hlz : ((x :: l').length : Int) = (l'.length : Int) + 1 := by simp
          have c0 := own1.cellF encO 0 0 0 x _ rfl rfl rfl
          have c1 := own1.cellF encO 1 0 1 x _ rfl rfl rfl
          have c2 := own1.cellF encO 2 0 2 x _ rfl rfl rfl
          have f0 := own1.frozenAt 0
          have f1 := own1.frozenAt 1
          have f2 := own1.frozenAt 2
          have st0 := own1.storedF encO 0 0 0 x (4, x.2.1, x.2.2) (.int .i64 (4)) rfl (by decide) rfl rfl
          have st1 := st0.1.storedF encO 1 0 1 (4, x.2.1, x.2.2) (4, ((x :: l').length : Int), x.2.2) (.int .i64 (((x :: l').length : Int))) rfl (by decide) rfl rfl
          have st2 := st1.1.storedF encO 2 0 2 (4, ((x :: l').length : Int), x.2.2) (4, ((x :: l').length : Int), 0) (.int .i64 (0)) rfl (by decide) rfl rfl
          have hS8 := ((hS.app own1 st0.2 (Nat.le_refl _) hr0).app st0.1 st1.2 (Nat.le_refl _) hr0).app st1.1 st2.2 (Nat.le_refl _) hr0
          go_wp2
          go_ret
          exact ⟨⟨_, _, c, (4, ((x :: l').length : Int), 0) :: l'⟩, rfl, ⟨st2.1.slI encO, fun g o e => by injection e with e; injection e with e; omega, (fun e => by cases e), (fun ad e => by injection e with e; rw [← e])⟩, by simp at hl7 ⊢; omega, hS8.le (by omega)⟩
        · go_wp2_with (at_make; refine make_own rfl _ _ zeroOrd rfl encO w.heap.size _ _ 21 rfl rfl (by omega) (by omega) (by omega) hS.grown.size ?_; intro w9 own9 hg9; have hS9 := hS.none hg9)
          go_ret
          exact ⟨⟨_, _, _, List.replicate 21 (0, 0, 0)⟩, rfl, own9.okv encO, by simp, hS9.le (by omega)⟩
end Go.Proofs.Ytffhcifeccdfjaa
