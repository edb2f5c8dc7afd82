/- Windows and a transfer drawn. -/
import Derived.Test.YtffhcifeccdfjaaDWin
import Derived.Test.YtffhcifeccdfjaaSWin
import Derived.Test.YtffhcifeccdfjaaList
import Derived.Test.YtffhcifeccdfjaaTransfer
import Derived.Deep.RegionWith
namespace Go.Proofs.Ytffhcifeccdfjaa
open Go.RowKit

def accV (x : SV Win × (Int × Int × Bool)) : Value := .tuple #[x.1.v, trCells x.2]
theorem okSet3 {α : Type} {W : World} {base k g : Nat} {enc : α → List Value} {s : SV α} (h : SV.ok W base k enc s) (hne : ∀ b o, s.A = some ⟨b, o, none⟩ → b ≠ g) (x y z : Value) : SV.ok (((W.setCell ⟨g, 0, none⟩ x).setCell ⟨g, 1, none⟩ y).setCell ⟨g, 2, none⟩ z).drew base k enc s := by
  refine ⟨h.sl.keep (by simp [World.setCell, World.drew]) fun b o e => ?_, h.fresh, h.nil, h.spot⟩
  have hb := hne b o e
  show (((W.setCell ⟨g, 0, none⟩ x).setCell ⟨g, 1, none⟩ y).setCell ⟨g, 2, none⟩ z).heap[b]? = _
  rw [Below.heap_setCell _ _ _ _ hb, Below.heap_setCell _ _ _ _ hb, Below.heap_setCell _ _ _ _ hb]
set_option maxRecDepth 100000 in
set_option maxHeartbeats 4000000 in
theorem l20Access_any (r : Nat) (b : Int) (w : World) (h : Rd w r 96 b) (hb : b ≤ 999990000) :
    Calls Try.prog 48 #[.pointer (some ⟨r, 0, none⟩)] w (Post accV fun x w' => SV.ok w' w.heap.size 3 Win.cells x.1 ∧ x.1.n ≤ 13 ∧ TrB x.2 ∧ Stp r 96 w (b + 150) w') := by
  have hS := Stp.refl h
  have hr0 := h.lt
  skip
  have B1 := Blk.new w 24 #[.int .i64 0, .int .i64 0, .bool false]; have lB1 := hS.rd.lt; have nB1 := Nat.ne_of_gt lB1; have sB1 := hS.grown.size
  clear h
  go_enter Try.func48, Try.ntmps48
  go_wp2_with fail; refine (l20Windows_any r 4 14 _ _ (by repeat (first | exact hS.rd | apply Rd.drew | apply Rd.alloc | (apply Rd.setCell; rotate_left; assumption))) (by omega) (by omega)).mono ?_; rintro e w1 ⟨s, rfl, hs1, hn13, hs3, hs⟩; replace B1 := Blk.stpOf B1 hs (by repeat (first | exact B1 | apply Blk.alloc | apply Blk.drew | (apply Blk.far; rotate_left; (first | assumption | exact Ne.symm (by assumption))) | apply Blk.set_)) (by assumption); replace hS := Stp.trans (by repeat (first | exact hS | apply Stp.drew | apply Stp.alloc | (apply Stp.set; assumption; assumption))) hs; clear hs
  obtain ⟨A, n, c, xs⟩ := s
  have hsl := hs1.sl
  have hfr : ∀ b o, A = some ⟨b, o, none⟩ → w.heap.size + 1 ≤ b := fun b o e => by have := hs1.fresh b o e; simpa using this
  have hgl1 := Lib.hid (fun (b o : Nat) (e : A = some ⟨b, o, none⟩) (h0 : 0 < n) => show b < w1.heap.size by obtain ⟨b', o', e', hb', _⟩ := hsl.cells h0; rw [e] at e'; injection e' with e'; injection e' with e1 e2; omega)
  have hnil := hs1.nil
  have hspot := hs1.spot
  clear hs1 hs3
  simp only [SV.v] at hsl hn13 ⊢
  go_wp2_with fail
  refine (l20Transfer_any r 12 _ _ hS.rd (by omega) (by omega)).mono ?_
  rintro e w2 ⟨⟨p, q, z⟩, rfl, hx, hs⟩
  have hw12 : w1.heap.size ≤ w2.heap.size := hs.grown.size
  have hsl := hsl.stp hs fun b o e => by have := hfr b o e; omega
  replace B1 := Blk.stpOf B1 hs (by repeat (first | exact B1 | apply Blk.alloc | apply Blk.drew | (apply Blk.far; rotate_left; (first | assumption | exact Ne.symm (by assumption))) | apply Blk.set_)) (by assumption); replace hS := Stp.trans (by repeat (first | exact hS | apply Stp.drew | apply Stp.alloc | (apply Stp.set; assumption; assumption))) hs; clear hs
  unfold TrB at hx
  simp only [] at hx
  have B2 := Blk.new w2 24 #[.int .i64 p, .int .i64 q, .bool z]; have lB2 := hS.rd.lt; have nB2 := Nat.ne_of_gt lB2; have sB2 := hS.grown.size; have dB1B2 := Nat.ne_of_lt B1.lt
  simp only [trCells]
  replace hsl := hsl.below ((Below.refl _ _).alloc (Nat.le_refl _) (.cells #[.int .i64 p, .int .i64 q, .bool z] 24))
  replace hS := hS.alloc (.cells #[.int .i64 p, .int .i64 q, .bool z] 24)
  replace B1 := B1.alloc (.cells #[.int .i64 p, .int .i64 q, .bool z] 24)
  by_cases hn : n = 0
  · subst hn
    go_wp2_with fail
    generalize w2.alloc (.cells #[.int .i64 p, .int .i64 q, .bool z] 24) = W2 at *
    have hok : SV.ok (W2) w.heap.size 3 Win.cells ⟨A, 0, c, xs⟩ := ⟨hsl, fun b o e => by have := hfr b o e; omega, hnil, hspot⟩
    have hokF := fun x y z => okSet3 (g := w.heap.size) hok (fun b o e => by have := hfr b o e; omega) x y z
    skip
    skip
    have cB1_0 := B1.c0; have cB1_1 := B1.c1; have cB1_2 := B1.c2; have fB1 := B1.frozen; have cB2_0 := B2.c0; have cB2_1 := B2.c1; have cB2_2 := B2.c2; have fB2 := B2.frozen
    go_wp2_with fail
    go_region
    all_goals
      go_wp2
      exact bodyPost_ret (v := accV (⟨A, 0, c, xs⟩, (p, q, z))) (by simp [results, Try.results48, go_sem, accV, SV.v, trCells, cB1_0, cB1_1, cB1_2, cB2_0, cB2_1, cB2_2]) rfl ⟨_, rfl, hokF _ _ _, hn13, (by unfold TrB; simp only []; omega), (by repeat (first | exact hS.le (by omega) | apply Stp.drew | apply Stp.alloc | (apply Stp.set; assumption; assumption)))⟩
  · have hnz : (0 : Int) < (n : Int) := by omega
    go_wp2_with fail
    generalize w2.alloc (.cells #[.int .i64 p, .int .i64 q, .bool z] 24) = W2 at *
    refine (pick_any _ 2 _ _ hS.rd (by omega) (by omega)).mono ?_
    rintro e w3 ⟨v3, rfl, hv30, hv31, hs⟩
    have hsl := hsl.stp hs fun b o e => by have := hfr b o e; omega
    replace B1 := Blk.stpOf B1 hs (by repeat (first | exact B1 | apply Blk.alloc | apply Blk.drew | (apply Blk.far; rotate_left; (first | assumption | exact Ne.symm (by assumption))) | apply Blk.set_)) (by assumption); replace B2 := Blk.stpOf B2 hs (by repeat (first | exact B2 | apply Blk.alloc | apply Blk.drew | (apply Blk.far; rotate_left; (first | assumption | exact Ne.symm (by assumption))) | apply Blk.set_)) (by assumption); replace hS := Stp.trans (by repeat (first | exact hS | apply Stp.drew | apply Stp.alloc | (apply Stp.set; assumption; assumption))) hs; clear hs
    by_cases hv : v3 = 0
    · subst hv
      obtain ⟨g, o, rfl, x0, hx0, hc⟩ := hsl.nth (kk := 0) (by omega) (Below.refl _ _)
      have hc0 := hc 0 _ rfl
      have hc1 := hc 1 _ rfl
      have hc2 := hc 2 _ rfl
      have hgl : g < w3.heap.size := World.block_lt_of_cell? _ _ hc0
      have hgw := hfr g o rfl
      have hfr' : ∀ b o', some (⟨g, o, none⟩ : Addr) = some ⟨b, o', none⟩ → w.heap.size + 1 ≤ b := fun b o' e => hfr b o' e
      clear hc hx0
      have hq := fun W => l1Window_any x0 W
      have hok0 := @Win.ok_true x0
      generalize x0.ok = ok at *
      obtain ⟨xb, xz, xw⟩ := x0
      simp only [Win.cells, Nat.zero_mul, Nat.add_zero] at hc0 hc1 hc2 hq hok0
      go_wp2_with fail
      refine (hq _).mono ?_
      rintro e w4 ⟨rfl, hb4⟩
      replace B1 := B1.below hb4
      replace B2 := B2.below hb4
      replace hsl := hsl.below hb4
      have hd0 := (hb4.cell (p := ⟨g, o, none⟩) hgl).trans hc0
      have hd1 := (hb4.cell (p := ⟨g, o + 1, none⟩) hgl).trans hc1
      replace hS := hS.none (grown_of_below hb4 none)
      clear hb4 hq hc0 hc1 hc2
      cases ok
      · clear hok0
        have hok : SV.ok (w4) w.heap.size 3 Win.cells ⟨some ⟨g, o, none⟩, n, c, xs⟩ := ⟨hsl, fun b o e => by have := hfr b o e; omega, hnil, hspot⟩
        have hokF := fun x y z => okSet3 (g := w.heap.size) hok (fun b o e => by have := hfr b o e; omega) x y z
        skip
        skip
        have cB1_0 := B1.c0; have cB1_1 := B1.c1; have cB1_2 := B1.c2; have fB1 := B1.frozen; have cB2_0 := B2.c0; have cB2_1 := B2.c1; have cB2_2 := B2.c2; have fB2 := B2.frozen
        go_wp2_with fail
        go_region
        all_goals
          go_wp2
          exact bodyPost_ret (v := accV (⟨some ⟨g, o, none⟩, n, c, xs⟩, (p, q, z))) (by simp [results, Try.results48, go_sem, accV, SV.v, trCells, cB1_0, cB1_1, cB1_2, cB2_0, cB2_1, cB2_2]) rfl ⟨_, rfl, hokF _ _ _, hn13, (by unfold TrB; simp only []; omega), (by repeat (first | exact hS.le (by omega) | apply Stp.drew | apply Stp.alloc | (apply Stp.set; assumption; assumption)))⟩
      · obtain ⟨k1, k2, k3, k4⟩ := hok0.1 rfl
        clear hok0
        have hgB : g ≠ w2.heap.size := by have := hgl1.out g o rfl (by omega); omega
        have hwx := fun v (h : 0 ≤ v ∧ v < xz) => IntWalk.i64_in (xb + v) (by omega)
        skip
        skip
        have cB1_0 := B1.c0; have cB1_1 := B1.c1; have cB1_2 := B1.c2; have fB1 := B1.frozen; have cB2_0 := B2.c0; have cB2_1 := B2.c1; have cB2_2 := B2.c2; have fB2 := B2.frozen
        go_wp2_with fail
        go_region_with (go_at_call 41; refine (pick_any _ xz _ _ (by repeat (first | exact hS.rd | apply Rd.drew | apply Rd.alloc)) (by omega) (by omega)).mono ?_; rintro e w5 ⟨v4, rfl, hv40, hv41, hs⟩; have hd5 := hs.grown.cell (show w4.drew.cell? ⟨g, o, none⟩ = _ from hd0) (fun e => by injection e with e; have : g = r := e; omega); have hd6 := hs.grown.cell (show w4.drew.cell? ⟨g, o + 1, none⟩ = _ from hd1) (fun e => by injection e with e; have : g = r := e; omega); have hsl5 := Sl.stp (w := w4.drew) (hsl.drewN 1) hs (fun b o e => by have := hfr b o e; omega); replace B1 := Blk.stpOf B1 hs (by repeat (first | exact B1 | apply Blk.drew)) (by assumption); replace B2 := Blk.stpOf B2 hs (by repeat (first | exact B2 | apply Blk.drew)) (by assumption); replace hS := Stp.trans (by repeat (first | exact hS | apply Stp.drew)) hs; clear hs; have hwv := hwx v4 ⟨hv40, hv41⟩; have cB1_0 := B1.c0; have cB1_1 := B1.c1; have cB1_2 := B1.c2; have fB1 := B1.frozen; have cB2_0 := B2.c0; have cB2_1 := B2.c1; have cB2_2 := B2.c2; have fB2 := B2.frozen)
        all_goals
          clear hd0 hd1
          replace hS := Stp.set (p := ⟨w2.heap.size, 0, none⟩) (.int .i64 (xb + v4)) (by simp only []; omega) (by simp only []; omega) hS
          replace hsl5 := hsl5.keep (w' := w5.setCell ⟨w2.heap.size, 0, none⟩ (.int .i64 (xb + v4))) (by simp [World.setCell]) (fun b o' e => Below.heap_setCell _ _ _ _ (by injection e with e; injection e with e1 e2; simp only []; omega))
          replace B1 := B1.far (p := ⟨w2.heap.size, 0, none⟩) (by simp only []; omega) (.int .i64 (xb + v4))
          replace B2 : Blk _ _ _ #[.int .i64 (xb + v4), .int .i64 q, .bool z] := B2.set_ 0 (.int .i64 (xb + v4))
          have hd7 : (w5.setCell ⟨w2.heap.size, 0, none⟩ (.int .i64 (xb + v4))).cell? ⟨g, o + 1, none⟩ = some (.int .i64 xz) := (World.cell?_of_block (w := w5) (Below.heap_setCell _ _ _ _ hgB)).trans hd6
          clear cB1_0 cB1_1 cB1_2 fB1 cB2_0 cB2_1 cB2_2 fB2
          clear hwv hwx hd5 hd6
          generalize w5.setCell ⟨w2.heap.size, 0, none⟩ (.int .i64 (xb + v4)) = W6 at *
          by_cases h64 : xz < 64
          · go_wp2_with fail
            refine (pick_any _ (xz) _ _ hS.rd (by omega) (by omega)).mono ?_
            rintro e w7 ⟨v5, rfl, hv50, hv51, hs⟩
            replace hsl := Sl.stp hsl5 hs (fun b o e => by have := hfr' b o e; omega)
            clear hsl5
            replace B1 := Blk.stpOf B1 hs (by repeat (first | exact B1 | apply Blk.alloc | apply Blk.drew | (apply Blk.far; rotate_left; (first | assumption | exact Ne.symm (by assumption))) | apply Blk.set_)) (by assumption); replace B2 := Blk.stpOf B2 hs (by repeat (first | exact B2 | apply Blk.alloc | apply Blk.drew | (apply Blk.far; rotate_left; (first | assumption | exact Ne.symm (by assumption))) | apply Blk.set_)) (by assumption); replace hS := Stp.trans (by repeat (first | exact hS | apply Stp.drew | apply Stp.alloc | (apply Stp.set; assumption; assumption))) hs; clear hs
            have hwv := IntWalk.i64_in (1 + v5) (by omega)
            have h65 : 1 + v5 < 64 := by omega
            skip
            skip
            have cB1_0 := B1.c0; have cB1_1 := B1.c1; have cB1_2 := B1.c2; have fB1 := B1.frozen; have cB2_0 := B2.c0; have cB2_1 := B2.c1; have cB2_2 := B2.c2; have fB2 := B2.frozen
            go_wp2_with fail
            replace hS := Stp.set (p := ⟨w2.heap.size, 1, none⟩) (.int .i64 (1 + v5)) (by simp only []; omega) (by simp only []; omega) hS
            replace hsl := hsl.keep (w' := w7.setCell ⟨w2.heap.size, 1, none⟩ (.int .i64 (1 + v5))) (by simp [World.setCell]) (fun b o' e => Below.heap_setCell _ _ _ _ (by injection e with e; injection e with e1 e2; simp only []; omega))
            replace B1 := B1.far (p := ⟨w2.heap.size, 1, none⟩) (by simp only []; omega) (.int .i64 (1 + v5))
            replace B2 : Blk _ _ _ #[.int .i64 (xb + v4), .int .i64 (1 + v5), .bool z] := B2.set_ 1 (.int .i64 (1 + v5))
            clear cB1_0 cB1_1 cB1_2 fB1 cB2_0 cB2_1 cB2_2 fB2
            generalize w7.setCell ⟨w2.heap.size, 1, none⟩ (.int .i64 (1 + v5)) = W8 at *
            have hok : SV.ok (W8) w.heap.size 3 Win.cells ⟨some ⟨g, o, none⟩, n, c, xs⟩ := ⟨hsl, fun b o e => by have := hfr b o e; omega, hnil, hspot⟩
            have hokF := fun x y z => okSet3 (g := w.heap.size) hok (fun b o e => by have := hfr b o e; omega) x y z
            skip
            skip
            have cB1_0 := B1.c0; have cB1_1 := B1.c1; have cB1_2 := B1.c2; have fB1 := B1.frozen; have cB2_0 := B2.c0; have cB2_1 := B2.c1; have cB2_2 := B2.c2; have fB2 := B2.frozen
            go_wp2_with fail
            go_region
            all_goals
              go_wp2
              exact bodyPost_ret (v := accV (⟨some ⟨g, o, none⟩, n, c, xs⟩, ((xb + v4), (1 + v5), z))) (by simp [results, Try.results48, go_sem, accV, SV.v, trCells, cB1_0, cB1_1, cB1_2, cB2_0, cB2_1, cB2_2]) rfl ⟨_, rfl, hokF _ _ _, hn13, (by unfold TrB; simp only []; omega), (by repeat (first | exact hS.le (by omega) | apply Stp.drew | apply Stp.alloc | (apply Stp.set; assumption; assumption)))⟩
          · go_wp2_with fail
            refine (pick_any _ (64) _ _ hS.rd (by omega) (by omega)).mono ?_
            rintro e w7 ⟨v5, rfl, hv50, hv51, hs⟩
            replace hsl := Sl.stp hsl5 hs (fun b o e => by have := hfr' b o e; omega)
            clear hsl5
            replace B1 := Blk.stpOf B1 hs (by repeat (first | exact B1 | apply Blk.alloc | apply Blk.drew | (apply Blk.far; rotate_left; (first | assumption | exact Ne.symm (by assumption))) | apply Blk.set_)) (by assumption); replace B2 := Blk.stpOf B2 hs (by repeat (first | exact B2 | apply Blk.alloc | apply Blk.drew | (apply Blk.far; rotate_left; (first | assumption | exact Ne.symm (by assumption))) | apply Blk.set_)) (by assumption); replace hS := Stp.trans (by repeat (first | exact hS | apply Stp.drew | apply Stp.alloc | (apply Stp.set; assumption; assumption))) hs; clear hs
            have hwv := IntWalk.i64_in (1 + v5) (by omega)
            by_cases h65 : 1 + v5 < 64
            · skip
              skip
              have cB1_0 := B1.c0; have cB1_1 := B1.c1; have cB1_2 := B1.c2; have fB1 := B1.frozen; have cB2_0 := B2.c0; have cB2_1 := B2.c1; have cB2_2 := B2.c2; have fB2 := B2.frozen
              go_wp2_with fail
              replace hS := Stp.set (p := ⟨w2.heap.size, 1, none⟩) (.int .i64 (1 + v5)) (by simp only []; omega) (by simp only []; omega) hS
              replace hsl := hsl.keep (w' := w7.setCell ⟨w2.heap.size, 1, none⟩ (.int .i64 (1 + v5))) (by simp [World.setCell]) (fun b o' e => Below.heap_setCell _ _ _ _ (by injection e with e; injection e with e1 e2; simp only []; omega))
              replace B1 := B1.far (p := ⟨w2.heap.size, 1, none⟩) (by simp only []; omega) (.int .i64 (1 + v5))
              replace B2 : Blk _ _ _ #[.int .i64 (xb + v4), .int .i64 (1 + v5), .bool z] := B2.set_ 1 (.int .i64 (1 + v5))
              clear cB1_0 cB1_1 cB1_2 fB1 cB2_0 cB2_1 cB2_2 fB2
              generalize w7.setCell ⟨w2.heap.size, 1, none⟩ (.int .i64 (1 + v5)) = W8 at *
              have hok : SV.ok (W8) w.heap.size 3 Win.cells ⟨some ⟨g, o, none⟩, n, c, xs⟩ := ⟨hsl, fun b o e => by have := hfr b o e; omega, hnil, hspot⟩
              have hokF := fun x y z => okSet3 (g := w.heap.size) hok (fun b o e => by have := hfr b o e; omega) x y z
              skip
              skip
              have cB1_0 := B1.c0; have cB1_1 := B1.c1; have cB1_2 := B1.c2; have fB1 := B1.frozen; have cB2_0 := B2.c0; have cB2_1 := B2.c1; have cB2_2 := B2.c2; have fB2 := B2.frozen
              go_wp2_with fail
              go_region
              all_goals
                go_wp2
                exact bodyPost_ret (v := accV (⟨some ⟨g, o, none⟩, n, c, xs⟩, ((xb + v4), (1 + v5), z))) (by simp [results, Try.results48, go_sem, accV, SV.v, trCells, cB1_0, cB1_1, cB1_2, cB2_0, cB2_1, cB2_2]) rfl ⟨_, rfl, hokF _ _ _, hn13, (by unfold TrB; simp only []; omega), (by repeat (first | exact hS.le (by omega) | apply Stp.drew | apply Stp.alloc | (apply Stp.set; assumption; assumption)))⟩
            · skip
              skip
              have cB1_0 := B1.c0; have cB1_1 := B1.c1; have cB1_2 := B1.c2; have fB1 := B1.frozen; have cB2_0 := B2.c0; have cB2_1 := B2.c1; have cB2_2 := B2.c2; have fB2 := B2.frozen
              go_wp2_with fail
              replace hS := Stp.set (p := ⟨w2.heap.size, 1, none⟩) (.int .i64 (64)) (by simp only []; omega) (by simp only []; omega) hS
              replace hsl := hsl.keep (w' := w7.setCell ⟨w2.heap.size, 1, none⟩ (.int .i64 (64))) (by simp [World.setCell]) (fun b o' e => Below.heap_setCell _ _ _ _ (by injection e with e; injection e with e1 e2; simp only []; omega))
              replace B1 := B1.far (p := ⟨w2.heap.size, 1, none⟩) (by simp only []; omega) (.int .i64 (64))
              replace B2 : Blk _ _ _ #[.int .i64 (xb + v4), .int .i64 (64), .bool z] := B2.set_ 1 (.int .i64 (64))
              clear cB1_0 cB1_1 cB1_2 fB1 cB2_0 cB2_1 cB2_2 fB2
              generalize w7.setCell ⟨w2.heap.size, 1, none⟩ (.int .i64 (64)) = W8 at *
              have hok : SV.ok (W8) w.heap.size 3 Win.cells ⟨some ⟨g, o, none⟩, n, c, xs⟩ := ⟨hsl, fun b o e => by have := hfr b o e; omega, hnil, hspot⟩
              have hokF := fun x y z => okSet3 (g := w.heap.size) hok (fun b o e => by have := hfr b o e; omega) x y z
              skip
              skip
              have cB1_0 := B1.c0; have cB1_1 := B1.c1; have cB1_2 := B1.c2; have fB1 := B1.frozen; have cB2_0 := B2.c0; have cB2_1 := B2.c1; have cB2_2 := B2.c2; have fB2 := B2.frozen
              go_wp2_with fail
              go_region
              all_goals
                go_wp2
                exact bodyPost_ret (v := accV (⟨some ⟨g, o, none⟩, n, c, xs⟩, ((xb + v4), (64), z))) (by simp [results, Try.results48, go_sem, accV, SV.v, trCells, cB1_0, cB1_1, cB1_2, cB2_0, cB2_1, cB2_2]) rfl ⟨_, rfl, hokF _ _ _, hn13, (by unfold TrB; simp only []; omega), (by repeat (first | exact hS.le (by omega) | apply Stp.drew | apply Stp.alloc | (apply Stp.set; assumption; assumption)))⟩
    · have hv' : (v3 == (0 : Int)) = false := by rw [beq_eq_false_iff_ne]; exact hv
      have hok : SV.ok (w3) w.heap.size 3 Win.cells ⟨A, n, c, xs⟩ := ⟨hsl, fun b o e => by have := hfr b o e; omega, hnil, hspot⟩
      have hokF := fun x y z => okSet3 (g := w.heap.size) hok (fun b o e => by have := hfr b o e; omega) x y z
      skip
      skip
      have cB1_0 := B1.c0; have cB1_1 := B1.c1; have cB1_2 := B1.c2; have fB1 := B1.frozen; have cB2_0 := B2.c0; have cB2_1 := B2.c1; have cB2_2 := B2.c2; have fB2 := B2.frozen
      go_wp2_with fail
      go_region
      all_goals
        go_wp2
        exact bodyPost_ret (v := accV (⟨A, n, c, xs⟩, (p, q, z))) (by simp [results, Try.results48, go_sem, accV, SV.v, trCells, cB1_0, cB1_1, cB1_2, cB2_0, cB2_1, cB2_2]) rfl ⟨_, rfl, hokF _ _ _, hn13, (by unfold TrB; simp only []; omega), (by repeat (first | exact hS.le (by omega) | apply Stp.drew | apply Stp.alloc | (apply Stp.set; assumption; assumption)))⟩
end Go.Proofs.Ytffhcifeccdfjaa
