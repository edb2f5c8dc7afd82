/- The walk of FnExactWatchValid. -/
import Derived.Test.YtckgdlgdipfgmaaGreatWatchV
import Derived.Deep.RegionWith
namespace Go.Proofs.YtckgdlgdipfgmaaGreat
set_option linter.unusedVariables false
set_option linter.unusedSimpArgs false
open Go.RowKit

set_option maxRecDepth 100000 in
set_option maxHeartbeats 4000000 in
theorem lawExactWatchValid (m : WatR) (w : World) (h : okW w m) :
    Calls Tryz.prog 6 #[watV m] w fun e w' => .returned (.bool true) = e ∧ Below w.heap.size w w' := by
  have hz := fun W hW => szWatch_any m 1048576 (by omega) W (h.below hW)
  have hT := fun W hW hsm => toWatch_any m hsm W (h.below hW)
  obtain ⟨⟨⟨⟨A1, n1, c1, x1⟩, ⟨A2, n2, c2, x2⟩, ⟨A3, n3, c3, x3⟩⟩, ⟨A4, n4, c4, x4⟩, ⟨A5, n5, c5, x5⟩, ⟨A6, n6, c6, x6⟩, tick⟩, ⟨A7, n7, c7, x7⟩⟩ := m
  have hb0 := alo (Below.refl w.heap.size w) (.cells #[.slice A1 n1 c1, .slice A2 n2 c2, .slice A3 n3 c3, .slice A4 n4 c4, .slice A5 n5 c5, .slice A6 n6 c6, .int .i64 tick, .slice A7 n7 c7] 55)
  have B1 := Blk.new w 55 #[.slice A1 n1 c1, .slice A2 n2 c2, .slice A3 n3 c3, .slice A4 n4 c4, .slice A5 n5 c5, .slice A6 n6 c6, .int .i64 tick, .slice A7 n7 c7]
  obtain ⟨C, hC⟩ : ∃ C : MacC × List (Bool × Int), cW (((((⟨A1, n1, c1, x1⟩, ⟨A2, n2, c2, x2⟩, ⟨A3, n3, c3, x3⟩) : SetR), ⟨A4, n4, c4, x4⟩, ⟨A5, n5, c5, x5⟩, ⟨A6, n6, c6, x6⟩, tick), ⟨A7, n7, c7, x7⟩) : WatR) = C := ⟨_, rfl⟩
  simp only [hC] at hT
  simp only [watV, macV, setV, SV.v_mk] at hz hT ⊢
  clear h hC
  have x0 := B1.c0
  have x1' := B1.c1
  have x2' := B1.c2
  have x3' := B1.c3
  have x4' := B1.c4
  have x5' := B1.c5
  have x6' := B1.c6
  have x7' := blk_cells B1 7 _ rfl
  go_enter Tryz.func6, Tryz.ntmps6
  go_wp2_with fail
  refine (hz _ hb0).mono ?_
  rintro e w1 ⟨m1, rfl, hm1, hsm, hb1⟩
  have hB1 := thn hb0 hb1
  replace B1 := B1.below hb1
  clear hz hb1 hb0 x0 x1' x2' x3' x4' x5' x6' x7'
  by_cases hneg : m1 < 0
  · go_wp2
    go_ret
    exact ⟨rfl, hB1⟩
  · have hsm := hsm (by omega)
    have hT := fun W hW => hT W hW hsm
    have x0 := B1.c0
    have x1' := B1.c1
    have x2' := B1.c2
    have x3' := B1.c3
    have x4' := B1.c4
    have x5' := B1.c5
    have x6' := B1.c6
    have x7' := blk_cells B1 7 _ rfl
    go_wp2_with fail
    refine (hT _ hB1).mono ?_
    rintro e w2 ⟨m2, rfl, l2, hc2, hb2⟩
    have hB2 := thn hB1 hb2
    replace B1 := B1.below hb2
    clear hB1 hb2
    have hq := specWatchValid_any m2 w2 l2.ok
    rw [hc2] at hq
    clear l2 hc2
    go_wp2_with fail
    refine hq.mono ?_
    rintro e w3 ⟨rfl, hb3⟩
    have hB3 := thn hB2 hb3
    replace B1 := B1.below hb3
    clear hB2 hb3 hq x0 x1' x2' x3' x4' x5' x6' x7'
    have x0 := B1.c0
    have x1' := B1.c1
    have x2' := B1.c2
    have x3' := B1.c3
    have x4' := B1.c4
    have x5' := B1.c5
    have x6' := B1.c6
    have x7' := blk_cells B1 7 _ rfl
    go_wp2_with fail
    refine (hT _ hB3).mono ?_
    rintro e w4 ⟨m4, rfl, l4, hc4, hb4⟩
    have hB4 := thn hB3 hb4
    replace B1 := B1.below hb4
    clear hB3 hb4 x0 x1' x2' x3' x4' x5' x6' x7'
    obtain ⟨⟨⟨⟨D1, d1, e1, y1⟩, ⟨D2, d2, e2, y2⟩, ⟨D3, d3, e3, y3⟩⟩, ⟨D4, d4, e4, y4⟩, ⟨D5, d5, e5, y5⟩, ⟨D6, d6, e6, y6⟩, tock⟩, ⟨D7, d7, e7, y7⟩⟩ := m4
    have ok4 := l4.ok
    clear l4
    have hbA := alo (Below.refl w4.heap.size w4) (.cells #[.slice D1 d1 e1, .slice D2 d2 e2, .slice D3 d3 e3, .slice D4 d4 e4, .slice D5 d5 e5, .slice D6 d6 e6, .int .i64 tock, .slice D7 d7 e7] 60)
    have hq := watchValid_any _ _ (ok4.below hbA)
    have hE := fun W (hW : Below (w4.alloc (.cells #[.slice D1 d1 e1, .slice D2 d2 e2, .slice D3 d3 e3, .slice D4 d4 e4, .slice D5 d5 e5, .slice D6 d6 e6, .int .i64 tock, .slice D7 d7 e7] 60)).heap.size _ W) m9 (h9 : okW W m9) hc => eqWatch_any _ m9 W ((ok4.below hbA).below hW) h9 hc
    rw [hc4] at hq
    simp only [hc4] at hE
    have B5 := Blk.new w4 60 #[.slice D1 d1 e1, .slice D2 d2 e2, .slice D3 d3 e3, .slice D4 d4 e4, .slice D5 d5 e5, .slice D6 d6 e6, .int .i64 tock, .slice D7 d7 e7]
    replace B1 := B1.alloc (.cells #[.slice D1 d1 e1, .slice D2 d2 e2, .slice D3 d3 e3, .slice D4 d4 e4, .slice D5 d5 e5, .slice D6 d6 e6, .int .i64 tock, .slice D7 d7 e7] 60)
    have hB5 := alo hB4 (.cells #[.slice D1 d1 e1, .slice D2 d2 e2, .slice D3 d3 e3, .slice D4 d4 e4, .slice D5 d5 e5, .slice D6 d6 e6, .int .i64 tock, .slice D7 d7 e7] 60)
    clear ok4 hc4 hbA hB4
    simp only [watV, macV, setV, SV.v_mk] at hq hE ⊢
    have z0 := B5.c0
    have z1 := B5.c1
    have z2 := B5.c2
    have z3 := B5.c3
    have z4 := B5.c4
    have z5 := B5.c5
    have z6 := B5.c6
    have z7 := blk_cells B5 7 _ rfl
    go_wp2_with fail
    refine hq.mono ?_
    rintro e w5 ⟨rfl, hb5⟩
    have hB6 := thn hB5 hb5
    replace B1 := B1.below hb5
    replace B5 := B5.below hb5
    have hE5 := fun W (hW : Below w5.heap.size w5 W) m9 h9 hc => hE W (thn hb5 hW) m9 h9 hc
    clear hq hE hB5 z0 z1 z2 z3 z4 z5 z6 z7
    generalize watOkC C = v at *
    clear hb5
    have x0 := B1.c0
    have x1' := B1.c1
    have x2' := B1.c2
    have x3' := B1.c3
    have x4' := B1.c4
    have x5' := B1.c5
    have x6' := B1.c6
    have x7' := blk_cells B1 7 _ rfl
    have z0 := B5.c0
    have z1 := B5.c1
    have z2 := B5.c2
    have z3 := B5.c3
    have z4 := B5.c4
    have z5 := B5.c5
    have z6 := B5.c6
    have z7 := blk_cells B5 7 _ rfl
    go_wp2_with fail
    go_region_with (first
      | (go_at_call 22; refine (hT _ (by repeat (first | exact hB6 | apply Below.drew))).mono ?_; rintro e w6 ⟨m6, rfl, l6, hc6, hb6⟩; have hB7 : Below w.heap.size w w6 := thn (by repeat (first | exact hB6 | apply Below.drew)) hb6; have hb56 : Below w5.heap.size w5 w6 := thn (by repeat (first | exact Below.refl _ _ | apply Below.drew)) hb6; have ok6 := l6.ok; have B5x := B5.below hb56; have z0' := B5x.c0; have z1' := B5x.c1; have z2' := B5x.c2; have z3' := B5x.c3; have z4' := B5x.c4; have z5' := B5x.c5; have z6' := B5x.c6; have z7' := blk_cells B5x 7 _ rfl)
      | (go_at_call 24; refine (hE5 _ hb56 _ ok6 hc6.symm).mono ?_; rintro e w7 ⟨rfl, hb7⟩; have hB8 := thn hB7 hb7))
    all_goals
      go_wp2
      go_ret
      exact ⟨rfl, hB8⟩
end Go.Proofs.YtckgdlgdipfgmaaGreat
