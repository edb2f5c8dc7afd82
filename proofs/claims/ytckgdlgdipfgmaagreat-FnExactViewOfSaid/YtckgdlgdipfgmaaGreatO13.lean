/- ViewOf and SameView of the program. ViewOf of the reference. -/
import Derived.Test.YtckgdlgdipfgmaaGreatO5
import Derived.Test.YtckgdlgdipfgmaaGreatO12

namespace Go.Proofs.YtckgdlgdipfgmaaGreat
set_option linter.unusedVariables false
set_option linter.unusedSimpArgs false
open Go.RowKit

set_option maxRecDepth 100000 in
set_option maxHeartbeats 2000000 in
theorem viewOf_any (m : MacR) (n : Int) (w : World) (h : okM w m) (hnl : nlM m) :
    Calls Tryz.prog 15 #[macV m, .int .i64 n] w (Post SV.v fun s w' => WS w' w.heap.size 3 1 eI s ∧ s.xs = viewC (cM m) n ∧ Below w.heap.size w w') := by
  have hq := fun W (hW : Below w.heap.size w W) => seen_any m n W (h.below hW)
  have hv := fun q W (hW : Below w.heap.size w W) hsn hB => view_any m n q W (h.below hW) hsn hB hnl.1 hnl.2
  clear h hnl
  obtain ⟨⟨⟨A1, n1, c1, x1⟩, ⟨A2, n2, c2, x2⟩, ⟨A3, n3, c3, x3⟩⟩, ⟨A4, n4, c4, x4⟩, ⟨A5, n5, c5, x5⟩, ⟨A6, n6, c6, x6⟩, tick⟩ := m
  have hb0 := alo (Below.refl w.heap.size w) (.cells #[.slice A1 n1 c1, .slice A2 n2 c2, .slice A3 n3 c3, .slice A4 n4 c4, .slice A5 n5 c5, .slice A6 n6 c6, .int .i64 tick] 43)
  have B0 := Blk.new w 43 #[.slice A1 n1 c1, .slice A2 n2 c2, .slice A3 n3 c3, .slice A4 n4 c4, .slice A5 n5 c5, .slice A6 n6 c6, .int .i64 tick]
  obtain ⟨C, hC⟩ : ∃ C : MacC, cM ((((⟨A1, n1, c1, x1⟩, ⟨A2, n2, c2, x2⟩, ⟨A3, n3, c3, x3⟩) : SetR), ⟨A4, n4, c4, x4⟩, ⟨A5, n5, c5, x5⟩, ⟨A6, n6, c6, x6⟩, tick) : MacR) = C := ⟨_, rfl⟩
  have hq := hq _ hb0
  simp only [hC] at hq hv ⊢
  simp only [macV, setV, SV.v_mk] at hq hv ⊢
  clear hC
  replace hv := Lib.hid hv
  have z0 := B0.c0
  have z1 := B0.c1
  have z2 := B0.c2
  have z3 := B0.c3
  have z4 := B0.c4
  have z5 := B0.c5
  have z6 := B0.c6
  have HR := Lib.hid (show viewC C n = if seenC C n then viewL C n else [] from rfl)
  generalize seenC C n = v1 at *
  cases v1
  · clear hv
    go_enter Tryz.func15, Tryz.ntmps15
    go_wp2_with fail
    refine hq.mono ?_
    rintro e w1 ⟨rfl, hb1⟩
    go_wp2
    go_ret
    exact ⟨⟨none, 0, 0, []⟩, rfl, WS.nilS, by rw [HR.out]; rfl, thn hb0 hb1⟩
  · go_enter Tryz.func15, Tryz.ntmps15
    go_wp2_with fail
    refine hq.mono ?_
    rintro e w1 ⟨rfl, hb1⟩
    have hb2 := thn hb0 hb1
    have hv := hv.out w.heap.size w1 hb2 trivial (B0.below hb1)
    clear z0 z1 z2 z3 z4 z5 z6 hq hb0 hb1 B0
    go_wp2_with fail
    refine hv.mono ?_
    rintro e w2 ⟨⟨A7, n7, c7, l7⟩, rfl, ws7, hl7, hb7⟩
    simp only [SV.v] at ws7 hl7 ⊢
    have HL := Lib.hid hl7
    clear hl7 hv
    go_wp2
    go_ret
    exact ⟨⟨A7, n7, c7, l7⟩, rfl, ws7.mono hb2.size, by rw [HR.out, ← HL.out]; rfl, thn hb2 hb7⟩
set_option maxRecDepth 100000 in
set_option maxHeartbeats 4000000 in
theorem sameView_any (a b : MacR) (n : Int) (w : World) (ha : okM w a) (hb : okM w b) (hna : nlM a) (hnb : nlM b) :
    Calls Tryz.prog 13 #[macV a, macV b, .int .i64 n] w fun e w' => .returned (.bool (sameViewC (cM a) (cM b) n)) = e ∧ Below w.heap.size w w' := by
  have hqa := fun W (hW : Below w.heap.size w W) => seen_any a n W (ha.below hW)
  have hqb := fun W (hW : Below w.heap.size w W) => seen_any b n W (hb.below hW)
  have hva := fun q W (hW : Below w.heap.size w W) hsn hB => view_any a n q W (ha.below hW) hsn hB hna.1 hna.2
  have hvb := fun q W (hW : Below w.heap.size w W) hsn hB => view_any b n q W (hb.below hW) hsn hB hnb.1 hnb.2
  clear ha hb hna hnb
  obtain ⟨⟨⟨A1, n1, c1, x1⟩, ⟨A2, n2, c2, x2⟩, ⟨A3, n3, c3, x3⟩⟩, ⟨A4, n4, c4, x4⟩, ⟨A5, n5, c5, x5⟩, ⟨A6, n6, c6, x6⟩, tick⟩ := a
  obtain ⟨⟨⟨D1, d1, e1, y1⟩, ⟨D2, d2, e2, y2⟩, ⟨D3, d3, e3, y3⟩⟩, ⟨D4, d4, e4, y4⟩, ⟨D5, d5, e5, y5⟩, ⟨D6, d6, e6, y6⟩, tock⟩ := b
  have hb0 := alo (alo (Below.refl w.heap.size w) (.cells #[.slice A1 n1 c1, .slice A2 n2 c2, .slice A3 n3 c3, .slice A4 n4 c4, .slice A5 n5 c5, .slice A6 n6 c6, .int .i64 tick] 43)) (.cells #[.slice D1 d1 e1, .slice D2 d2 e2, .slice D3 d3 e3, .slice D4 d4 e4, .slice D5 d5 e5, .slice D6 d6 e6, .int .i64 tock] 43)
  have B0 := (Blk.new w 43 #[.slice A1 n1 c1, .slice A2 n2 c2, .slice A3 n3 c3, .slice A4 n4 c4, .slice A5 n5 c5, .slice A6 n6 c6, .int .i64 tick]).alloc (.cells #[.slice D1 d1 e1, .slice D2 d2 e2, .slice D3 d3 e3, .slice D4 d4 e4, .slice D5 d5 e5, .slice D6 d6 e6, .int .i64 tock] 43)
  have B1 := Blk.new2 w (.cells #[.slice A1 n1 c1, .slice A2 n2 c2, .slice A3 n3 c3, .slice A4 n4 c4, .slice A5 n5 c5, .slice A6 n6 c6, .int .i64 tick] 43) 43 #[.slice D1 d1 e1, .slice D2 d2 e2, .slice D3 d3 e3, .slice D4 d4 e4, .slice D5 d5 e5, .slice D6 d6 e6, .int .i64 tock]
  obtain ⟨C, hC⟩ : ∃ C : MacC, cM ((((⟨A1, n1, c1, x1⟩, ⟨A2, n2, c2, x2⟩, ⟨A3, n3, c3, x3⟩) : SetR), ⟨A4, n4, c4, x4⟩, ⟨A5, n5, c5, x5⟩, ⟨A6, n6, c6, x6⟩, tick) : MacR) = C := ⟨_, rfl⟩
  obtain ⟨D, hD⟩ : ∃ C : MacC, cM ((((⟨D1, d1, e1, y1⟩, ⟨D2, d2, e2, y2⟩, ⟨D3, d3, e3, y3⟩) : SetR), ⟨D4, d4, e4, y4⟩, ⟨D5, d5, e5, y5⟩, ⟨D6, d6, e6, y6⟩, tock) : MacR) = C := ⟨_, rfl⟩
  have hqa := hqa _ hb0
  simp only [hC] at hqa hva ⊢
  simp only [hD] at hqb hvb ⊢
  simp only [macV, setV, SV.v_mk] at hqa hqb hva hvb ⊢
  clear hC hD
  replace hva := Lib.hid hva
  replace hvb := Lib.hid hvb
  have HR := Lib.hid (show sameViewC C D n = (seenC C n && (seenC D n && decide (viewL C n = viewL D n))) from rfl)
  generalize seenC C n = v1 at *
  generalize seenC D n = v2 at *
  have z_0 := B0.c0
  have z_1 := B0.c1
  have z_2 := B0.c2
  have z_3 := B0.c3
  have z_4 := B0.c4
  have z_5 := B0.c5
  have z_6 := B0.c6
  cases v1
  · clear hva hvb hqb
    go_enter Tryz.func13, Tryz.ntmps13
    go_wp2_with fail
    refine hqa.mono ?_
    rintro e w1 ⟨rfl, hb1⟩
    go_wp2
    go_ret
    exact ⟨by rw [HR.out]; rfl, thn hb0 hb1⟩
  · go_enter Tryz.func13, Tryz.ntmps13
    go_wp2_with fail
    refine hqa.mono ?_
    rintro e w1 ⟨rfl, hb1⟩
    have hb2 := thn hb0 hb1
    replace B0 := B0.below hb1
    replace B1 := B1.below hb1
    have hqb := hqb _ hb2
    clear z_0 z_1 z_2 z_3 z_4 z_5 z_6 hqa hb0 hb1
    have y_0 := B1.c0
    have y_1 := B1.c1
    have y_2 := B1.c2
    have y_3 := B1.c3
    have y_4 := B1.c4
    have y_5 := B1.c5
    have y_6 := B1.c6
    go_wp2_with fail
    refine hqb.mono ?_
    rintro e w2 ⟨rfl, hb3⟩
    have hb4 := thn hb2 hb3
    replace B0 := B0.below hb3
    replace B1 := B1.below hb3
    clear y_0 y_1 y_2 y_3 y_4 y_5 y_6 hqb hb2 hb3
    cases v2
    · go_wp2
      go_ret
      exact ⟨by rw [HR.out]; rfl, hb4⟩
    · have hva := hva.out w.heap.size w2 hb4 trivial B0
      go_wp2_with fail
      refine hva.mono ?_
      rintro e w3 ⟨⟨A7, n7, c7, l7⟩, rfl, ws7, hl7, hb5⟩
      simp only [SV.v] at ws7 hl7 ⊢
      replace hl7 := Lib.hid hl7
      have hb6 := thn hb4 hb5
      have hvb := hvb.out (w.heap.size + 1) w3 hb6 trivial (B1.below hb5)
      have sl7 : Sl w3 1 eI A7 n7 c7 l7 := ws7.ok.sl
      clear hva hb4 hb5 B0 B1 ws7
      go_wp2_with fail
      refine hvb.mono ?_
      rintro e w4 ⟨⟨A8, n8, c8, l8⟩, rfl, ws8, hl8, hb7⟩
      simp only [SV.v] at ws8 hl8 ⊢
      replace hl8 := Lib.hid hl8
      have hb8 := thn hb6 hb7
      have he := eqI_any A7 A8 n7 n8 c7 c8 l7 l8 w4 (sl7.below hb7) ws8.ok.sl
      rw [show decide (l7 = l8) = decide (viewL C n = viewL D n) by rw [hl7.out, hl8.out]] at he
      generalize decide (viewL C n = viewL D n) = v3 at *
      clear hvb hb6 hb7 sl7 ws8
      go_wp2_with fail
      refine he.mono ?_
      rintro e w5 ⟨rfl, hb9⟩
      go_wp2
      go_ret
      exact ⟨by rw [HR.out]; rfl, thn hb8 hb9⟩
end Go.Proofs.YtckgdlgdipfgmaaGreat

namespace Go.Proofs.YtckgdlgdipfgmaaGreat
set_option linter.unusedVariables false
set_option linter.unusedSimpArgs false
open Go.RowKit

def relViewS (q q5 n3 c3 n5 c5 : Nat) (v7 : Value) (A3 A5 : Option Addr) (ck sb who tk ow : Int) : Nat → Value → World → Prop
  | 0, v, _ => v = v7
  | 1, v, _ => v = .pointer (some ⟨q5, 1, none⟩)
  | 2, v, _ => v = .int .i64 ck
  | 3, v, _ => v = .int .i64 sb
  | 4, v, _ => v = .pointer (some ⟨q, 0, none⟩)
  | 5, v, _ => v = .pointer (some ⟨q, 2, none⟩)
  | 6, v, _ => v = .slice A3 n3 c3
  | 7, v, _ => v = .pointer (some ⟨q, 4, none⟩)
  | 8, v, _ => v = .slice A5 n5 c5
  | 9, v, _ => v = .int .i64 n5
  | 10, v, _ => v = .int .i64 who
  | 11, v, _ => v = .pointer (some ⟨q, 6, none⟩)
  | 12, v, _ => v = .int .i64 tk
  | 13, v, _ => v = .int .i64 ow
  | 14, v, W => ∃ g, v = .slice (some ⟨g, 0, none⟩) 3 3 ∧ Blk W g 3 #[.int .i64 ck, .int .i64 sb, .int .i64 ow]
  | _, _, _ => True
theorem relViewS_below (q q5 n3 c3 n5 c5 : Nat) (v7 : Value) (A3 A5 : Option Addr) (ck sb who tk ow : Int) {i : Nat} {v : Value} {w w' : World} (h : relViewS q q5 n3 c3 n5 c5 v7 A3 A5 ck sb who tk ow i v w) (hb : Below w.heap.size w w') : relViewS q q5 n3 c3 n5 c5 v7 A3 A5 ck sb who tk ow i v w' := by
  match i, h with
  | 0, h => exact h
  | 1, h => exact h
  | 2, h => exact h
  | 3, h => exact h
  | 4, h => exact h
  | 5, h => exact h
  | 6, h => exact h
  | 7, h => exact h
  | 8, h => exact h
  | 9, h => exact h
  | 10, h => exact h
  | 11, h => exact h
  | 12, h => exact h
  | 13, h => exact h
  | 14, ⟨g, e, B⟩ => exact ⟨g, e, B.below hb⟩
  | n + 15, _ => trivial

set_option maxRecDepth 100000 in
set_option maxHeartbeats 4000000 in
theorem specViewOf_any (m : MacR) (n : Int) (w : World) (h : okM w m) (hnl : nlM m) :
    Calls Tryz.prog 14 #[macV m, .int .i64 n] w (Post (fun v => v) fun v w' => Own w' w.heap.size 3 1 eI v (viewC (cM m) n) ∧ Below w.heap.size w w') := by
  have hq := fun W (hW : Below w.heap.size w W) => specMachineValid_any m W (h.below hW)
  have hq2 := fun W => l1In_any n 0 ((m.2.2.1.n : Int) - 1) W
  have hcn : (cM m).2.2.1.length = m.2.2.1.n := (List.length_map _).trans h.2.2.1.1.len
  have hcv : machOkC (cM m) = true → inB n 0 ((m.2.2.1.n : Int) - 1) = true → seenC (cM m) n = true := fun h1 h2 => by unfold seenC; rw [h1, hcn, h2]; rfl
  have hcf1 : machOkC (cM m) = false → viewC (cM m) n = [] := fun h1 => viewC_nil.2 (by unfold seenC; rw [h1]; rfl)
  have hcf2 : inB n 0 ((m.2.2.1.n : Int) - 1) = false → viewC (cM m) n = [] := fun h1 => viewC_nil.2 (by unfold seenC; rw [hcn, h1, Bool.and_false])
  obtain ⟨⟨⟨A1, n1, c1, x1⟩, ⟨A2, n2, c2, x2⟩, ⟨A3, n3, c3, x3⟩⟩, ⟨A4, n4, c4, x4⟩, ⟨A5, n5, c5, x5⟩, ⟨A6, n6, c6, x6⟩, tick⟩ := m
  have hb0 := alo (Below.refl w.heap.size w) (.cells #[.slice A1 n1 c1, .slice A2 n2 c2, .slice A3 n3 c3, .slice A4 n4 c4, .slice A5 n5 c5, .slice A6 n6 c6, .int .i64 tick] 43)
  have B0 := Blk.new w 43 #[.slice A1 n1 c1, .slice A2 n2 c2, .slice A3 n3 c3, .slice A4 n4 c4, .slice A5 n5 c5, .slice A6 n6 c6, .int .i64 tick]
  have hle5 : n5 ≤ c5 := h.2.2.1.1.le
  have hmax5 : c5 ≤ 9223372036854775807 := h.2.2.1.1.max
  have hq := hq _ hb0
  simp only [] at hq2 hcv hcf2
  have hw := IntWalk.i64_in ((n5 : Int) - 1) (by omega)
  obtain ⟨hnil, hnil2⟩ := hnl
  obtain ⟨C, hC⟩ : ∃ C : MacC, cM ((((⟨A1, n1, c1, x1⟩, ⟨A2, n2, c2, x2⟩, ⟨A3, n3, c3, x3⟩) : SetR), ⟨A4, n4, c4, x4⟩, ⟨A5, n5, c5, x5⟩, ⟨A6, n6, c6, x6⟩, tick) : MacR) = C := ⟨_, rfl⟩
  rw [hC] at hq hcv hcf1 hcf2 hcn ⊢
  simp only [macV, setV, SV.v_mk] at hq ⊢
  obtain ⟨v1, hv1⟩ : ∃ v, machOkC C = v := ⟨_, rfl⟩
  obtain ⟨v2, hv2⟩ : ∃ v, inB n 0 ((n5 : Int) - 1) = v := ⟨_, rfl⟩
  rw [hv1] at hq hcv hcf1
  rw [hv2] at hq2 hcv hcf2
  have z0 := B0.c0
  have z1 := B0.c1
  have z2 := B0.c2
  have z3 := B0.c3
  have z4 := B0.c4
  have z5 := B0.c5
  have z6 := B0.c6
  cases v1
  · have hz := Lib.hid (hcf1 rfl)
    clear hcv hcf1 hcf2 hv1 hv2 hC hq2 hcn h hnil hnil2
    go_enter Tryz.func14, Tryz.ntmps14
    go_wp2_with fail
    refine hq.mono ?_
    rintro e w1 ⟨rfl, hb1⟩
    have hE := Own.of_blk (base := w.heap.size) (xs := ([] : List Int)) (enc := eI) (Blk.new w1 3 #[]) (Nat.le_trans hb0.size hb1.size) encI (by simp [maxLen])
    simp only [List.length_nil] at hE
    go_wp2
    go_ret
    exact ⟨_, rfl, by rw [hz.out]; exact hE, alo (thn hb0 hb1) _⟩
  · cases v2
    · have hz := Lib.hid (hcf2 rfl)
      clear hcv hcf1 hcf2 hv1 hv2 hC hcn h hnil hnil2
      go_enter Tryz.func14, Tryz.ntmps14
      go_wp2_with fail
      refine hq.mono ?_
      rintro e w1 ⟨rfl, hb1⟩
      replace B0 := B0.below hb1
      clear z0 z1 z2 z3 z4 z5 z6
      have z4 := B0.c4
      go_wp2_with fail; refine (hq2 _).mono ?_; rintro e w' ⟨rfl, rfl⟩
      have hE := Own.of_blk (base := w.heap.size) (xs := ([] : List Int)) (enc := eI) (Blk.new w1 3 #[]) (Nat.le_trans hb0.size hb1.size) encI (by simp [maxLen])
      simp only [List.length_nil] at hE
      go_wp2
      go_ret
      exact ⟨_, rfl, by rw [hz.out]; exact hE, alo (thn hb0 hb1) _⟩
    · have hsn := hcv rfl rfl
      have HR := Lib.hid (show viewC C n = viewL C n from by unfold viewC; rw [hsn]; rfl)
      rw [HR.out]
      clear hcv hcf1 hcf2 hv1 hv2 hcn
      have hs2 : Sl w 4 eC A2 n2 c2 x2 := h.1.2.1
      have hs3 : Sl w 2 eS A3 n3 c3 x3 := h.1.2.2
      have hs5 : Sl w 3 eCo A5 n5 c5 x5 := h.2.2.1.1
      have hs6 : Sl w 1 eHr A6 n6 c6 x6 := h.2.2.2.1
      have HK := Lib.hid (show ∀ y ∈ x5, okC w y from h.2.2.1.2)
      have HH := Lib.hid (show ∀ y ∈ x6, okH w y from h.2.2.2.2)
      have HN := Lib.hid (show ∀ y ∈ x5, y.1.A = none → y.1.c = 0 from hnil)
      have HN2 := Lib.hid (show ∀ y ∈ x6, y.A = none → y.c = 0 from hnil2)
      have hl1 : x1.length = n1 := h.1.1.1.len
      have hle2 := hs2.le
      have hmax2 := hs2.max
      have hle6 := hs6.le
      have hmax6 := hs6.max
      have E1 : C.1.1 = x1.map cP := by rw [← hC]; rfl
      have E2 : C.1.2.1 = x2 := by rw [← hC]; rfl
      have E3 : C.1.2.2 = x3 := by rw [← hC]; rfl
      have E5 : C.2.2.1 = x5.map cC := by rw [← hC]; rfl
      have E6 : C.2.2.2.1 = x6.map cH := by rw [← hC]; rfl
      have E7 : C.2.2.2.2 = tick := by rw [← hC]; rfl
      obtain ⟨hok, hn0, hn1⟩ := seenC_out hsn
      have hl := mo_lens hok
      have hsl := su_slots (mo_setup hok)
      have htk := mo_tick hok
      have hh4 := mo_hold4 hok
      rw [E7] at htk
      rw [E3, E1, List.length_map, hl1] at hsl
      rw [E5, List.length_map, hs5.len] at hn1
      have hp5 := su_np (mo_setup hok)
      rw [E1, List.length_map, hl1] at hp5
      have h51 : n5 = n1 := by
        have := hl.2.1
        rw [E5, List.length_map, E1, List.length_map, hs5.len, hl1] at this
        exact this
      subst h51
      have h62 : n6 = n2 := by
        have := hl.2.2
        rw [E6, List.length_map, E2, hs6.len, hs2.len] at this
        exact this
      subst h62
      have hn8 : n6 ≤ 8 := by
        have := su_nc (mo_setup hok)
        rw [E2, hs2.len] at this
        exact this
      obtain ⟨N, rfl⟩ : ∃ N : Nat, n = (N : Int) := ⟨n.toNat, by omega⟩
      have hN : N < n5 := by omega
      obtain ⟨b5, o5, rfl, y5, hx5, hc5⟩ := hs5.nth hN (Below.refl _ _)
      have hm5 := List.mem_of_getElem? hx5
      have HV := Lib.hid (show viewL C N = headL C N (cC y5) ++ msgsL N x2 (x6.map cH) n6 from by
        rw [viewL_eq (k := cC y5) (by rw [E5, Int.toNat_natCast]; exact mapAt hx5), E2, E6, hs2.len])
      have hhl := headL_len (n := (N : Int)) hok (k := cC y5) (by rw [E5]; exact List.mem_map_of_mem hm5)
      have HM := Lib.hid (fun k => show (msgsL N x2 (x6.map cH) k).length ≤ 5 * k from by
        have := view_bd (n := (N : Int)) hok k
        rw [E2, E6] at this
        exact this)
      have HH4 := Lib.hid (show ∀ y ∈ x6, y.n ≤ 4 from fun y hy => by
        have h1 := hh4 (cH y) (by rw [E6]; exact List.mem_map_of_mem hy)
        have h2 := Sl.len (HH.out y hy)
        simp only [cH] at h1
        omega)
      have hOwn := specOwnTicks_any A3 n3 c3 x3 n5 N tick (by omega) hsl (by omega) (by omega)
      have HE := Lib.hid (show headL C N (cC y5) = y5.1.xs ++ [y5.2.1, bitI y5.2.2, ownL x3 N tick] from by unfold headL; rw [E3, E7]; rfl)
      have hok5 := HK.out y5 hm5
      have hnl5 := HN.out y5 hm5
      have q0 := hc5 0 _ rfl
      have q1 := hc5 1 _ rfl
      have q2 := hc5 2 _ rfl
      clear hC E1 E2 E3 E5 E6 E7 hsn hok hl hsl hh4 h hc5 hx5 hm5 HK HN hnil hnil2 hl1
      obtain ⟨⟨A9, n9, c9, x9⟩, a9, t9⟩ := y5
      simp only [eCo, SV.v, Nat.add_zero] at q0 q1 q2 hnl5 HE
      simp only [okC] at hok5
      have hn9 : n9 ≤ 8 := by
        have h1 := hok5.len
        rw [HE.out] at hhl
        simp only [List.length_append, List.length_cons, List.length_nil] at hhl
        omega
      generalize ownL x3 N tick = ow at *
      have hNz : (N : Int) < (n5 : Int) := by omega
      have B0w := B0
      have hb00 := hb0
      go_enter Tryz.func14, Tryz.ntmps14
      go_wp2_with fail
      refine hq.mono ?_
      rintro e w1 ⟨rfl, hb1⟩
      replace B0 := B0.below hb1
      have hB1 := thn hb0 hb1
      clear z0 z1 z2 z3 z4 z5 z6 hb0 hb1 hq
      have z4 := B0.c4
      go_wp2_with fail; refine (hq2 _).mono ?_; rintro e w' ⟨rfl, rfl⟩
      clear hq2
      have l5 := World.block_lt_of_cell? _ _ q0
      have u0 := (hB1.cell (p := ⟨b5, o5 + N * 3, none⟩) l5).trans q0
      have u1 := (hB1.cell (p := ⟨b5, o5 + N * 3 + 1, none⟩) l5).trans q1
      have u2 := (hB1.cell (p := ⟨b5, o5 + N * 3 + 2, none⟩) l5).trans q2
      clear q0 q1 q2
      have hB2 := alo hB1 (.cells #[.slice A9 n9 c9, .int .i64 a9, .bool t9] 74)
      have hbE := alo hB2 (.cells #[] 3)
      have B5 := Blk.new w1 74 #[.slice A9 n9 c9, .int .i64 a9, .bool t9]
      have B5x := B5.alloc (.cells #[] 3)
      have B0x := (B0.alloc (.cells #[.slice A9 n9 c9, .int .i64 a9, .bool t9] 74)).alloc (.cells #[] 3)
      have ownE := Own.of_blk (base := w.heap.size) (xs := ([] : List Int)) (enc := eI) (Blk.new2 w1 (.cells #[.slice A9 n9 c9, .int .i64 a9, .bool t9] 74) 3 #[]) (Nat.le_succ_of_le hB1.size) encI (by simp [maxLen])
      simp only [List.length_nil] at ownE
      have hlenE : ([] : List Int).length + n9 ≤ 100000000 := by simp; omega
      have y0 := B5x.c0
      have y2 := B5.c2
      have hq5 : w.heap.size ≠ w1.heap.size := Nat.ne_of_lt B0.lt
      clear hB2
      obtain ⟨sb, hsb⟩ : ∃ sb : Int, bitI t9 = sb := ⟨_, rfl⟩
      rw [hsb] at HE
      cases t9
      · have hsb : sb = 0 := hsb.symm.trans bitI_false
        subst hsb
        go_wp2_with (at_builtin; refine app_own rfl _ _ appInt rfl encI w.heap.size _ [] rfl ownE _ _ _ x9 rfl hnl5 (hok5.below hbE) hlenE hbE.size ?_; intro v5 w5 own5 hg5; have hb5 := belowApp hbE ownE hg5 (Nat.le_refl _) hbE.size; have B5y := B5x.appO hg5 (ownE.neBlk B5x (by decide)); have B0y := B0x.appO hg5 (ownE.neBlk B0x (by decide)); clear hg5 ownE; simp only [List.nil_append] at own5)
        clear y0 y2 z4 u0 u1 u2 hbE B5x B0x B5 B0 hB1
        have hOwn := fun W (hW : Below w5.heap.size w5 W) => hOwn W ((hs3.below hb5).below hW)
        go_wp2_with fail
        refine region_rel (by kernel_rfl) (fun iz vz wz => relViewS w.heap.size w1.heap.size n3 c3 n5 c5 v5 A3 (some ⟨b5, o5, none⟩) a9 0 (N : Int) tick ow iz vz wz) (fun wz wz' => Below wz.heap.size wz wz') (fun _ wz' => Below w5.heap.size w5 wz') 15 _ w5 (by kernel_rfl) (by kernel_rfl) (fun iz vz wz wz' h hb => relViewS_below w.heap.size w1.heap.size n3 c3 n5 c5 v5 A3 (some ⟨b5, o5, none⟩) a9 0 (N : Int) tick ow h hb) (fun wz => Below.refl _ _) (fun _ _ _ _ h => h) (show Below w5.heap.size w5 w5.drew from (Below.refl _ _).drew) ?_ ?_
        · intro i o him ho a wa cc hcc hJ hfr hdep
          have B0y := B0y.below hJ
          have B5y := B5y.below hJ
          have cB0y_0 := B0y.c0; have cB0y_1 := B0y.c1; have cB0y_2 := B0y.c2; have cB0y_3 := B0y.c3; have cB0y_4 := B0y.c4; have cB0y_5 := B0y.c5; have cB0y_6 := B0y.c6; have fB0y := B0y.frozen; have cB5y_0 := B5y.c0; have cB5y_1 := B5y.c1; have cB5y_2 := B5y.c2; have fB5y := B5y.frozen
          match i, ho, him with
          | 0, ho, _ =>
            injection ho with ho
            subst ho
            have h7 := hfr.2.2 7 (drawFrM_spec (by kernel_rfl))
            clear hdep hfr
            simp only [Array.getD_eq_getD_getElem?] at h7
            refine .inl ⟨rfl, ?_⟩
            unfold Oper.wp
            go_simp
            exact LeavesR.val rfl (Below.refl _ _) hJ
          | 1, ho, _ =>
            injection ho with ho
            subst ho
            have h5 := hfr.2.2 5 (drawFrM_spec (by kernel_rfl))
            clear hdep hfr
            simp only [Array.getD_eq_getD_getElem?] at h5
            refine .inl ⟨rfl, ?_⟩
            unfold Oper.wp
            go_simp
            exact LeavesR.val rfl (Below.refl _ _) hJ
          | 2, ho, _ =>
            injection ho with ho
            subst ho
            have h34 := hdep ⟨1, .data⟩ (by simp) (by kernel_rfl) _ 34 rfl rfl
            clear hdep hfr
            replace h34 : a.tmps.getD 34 undef = .pointer (some ⟨w1.heap.size, 1, none⟩) := h34
            simp only [Array.getD_eq_getD_getElem?] at h34
            refine .inl ⟨rfl, ?_⟩
            unfold Oper.wp
            go_simp
            exact LeavesR.val rfl (Below.refl _ _) hJ
          | 3, ho, _ =>
            injection ho with ho
            subst ho
            have h6 := hfr.2.2 6 (drawFrM_spec (by kernel_rfl))
            clear hdep hfr
            simp only [Array.getD_eq_getD_getElem?] at h6
            refine .inl ⟨rfl, ?_⟩
            unfold Oper.wp
            go_simp
            exact LeavesR.val rfl (Below.refl _ _) hJ
          | 4, ho, _ =>
            injection ho with ho
            subst ho
            have h2 := hfr.2.2 2 (drawFrM_spec (by kernel_rfl))
            clear hdep hfr
            simp only [Array.getD_eq_getD_getElem?] at h2
            refine .inl ⟨rfl, ?_⟩
            unfold Oper.wp
            go_simp
            exact LeavesR.val rfl (Below.refl _ _) hJ
          | 5, ho, _ =>
            injection ho with ho
            subst ho
            have h37 := hdep ⟨4, .data⟩ (by simp) (by kernel_rfl) _ 37 rfl rfl
            clear hdep hfr
            replace h37 : a.tmps.getD 37 undef = .pointer (some ⟨w.heap.size, 0, none⟩) := h37
            simp only [Array.getD_eq_getD_getElem?] at h37
            refine .inl ⟨rfl, ?_⟩
            unfold Oper.wp
            go_simp
            exact LeavesR.val rfl (Below.refl _ _) hJ
          | 6, ho, _ =>
            injection ho with ho
            subst ho
            have h38 := hdep ⟨5, .data⟩ (by simp) (by kernel_rfl) _ 38 rfl rfl
            clear hdep hfr
            replace h38 : a.tmps.getD 38 undef = .pointer (some ⟨w.heap.size, 2, none⟩) := h38
            simp only [Array.getD_eq_getD_getElem?] at h38
            refine .inl ⟨rfl, ?_⟩
            unfold Oper.wp
            go_simp
            exact LeavesR.val rfl (Below.refl _ _) hJ
          | 7, ho, _ =>
            injection ho with ho
            subst ho
            have h2 := hfr.2.2 2 (drawFrM_spec (by kernel_rfl))
            clear hdep hfr
            simp only [Array.getD_eq_getD_getElem?] at h2
            refine .inl ⟨rfl, ?_⟩
            unfold Oper.wp
            go_simp
            exact LeavesR.val rfl (Below.refl _ _) hJ
          | 8, ho, _ =>
            injection ho with ho
            subst ho
            have h40 := hdep ⟨7, .data⟩ (by simp) (by kernel_rfl) _ 40 rfl rfl
            clear hdep hfr
            replace h40 : a.tmps.getD 40 undef = .pointer (some ⟨w.heap.size, 4, none⟩) := h40
            simp only [Array.getD_eq_getD_getElem?] at h40
            refine .inl ⟨rfl, ?_⟩
            unfold Oper.wp
            go_simp
            exact LeavesR.val rfl (Below.refl _ _) hJ
          | 9, ho, _ =>
            injection ho with ho
            subst ho
            have h41 := hdep ⟨8, .data⟩ (by simp) (by kernel_rfl) _ 41 rfl rfl
            clear hdep hfr
            replace h41 : a.tmps.getD 41 undef = .slice (some ⟨b5, o5, none⟩) n5 c5 := h41
            simp only [Array.getD_eq_getD_getElem?] at h41
            refine .inl ⟨rfl, ?_⟩
            unfold Oper.wp
            go_simp
            exact LeavesR.val rfl (Below.refl _ _) hJ
          | 10, ho, _ =>
            injection ho with ho
            subst ho
            have h1 := hfr.2.2 1 (drawFrM_spec (by kernel_rfl))
            clear hdep hfr
            simp only [Array.getD_eq_getD_getElem?] at h1
            refine .inl ⟨rfl, ?_⟩
            unfold Oper.wp
            go_simp
            exact LeavesR.val rfl (Below.refl _ _) hJ
          | 11, ho, _ =>
            injection ho with ho
            subst ho
            have h2 := hfr.2.2 2 (drawFrM_spec (by kernel_rfl))
            clear hdep hfr
            simp only [Array.getD_eq_getD_getElem?] at h2
            refine .inl ⟨rfl, ?_⟩
            unfold Oper.wp
            go_simp
            exact LeavesR.val rfl (Below.refl _ _) hJ
          | 12, ho, _ =>
            injection ho with ho
            subst ho
            have h44 := hdep ⟨11, .data⟩ (by simp) (by kernel_rfl) _ 44 rfl rfl
            clear hdep hfr
            replace h44 : a.tmps.getD 44 undef = .pointer (some ⟨w.heap.size, 6, none⟩) := h44
            simp only [Array.getD_eq_getD_getElem?] at h44
            refine .inl ⟨rfl, ?_⟩
            unfold Oper.wp
            go_simp
            exact LeavesR.val rfl (Below.refl _ _) hJ
          | 13, ho, _ =>
            injection ho with ho
            subst ho
            have h39 := hdep ⟨6, .data⟩ (by simp) (by kernel_rfl) _ 39 rfl rfl
            have h42 := hdep ⟨9, .data⟩ (by simp) (by kernel_rfl) _ 42 rfl rfl
            have h43 := hdep ⟨10, .data⟩ (by simp) (by kernel_rfl) _ 43 rfl rfl
            have h45 := hdep ⟨12, .data⟩ (by simp) (by kernel_rfl) _ 45 rfl rfl
            clear hdep hfr
            replace h39 : a.tmps.getD 39 undef = .slice A3 n3 c3 := h39
            simp only [Array.getD_eq_getD_getElem?] at h39
            replace h42 : a.tmps.getD 42 undef = .int .i64 n5 := h42
            simp only [Array.getD_eq_getD_getElem?] at h42
            replace h43 : a.tmps.getD 43 undef = .int .i64 (N : Int) := h43
            simp only [Array.getD_eq_getD_getElem?] at h43
            replace h45 : a.tmps.getD 45 undef = .int .i64 tick := h45
            simp only [Array.getD_eq_getD_getElem?] at h45
            refine .inl ⟨rfl, ?_⟩
            unfold Oper.wp
            go_simp
            refine (hOwn _ hJ).mono ?_
            rintro e wb ⟨rfl, hb'⟩
            exact LeavesR.val rfl hb' (thn hJ hb')
          | 14, ho, _ =>
            injection ho with ho
            subst ho
            have h35 := hdep ⟨2, .data⟩ (by simp) (by kernel_rfl) _ 35 rfl rfl
            have h36 := hdep ⟨3, .data⟩ (by simp) (by kernel_rfl) _ 36 rfl rfl
            have h46 := hdep ⟨13, .data⟩ (by simp) (by kernel_rfl) _ 46 rfl rfl
            clear hdep hfr
            replace h35 : a.tmps.getD 35 undef = .int .i64 a9 := h35
            simp only [Array.getD_eq_getD_getElem?] at h35
            replace h36 : a.tmps.getD 36 undef = .int .i64 0 := h36
            simp only [Array.getD_eq_getD_getElem?] at h36
            replace h46 : a.tmps.getD 46 undef = .int .i64 ow := h46
            simp only [Array.getD_eq_getD_getElem?] at h46
            refine .inl ⟨rfl, ?_⟩
            unfold Oper.wp
            go_simp
            exact LeavesR.val ⟨_, rfl, Blk.new wa _ _⟩ (alo (Below.refl _ _) _) (alo hJ _)
          | n + 15, _, him => exact absurd him (by omega)
        · intro V w9 hV hJ
          have hV0 := hV 0 _ 33 (by decide) rfl rfl
          replace hV0 : V 0 = v5 := hV0
          have hV1 := hV 1 _ 34 (by decide) rfl rfl
          replace hV1 : V 1 = .pointer (some ⟨w1.heap.size, 1, none⟩) := hV1
          have hV2 := hV 2 _ 35 (by decide) rfl rfl
          replace hV2 : V 2 = .int .i64 a9 := hV2
          have hV3 := hV 3 _ 36 (by decide) rfl rfl
          replace hV3 : V 3 = .int .i64 0 := hV3
          have hV4 := hV 4 _ 37 (by decide) rfl rfl
          replace hV4 : V 4 = .pointer (some ⟨w.heap.size, 0, none⟩) := hV4
          have hV5 := hV 5 _ 38 (by decide) rfl rfl
          replace hV5 : V 5 = .pointer (some ⟨w.heap.size, 2, none⟩) := hV5
          have hV6 := hV 6 _ 39 (by decide) rfl rfl
          replace hV6 : V 6 = .slice A3 n3 c3 := hV6
          have hV7 := hV 7 _ 40 (by decide) rfl rfl
          replace hV7 : V 7 = .pointer (some ⟨w.heap.size, 4, none⟩) := hV7
          have hV8 := hV 8 _ 41 (by decide) rfl rfl
          replace hV8 : V 8 = .slice (some ⟨b5, o5, none⟩) n5 c5 := hV8
          have hV9 := hV 9 _ 42 (by decide) rfl rfl
          replace hV9 : V 9 = .int .i64 n5 := hV9
          have hV10 := hV 10 _ 43 (by decide) rfl rfl
          replace hV10 : V 10 = .int .i64 (N : Int) := hV10
          have hV11 := hV 11 _ 44 (by decide) rfl rfl
          replace hV11 : V 11 = .pointer (some ⟨w.heap.size, 6, none⟩) := hV11
          have hV12 := hV 12 _ 45 (by decide) rfl rfl
          replace hV12 : V 12 = .int .i64 tick := hV12
          have hV13 := hV 13 _ 46 (by decide) rfl rfl
          replace hV13 : V 13 = .int .i64 ow := hV13
          obtain ⟨gE47, hV14, NE47⟩ := hV 14 _ 47 (by decide) rfl rfl
          clear hV
          simp only [puts, List.drop, Act.put, List.getElem?_toArray, List.getElem?_cons_succ, List.getElem?_cons_zero, List.setIfInBounds_toArray, List.set_cons_succ, List.set_cons_zero, hV0, hV1, hV2, hV3, hV4, hV5, hV6, hV7, hV8, hV9, hV10, hV11, hV12, hV13, hV14]
          clear hV0 hV1 hV2 hV3 hV4 hV5 hV6 hV7 hV8 hV9 hV10 hV11 hV12 hV13 hV14
          replace B0y := B0y.below hJ
          replace B5y := B5y.below hJ
          have hb9 := thn hb5 hJ
          have own9 := own5.below hJ
          have src9 := Sl.of_blk (xs := [a9, 0, ow]) NE47 encI (by simp)
          have hl9 := hok5.len
          have hlen9 : x9.length + 3 ≤ 100000000 := by omega
          clear own5 hb5
          at_builtin
          refine app_own rfl _ _ appInt rfl encI w.heap.size _ x9 rfl own9 _ 3 3 [a9, 0, ow] rfl (fun e => by cases e) src9 hlen9 hb9.size ?_
          intro v10 w10 own6 hg6
          have hb10 := belowApp hb9 own9 hg6 (Nat.le_refl _) hb9.size
          have B0 := B0y.appO hg6 (own9.neBlk B0y (by decide))
          rw [← HE.out] at own6
          clear own9 hg6 hb9 B0y B5y NE47 src9 hlen9 hl9 HE hJ
          generalize headL C N (cC (⟨A9, n9, c9, x9⟩, a9, false)) = Hd at *
          go_wp2_with fail
          go_loopg [7, 8] n6 (fun gg s7 s8 wr => ∃ (kk : Nat) (v : Value), kk ≤ n6 ∧ n6 - kk ≤ gg ∧ s7 = v ∧ s8 = .int .i64 kk ∧ Aside (Below w.heap.size w wr) ∧ Aside (Blk wr w.heap.size 43 #[.slice A1 n5 c1, .slice A2 n6 c2, .slice A3 n3 c3, .slice A4 n4 c4, .slice (some ⟨b5, o5, none⟩) n5 c5, .slice A6 n6 c6, .int .i64 tick]) ∧ Aside (Own wr w.heap.size 3 1 eI v (Hd ++ msgsL N x2 (x6.map cH) kk)))
          case atStart => exact ⟨0, _, Nat.zero_le _, by omega, rfl, rfl, (show Aside _ from hb10), (show Aside _ from B0), (show Aside _ from by rw [msgsL_zero, List.append_nil]; exact own6)⟩
          case round =>
            obtain ⟨kk, v, hkk, hg, hv7, rfl, BW, BB, OW⟩ := hrel
            subst hv7
            clear own6 hb10 B0
            have own6 := OW.out
            have hbw := BW.out
            have B0 := BB.out
            clear OW BW BB
            have z1 := B0.c1
            have z5 := B0.c5
            by_cases hlt : kk < n6
            · have hltz : (kk : Int) < (n6 : Int) := by omega
              obtain ⟨b2, o2, rfl, y2, hx2, hc2⟩ := hs2.nth hlt (Below.refl _ _)
              obtain ⟨b6, o6, rfl, y6, hx6, hc6⟩ := hs6.nth hlt (Below.refl _ _)
              have q2 := hc2 2 _ rfl
              have r0 := hc6 0 _ rfl
              have hm6 := List.mem_of_getElem? hx6
              have hy6 := HH.out y6 hm6
              have hy4 := HH4.out y6 hm6
              have hyn := HN2.out y6 hm6
              have HT := Lib.hid (fun (e : y2.2.2.1 = (N : Int)) => show msgsL N x2 (x6.map cH) (kk + 1) = (msgsL N x2 (x6.map cH) kk ++ [(y6.xs.length : Int)]) ++ y6.xs from msgsL_to (n := (N : Int)) hx2 (mapAt (f := cH) hx6) e)
              have HF := Lib.hid (fun (e : ¬ y2.2.2.1 = (N : Int)) => msgsL_not (n := (N : Int)) hx2 (mapAt (f := cH) hx6) e)
              have hml := HM.out kk
              clear hc2 hc6 hx2 hx6 hm6
              obtain ⟨k2, f2, t2, z2⟩ := y2
              obtain ⟨A8, n8, c8, x8⟩ := y6
              simp only [eC, eHr, SV.v, Nat.add_zero, Nat.mul_one] at r0 q2 hy4 hyn
              simp only [okH] at hy6
              simp only [] at HT HF
              have hl8 := hy6.len
              have l2 := World.block_lt_of_cell? _ _ q2
              have l6 := World.block_lt_of_cell? _ _ r0
              have u2 := (hbw.cell (p := ⟨b2, o2 + kk * 4 + 2, none⟩) l2).trans q2
              by_cases ht : t2 = (N : Int)
              · subst ht
                have HS := Lib.hid (show Hd ++ msgsL N x2 (x6.map cH) (kk + 1) = ((Hd ++ msgsL N x2 (x6.map cH) kk) ++ [(n8 : Int)]) ++ x8 from by
                  have h1 := HT.out rfl
                  rw [hl8] at h1
                  rw [h1]
                  simp only [List.append_assoc])
                clear HT HF
                have hbY := alo hbw (.cells #[.int .i64 n8] 3)
                have r0a := (hbw.cell (p := ⟨b6, o6 + kk, none⟩) l6).trans r0
                have own7 := own6.alloc (.cells #[.int .i64 n8] 3)
                have B0z := B0.alloc (.cells #[.int .i64 n8] 3)
                have src7 := Sl.of_blk (xs := [(n8 : Int)]) (Blk.new wr 3 #[.int .i64 n8]) encI (by simp)
                have hlen7 : (Hd ++ msgsL N x2 (x6.map cH) kk).length + 1 ≤ 100000000 := by rw [List.length_append]; omega
                have hlen8 : ((Hd ++ msgsL N x2 (x6.map cH) kk) ++ [(n8 : Int)]).length + n8 ≤ 100000000 := by rw [List.length_append, List.length_append, List.length_singleton]; omega
                go_wp2_with (first
                  | (at_builtin; refine app_own rfl _ _ appInt rfl encI w.heap.size _ _ rfl own7 _ 1 1 [(n8 : Int)] rfl (fun e => by cases e) src7 hlen7 hbY.size ?_; intro v5 w5 own5 hg5; have hb5 := belowApp hbY own7 hg5 (Nat.le_refl _) hbY.size; have B0y := B0z.appO hg5 (own7.neBlk B0z (by decide)); clear hg5 own7 own6 src7 hlen7 z5 z1 r0a; have z5 := B0y.c5; have r0a := (hb5.cell (p := ⟨b6, o6 + kk, none⟩) l6).trans r0; have src8 := hy6.below hb5)
                  | (at_builtin; refine app_own rfl _ _ appInt rfl encI w.heap.size _ _ rfl own5 _ _ _ x8 rfl hyn src8 hlen8 hb5.size ?_; intro v8 w8 own8 hg8; have hb8 := belowApp hb5 own5 hg8 (Nat.le_refl _) hb5.size; have B0x := B0y.appO hg8 (own5.neBlk B0y (by decide))))
                rw [← HS.out] at own8
                go_roundg (n6 - (kk + 1))
                case measure => omega
                case rel => exact ⟨kk + 1, _, by omega, by omega, rfl, by go_num, (show Aside _ from hb8), (show Aside _ from B0x), (show Aside _ from own8)⟩
              · have ht2 : (t2 == (N : Int)) = false := by rw [beq_eq_false_iff_ne]; exact ht
                have HS := Lib.hid (HF.out ht)
                clear HT HF
                go_wp2
                go_roundg (n6 - (kk + 1))
                case measure => omega
                case rel => exact ⟨kk + 1, _, by omega, by omega, rfl, by go_num, (show Aside _ from hbw), (show Aside _ from B0), (show Aside _ from by rw [HS.out]; exact own6)⟩
            · have hltz : ¬ (kk : Int) < (n6 : Int) := by omega
              obtain rfl : n6 = kk := by omega
              rw [← HV.out] at own6
              go_wp2
              go_ret
              exact ⟨_, rfl, own6, hbw⟩
      · have hsb : sb = 1 := hsb.symm.trans bitI_true
        subst hsb
        go_wp2_with (at_builtin; refine app_own rfl _ _ appInt rfl encI w.heap.size _ [] rfl ownE _ _ _ x9 rfl hnl5 (hok5.below hbE) hlenE hbE.size ?_; intro v5 w5 own5 hg5; have hb5 := belowApp hbE ownE hg5 (Nat.le_refl _) hbE.size; have B5y := B5x.appO hg5 (ownE.neBlk B5x (by decide)); have B0y := B0x.appO hg5 (ownE.neBlk B0x (by decide)); clear hg5 ownE; simp only [List.nil_append] at own5)
        clear y0 y2 z4 u0 u1 u2 hbE B5x B0x B5 B0 hB1
        have hOwn := fun W (hW : Below w5.heap.size w5 W) => hOwn W ((hs3.below hb5).below hW)
        go_wp2_with fail
        refine region_rel (by kernel_rfl) (fun iz vz wz => relViewS w.heap.size w1.heap.size n3 c3 n5 c5 v5 A3 (some ⟨b5, o5, none⟩) a9 1 (N : Int) tick ow iz vz wz) (fun wz wz' => Below wz.heap.size wz wz') (fun _ wz' => Below w5.heap.size w5 wz') 15 _ w5 (by kernel_rfl) (by kernel_rfl) (fun iz vz wz wz' h hb => relViewS_below w.heap.size w1.heap.size n3 c3 n5 c5 v5 A3 (some ⟨b5, o5, none⟩) a9 1 (N : Int) tick ow h hb) (fun wz => Below.refl _ _) (fun _ _ _ _ h => h) (show Below w5.heap.size w5 w5.drew from (Below.refl _ _).drew) ?_ ?_
        · intro i o him ho a wa cc hcc hJ hfr hdep
          have B0y := B0y.below hJ
          have B5y := B5y.below hJ
          have cB0y_0 := B0y.c0; have cB0y_1 := B0y.c1; have cB0y_2 := B0y.c2; have cB0y_3 := B0y.c3; have cB0y_4 := B0y.c4; have cB0y_5 := B0y.c5; have cB0y_6 := B0y.c6; have fB0y := B0y.frozen; have cB5y_0 := B5y.c0; have cB5y_1 := B5y.c1; have cB5y_2 := B5y.c2; have fB5y := B5y.frozen
          match i, ho, him with
          | 0, ho, _ =>
            injection ho with ho
            subst ho
            have h7 := hfr.2.2 7 (drawFrM_spec (by kernel_rfl))
            clear hdep hfr
            simp only [Array.getD_eq_getD_getElem?] at h7
            refine .inl ⟨rfl, ?_⟩
            unfold Oper.wp
            go_simp
            exact LeavesR.val rfl (Below.refl _ _) hJ
          | 1, ho, _ =>
            injection ho with ho
            subst ho
            have h5 := hfr.2.2 5 (drawFrM_spec (by kernel_rfl))
            clear hdep hfr
            simp only [Array.getD_eq_getD_getElem?] at h5
            refine .inl ⟨rfl, ?_⟩
            unfold Oper.wp
            go_simp
            exact LeavesR.val rfl (Below.refl _ _) hJ
          | 2, ho, _ =>
            injection ho with ho
            subst ho
            have h34 := hdep ⟨1, .data⟩ (by simp) (by kernel_rfl) _ 34 rfl rfl
            clear hdep hfr
            replace h34 : a.tmps.getD 34 undef = .pointer (some ⟨w1.heap.size, 1, none⟩) := h34
            simp only [Array.getD_eq_getD_getElem?] at h34
            refine .inl ⟨rfl, ?_⟩
            unfold Oper.wp
            go_simp
            exact LeavesR.val rfl (Below.refl _ _) hJ
          | 3, ho, _ =>
            injection ho with ho
            subst ho
            have h6 := hfr.2.2 6 (drawFrM_spec (by kernel_rfl))
            clear hdep hfr
            simp only [Array.getD_eq_getD_getElem?] at h6
            refine .inl ⟨rfl, ?_⟩
            unfold Oper.wp
            go_simp
            exact LeavesR.val rfl (Below.refl _ _) hJ
          | 4, ho, _ =>
            injection ho with ho
            subst ho
            have h2 := hfr.2.2 2 (drawFrM_spec (by kernel_rfl))
            clear hdep hfr
            simp only [Array.getD_eq_getD_getElem?] at h2
            refine .inl ⟨rfl, ?_⟩
            unfold Oper.wp
            go_simp
            exact LeavesR.val rfl (Below.refl _ _) hJ
          | 5, ho, _ =>
            injection ho with ho
            subst ho
            have h37 := hdep ⟨4, .data⟩ (by simp) (by kernel_rfl) _ 37 rfl rfl
            clear hdep hfr
            replace h37 : a.tmps.getD 37 undef = .pointer (some ⟨w.heap.size, 0, none⟩) := h37
            simp only [Array.getD_eq_getD_getElem?] at h37
            refine .inl ⟨rfl, ?_⟩
            unfold Oper.wp
            go_simp
            exact LeavesR.val rfl (Below.refl _ _) hJ
          | 6, ho, _ =>
            injection ho with ho
            subst ho
            have h38 := hdep ⟨5, .data⟩ (by simp) (by kernel_rfl) _ 38 rfl rfl
            clear hdep hfr
            replace h38 : a.tmps.getD 38 undef = .pointer (some ⟨w.heap.size, 2, none⟩) := h38
            simp only [Array.getD_eq_getD_getElem?] at h38
            refine .inl ⟨rfl, ?_⟩
            unfold Oper.wp
            go_simp
            exact LeavesR.val rfl (Below.refl _ _) hJ
          | 7, ho, _ =>
            injection ho with ho
            subst ho
            have h2 := hfr.2.2 2 (drawFrM_spec (by kernel_rfl))
            clear hdep hfr
            simp only [Array.getD_eq_getD_getElem?] at h2
            refine .inl ⟨rfl, ?_⟩
            unfold Oper.wp
            go_simp
            exact LeavesR.val rfl (Below.refl _ _) hJ
          | 8, ho, _ =>
            injection ho with ho
            subst ho
            have h40 := hdep ⟨7, .data⟩ (by simp) (by kernel_rfl) _ 40 rfl rfl
            clear hdep hfr
            replace h40 : a.tmps.getD 40 undef = .pointer (some ⟨w.heap.size, 4, none⟩) := h40
            simp only [Array.getD_eq_getD_getElem?] at h40
            refine .inl ⟨rfl, ?_⟩
            unfold Oper.wp
            go_simp
            exact LeavesR.val rfl (Below.refl _ _) hJ
          | 9, ho, _ =>
            injection ho with ho
            subst ho
            have h41 := hdep ⟨8, .data⟩ (by simp) (by kernel_rfl) _ 41 rfl rfl
            clear hdep hfr
            replace h41 : a.tmps.getD 41 undef = .slice (some ⟨b5, o5, none⟩) n5 c5 := h41
            simp only [Array.getD_eq_getD_getElem?] at h41
            refine .inl ⟨rfl, ?_⟩
            unfold Oper.wp
            go_simp
            exact LeavesR.val rfl (Below.refl _ _) hJ
          | 10, ho, _ =>
            injection ho with ho
            subst ho
            have h1 := hfr.2.2 1 (drawFrM_spec (by kernel_rfl))
            clear hdep hfr
            simp only [Array.getD_eq_getD_getElem?] at h1
            refine .inl ⟨rfl, ?_⟩
            unfold Oper.wp
            go_simp
            exact LeavesR.val rfl (Below.refl _ _) hJ
          | 11, ho, _ =>
            injection ho with ho
            subst ho
            have h2 := hfr.2.2 2 (drawFrM_spec (by kernel_rfl))
            clear hdep hfr
            simp only [Array.getD_eq_getD_getElem?] at h2
            refine .inl ⟨rfl, ?_⟩
            unfold Oper.wp
            go_simp
            exact LeavesR.val rfl (Below.refl _ _) hJ
          | 12, ho, _ =>
            injection ho with ho
            subst ho
            have h44 := hdep ⟨11, .data⟩ (by simp) (by kernel_rfl) _ 44 rfl rfl
            clear hdep hfr
            replace h44 : a.tmps.getD 44 undef = .pointer (some ⟨w.heap.size, 6, none⟩) := h44
            simp only [Array.getD_eq_getD_getElem?] at h44
            refine .inl ⟨rfl, ?_⟩
            unfold Oper.wp
            go_simp
            exact LeavesR.val rfl (Below.refl _ _) hJ
          | 13, ho, _ =>
            injection ho with ho
            subst ho
            have h39 := hdep ⟨6, .data⟩ (by simp) (by kernel_rfl) _ 39 rfl rfl
            have h42 := hdep ⟨9, .data⟩ (by simp) (by kernel_rfl) _ 42 rfl rfl
            have h43 := hdep ⟨10, .data⟩ (by simp) (by kernel_rfl) _ 43 rfl rfl
            have h45 := hdep ⟨12, .data⟩ (by simp) (by kernel_rfl) _ 45 rfl rfl
            clear hdep hfr
            replace h39 : a.tmps.getD 39 undef = .slice A3 n3 c3 := h39
            simp only [Array.getD_eq_getD_getElem?] at h39
            replace h42 : a.tmps.getD 42 undef = .int .i64 n5 := h42
            simp only [Array.getD_eq_getD_getElem?] at h42
            replace h43 : a.tmps.getD 43 undef = .int .i64 (N : Int) := h43
            simp only [Array.getD_eq_getD_getElem?] at h43
            replace h45 : a.tmps.getD 45 undef = .int .i64 tick := h45
            simp only [Array.getD_eq_getD_getElem?] at h45
            refine .inl ⟨rfl, ?_⟩
            unfold Oper.wp
            go_simp
            refine (hOwn _ hJ).mono ?_
            rintro e wb ⟨rfl, hb'⟩
            exact LeavesR.val rfl hb' (thn hJ hb')
          | 14, ho, _ =>
            injection ho with ho
            subst ho
            have h35 := hdep ⟨2, .data⟩ (by simp) (by kernel_rfl) _ 35 rfl rfl
            have h36 := hdep ⟨3, .data⟩ (by simp) (by kernel_rfl) _ 36 rfl rfl
            have h46 := hdep ⟨13, .data⟩ (by simp) (by kernel_rfl) _ 46 rfl rfl
            clear hdep hfr
            replace h35 : a.tmps.getD 35 undef = .int .i64 a9 := h35
            simp only [Array.getD_eq_getD_getElem?] at h35
            replace h36 : a.tmps.getD 36 undef = .int .i64 1 := h36
            simp only [Array.getD_eq_getD_getElem?] at h36
            replace h46 : a.tmps.getD 46 undef = .int .i64 ow := h46
            simp only [Array.getD_eq_getD_getElem?] at h46
            refine .inl ⟨rfl, ?_⟩
            unfold Oper.wp
            go_simp
            exact LeavesR.val ⟨_, rfl, Blk.new wa _ _⟩ (alo (Below.refl _ _) _) (alo hJ _)
          | n + 15, _, him => exact absurd him (by omega)
        · intro V w9 hV hJ
          have hV0 := hV 0 _ 33 (by decide) rfl rfl
          replace hV0 : V 0 = v5 := hV0
          have hV1 := hV 1 _ 34 (by decide) rfl rfl
          replace hV1 : V 1 = .pointer (some ⟨w1.heap.size, 1, none⟩) := hV1
          have hV2 := hV 2 _ 35 (by decide) rfl rfl
          replace hV2 : V 2 = .int .i64 a9 := hV2
          have hV3 := hV 3 _ 36 (by decide) rfl rfl
          replace hV3 : V 3 = .int .i64 1 := hV3
          have hV4 := hV 4 _ 37 (by decide) rfl rfl
          replace hV4 : V 4 = .pointer (some ⟨w.heap.size, 0, none⟩) := hV4
          have hV5 := hV 5 _ 38 (by decide) rfl rfl
          replace hV5 : V 5 = .pointer (some ⟨w.heap.size, 2, none⟩) := hV5
          have hV6 := hV 6 _ 39 (by decide) rfl rfl
          replace hV6 : V 6 = .slice A3 n3 c3 := hV6
          have hV7 := hV 7 _ 40 (by decide) rfl rfl
          replace hV7 : V 7 = .pointer (some ⟨w.heap.size, 4, none⟩) := hV7
          have hV8 := hV 8 _ 41 (by decide) rfl rfl
          replace hV8 : V 8 = .slice (some ⟨b5, o5, none⟩) n5 c5 := hV8
          have hV9 := hV 9 _ 42 (by decide) rfl rfl
          replace hV9 : V 9 = .int .i64 n5 := hV9
          have hV10 := hV 10 _ 43 (by decide) rfl rfl
          replace hV10 : V 10 = .int .i64 (N : Int) := hV10
          have hV11 := hV 11 _ 44 (by decide) rfl rfl
          replace hV11 : V 11 = .pointer (some ⟨w.heap.size, 6, none⟩) := hV11
          have hV12 := hV 12 _ 45 (by decide) rfl rfl
          replace hV12 : V 12 = .int .i64 tick := hV12
          have hV13 := hV 13 _ 46 (by decide) rfl rfl
          replace hV13 : V 13 = .int .i64 ow := hV13
          obtain ⟨gE47, hV14, NE47⟩ := hV 14 _ 47 (by decide) rfl rfl
          clear hV
          simp only [puts, List.drop, Act.put, List.getElem?_toArray, List.getElem?_cons_succ, List.getElem?_cons_zero, List.setIfInBounds_toArray, List.set_cons_succ, List.set_cons_zero, hV0, hV1, hV2, hV3, hV4, hV5, hV6, hV7, hV8, hV9, hV10, hV11, hV12, hV13, hV14]
          clear hV0 hV1 hV2 hV3 hV4 hV5 hV6 hV7 hV8 hV9 hV10 hV11 hV12 hV13 hV14
          replace B0y := B0y.below hJ
          replace B5y := B5y.below hJ
          have hb9 := thn hb5 hJ
          have own9 := own5.below hJ
          have src9 := Sl.of_blk (xs := [a9, 1, ow]) NE47 encI (by simp)
          have hl9 := hok5.len
          have hlen9 : x9.length + 3 ≤ 100000000 := by omega
          clear own5 hb5
          at_builtin
          refine app_own rfl _ _ appInt rfl encI w.heap.size _ x9 rfl own9 _ 3 3 [a9, 1, ow] rfl (fun e => by cases e) src9 hlen9 hb9.size ?_
          intro v10 w10 own6 hg6
          have hb10 := belowApp hb9 own9 hg6 (Nat.le_refl _) hb9.size
          have B0 := B0y.appO hg6 (own9.neBlk B0y (by decide))
          rw [← HE.out] at own6
          clear own9 hg6 hb9 B0y B5y NE47 src9 hlen9 hl9 HE hJ
          generalize headL C N (cC (⟨A9, n9, c9, x9⟩, a9, true)) = Hd at *
          go_wp2_with fail
          go_loopg [7, 8] n6 (fun gg s7 s8 wr => ∃ (kk : Nat) (v : Value), kk ≤ n6 ∧ n6 - kk ≤ gg ∧ s7 = v ∧ s8 = .int .i64 kk ∧ Aside (Below w.heap.size w wr) ∧ Aside (Blk wr w.heap.size 43 #[.slice A1 n5 c1, .slice A2 n6 c2, .slice A3 n3 c3, .slice A4 n4 c4, .slice (some ⟨b5, o5, none⟩) n5 c5, .slice A6 n6 c6, .int .i64 tick]) ∧ Aside (Own wr w.heap.size 3 1 eI v (Hd ++ msgsL N x2 (x6.map cH) kk)))
          case atStart => exact ⟨0, _, Nat.zero_le _, by omega, rfl, rfl, (show Aside _ from hb10), (show Aside _ from B0), (show Aside _ from by rw [msgsL_zero, List.append_nil]; exact own6)⟩
          case round =>
            obtain ⟨kk, v, hkk, hg, hv7, rfl, BW, BB, OW⟩ := hrel
            subst hv7
            clear own6 hb10 B0
            have own6 := OW.out
            have hbw := BW.out
            have B0 := BB.out
            clear OW BW BB
            have z1 := B0.c1
            have z5 := B0.c5
            by_cases hlt : kk < n6
            · have hltz : (kk : Int) < (n6 : Int) := by omega
              obtain ⟨b2, o2, rfl, y2, hx2, hc2⟩ := hs2.nth hlt (Below.refl _ _)
              obtain ⟨b6, o6, rfl, y6, hx6, hc6⟩ := hs6.nth hlt (Below.refl _ _)
              have q2 := hc2 2 _ rfl
              have r0 := hc6 0 _ rfl
              have hm6 := List.mem_of_getElem? hx6
              have hy6 := HH.out y6 hm6
              have hy4 := HH4.out y6 hm6
              have hyn := HN2.out y6 hm6
              have HT := Lib.hid (fun (e : y2.2.2.1 = (N : Int)) => show msgsL N x2 (x6.map cH) (kk + 1) = (msgsL N x2 (x6.map cH) kk ++ [(y6.xs.length : Int)]) ++ y6.xs from msgsL_to (n := (N : Int)) hx2 (mapAt (f := cH) hx6) e)
              have HF := Lib.hid (fun (e : ¬ y2.2.2.1 = (N : Int)) => msgsL_not (n := (N : Int)) hx2 (mapAt (f := cH) hx6) e)
              have hml := HM.out kk
              clear hc2 hc6 hx2 hx6 hm6
              obtain ⟨k2, f2, t2, z2⟩ := y2
              obtain ⟨A8, n8, c8, x8⟩ := y6
              simp only [eC, eHr, SV.v, Nat.add_zero, Nat.mul_one] at r0 q2 hy4 hyn
              simp only [okH] at hy6
              simp only [] at HT HF
              have hl8 := hy6.len
              have l2 := World.block_lt_of_cell? _ _ q2
              have l6 := World.block_lt_of_cell? _ _ r0
              have u2 := (hbw.cell (p := ⟨b2, o2 + kk * 4 + 2, none⟩) l2).trans q2
              by_cases ht : t2 = (N : Int)
              · subst ht
                have HS := Lib.hid (show Hd ++ msgsL N x2 (x6.map cH) (kk + 1) = ((Hd ++ msgsL N x2 (x6.map cH) kk) ++ [(n8 : Int)]) ++ x8 from by
                  have h1 := HT.out rfl
                  rw [hl8] at h1
                  rw [h1]
                  simp only [List.append_assoc])
                clear HT HF
                have hbY := alo hbw (.cells #[.int .i64 n8] 3)
                have r0a := (hbw.cell (p := ⟨b6, o6 + kk, none⟩) l6).trans r0
                have own7 := own6.alloc (.cells #[.int .i64 n8] 3)
                have B0z := B0.alloc (.cells #[.int .i64 n8] 3)
                have src7 := Sl.of_blk (xs := [(n8 : Int)]) (Blk.new wr 3 #[.int .i64 n8]) encI (by simp)
                have hlen7 : (Hd ++ msgsL N x2 (x6.map cH) kk).length + 1 ≤ 100000000 := by rw [List.length_append]; omega
                have hlen8 : ((Hd ++ msgsL N x2 (x6.map cH) kk) ++ [(n8 : Int)]).length + n8 ≤ 100000000 := by rw [List.length_append, List.length_append, List.length_singleton]; omega
                go_wp2_with (first
                  | (at_builtin; refine app_own rfl _ _ appInt rfl encI w.heap.size _ _ rfl own7 _ 1 1 [(n8 : Int)] rfl (fun e => by cases e) src7 hlen7 hbY.size ?_; intro v5 w5 own5 hg5; have hb5 := belowApp hbY own7 hg5 (Nat.le_refl _) hbY.size; have B0y := B0z.appO hg5 (own7.neBlk B0z (by decide)); clear hg5 own7 own6 src7 hlen7 z5 z1 r0a; have z5 := B0y.c5; have r0a := (hb5.cell (p := ⟨b6, o6 + kk, none⟩) l6).trans r0; have src8 := hy6.below hb5)
                  | (at_builtin; refine app_own rfl _ _ appInt rfl encI w.heap.size _ _ rfl own5 _ _ _ x8 rfl hyn src8 hlen8 hb5.size ?_; intro v8 w8 own8 hg8; have hb8 := belowApp hb5 own5 hg8 (Nat.le_refl _) hb5.size; have B0x := B0y.appO hg8 (own5.neBlk B0y (by decide))))
                rw [← HS.out] at own8
                go_roundg (n6 - (kk + 1))
                case measure => omega
                case rel => exact ⟨kk + 1, _, by omega, by omega, rfl, by go_num, (show Aside _ from hb8), (show Aside _ from B0x), (show Aside _ from own8)⟩
              · have ht2 : (t2 == (N : Int)) = false := by rw [beq_eq_false_iff_ne]; exact ht
                have HS := Lib.hid (HF.out ht)
                clear HT HF
                go_wp2
                go_roundg (n6 - (kk + 1))
                case measure => omega
                case rel => exact ⟨kk + 1, _, by omega, by omega, rfl, by go_num, (show Aside _ from hbw), (show Aside _ from B0), (show Aside _ from by rw [HS.out]; exact own6)⟩
            · have hltz : ¬ (kk : Int) < (n6 : Int) := by omega
              obtain rfl : n6 = kk := by omega
              rw [← HV.out] at own6
              go_wp2
              go_ret
              exact ⟨_, rfl, own6, hbw⟩
end Go.Proofs.YtckgdlgdipfgmaaGreat
