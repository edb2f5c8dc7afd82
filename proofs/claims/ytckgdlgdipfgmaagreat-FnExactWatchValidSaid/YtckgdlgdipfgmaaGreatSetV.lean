/- Setups: SetupValid, of the program and of the reference. -/
import Derived.Test.YtckgdlgdipfgmaaGreatExSet
import Derived.Test.YtckgdlgdipfgmaaGreatPartV
import Derived.Test.YtckgdlgdipfgmaaGreatChanV
import Derived.Test.YtckgdlgdipfgmaaGreatSlotV
namespace Go.Proofs.YtckgdlgdipfgmaaGreat
set_option linter.unusedVariables false
set_option linter.unusedSimpArgs false
open Go.RowKit

abbrev SetC := List (List Win × Int) × List ChanT × List (Int × Int)
def partsOkC (ys : List (List Win × Int)) : Bool := decide (ys.length ≤ 5) && ys.all fun y => winsOk y.1 && inB y.2 1 8
theorem partsOk_C (l : List PartV) : partsOk l = partsOkC (l.map cP) := by
  simp only [partsOk, partsOkC, List.length_map, List.all_map]
  rfl
def setupOkC (c : SetC) : Bool := partsOkC c.1 && (chansOk c.2.1 c.1.length && slotsOk c.2.2 c.1.length)
set_option maxHeartbeats 1000000 in
theorem setupValid_any (s : SetR) (w : World) (h : okS w s) :
    Calls Tryz.prog 80 #[setV s] w fun e w' => .returned (.bool (setupOkC (cS s))) = e ∧ Below w.heap.size w w' := by
  obtain ⟨⟨A1, n1, c1, x1⟩, ⟨A2, n2, c2, x2⟩, ⟨A3, n3, c3, x3⟩⟩ := s
  obtain ⟨h1, h2, h3⟩ := h
  simp only [okLP, okF] at h1 h2 h3
  have hl := h1.1.len
  have hb0 := alo (Below.refl w.heap.size w) (.cells #[.slice A1 n1 c1, .slice A2 n2 c2, .slice A3 n3 c3] 38)
  have B0 := Blk.new w 38 #[.slice A1 n1 c1, .slice A2 n2 c2, .slice A3 n3 c3]
  have HR := Lib.hid (show setupOkC (cS (⟨A1, n1, c1, x1⟩, ⟨A2, n2, c2, x2⟩, ⟨A3, n3, c3, x3⟩)) = (partsOk x1 && (chansOk x2 n1 && slotsOk x3 n1)) by rw [partsOk_C]; simp only [setupOkC, cS, List.length_map, hl])
  have h5 : partsOk x1 = true → n1 ≤ 5 := fun h => by simp only [partsOk, Bool.and_eq_true, decide_eq_true_eq] at h; omega
  have q1 := partsValid_any A1 n1 c1 x1 _ (h1.1.below hb0) (fun x hx => (h1.2 x hx).below hb0)
  have q2 := fun (_ : n1 ≤ 5) W (hW : Below (w.alloc (.cells #[.slice A1 n1 c1, .slice A2 n2 c2, .slice A3 n3 c3] 38)).heap.size _ W) => channelsValid_any A2 n2 c2 x2 n1 W ((h2.below hb0).below hW)
  have q3 := fun (_ : n1 ≤ 5) W (hW : Below (w.alloc (.cells #[.slice A1 n1 c1, .slice A2 n2 c2, .slice A3 n3 c3] 38)).heap.size _ W) => slotsValid_any A3 n3 c3 x3 n1 W ((h3.below hb0).below hW)
  simp only [setV, SV.v]
  clear h1 h2 h3
  obtain ⟨v1, hv1⟩ : ∃ v, partsOk x1 = v := ⟨_, rfl⟩
  obtain ⟨v2, hv2⟩ : ∃ v, chansOk x2 n1 = v := ⟨_, rfl⟩
  obtain ⟨v3, hv3⟩ : ∃ v, slotsOk x3 n1 = v := ⟨_, rfl⟩
  rw [hv1] at q1 HR h5
  rw [hv2] at q2 HR
  rw [hv3] at q3 HR
  clear hv1 hv2 hv3
  skip
  skip
  have cB0_0 := B0.c0; have cB0_1 := B0.c1; have cB0_2 := B0.c2; have fB0 := B0.frozen
  cases v1
  · clear q2 q3 h5
    go_enter Tryz.func80, Tryz.ntmps80
    go_wp2_with fail; refine (q1).mono ?_; rintro e w1 ⟨rfl, hbw1⟩; replace B0 := Blk.belowOf B0 hbw1 (by repeat (first | exact B0 | apply Blk.alloc | apply Blk.drew | (apply Blk.far; rotate_left; (first | assumption | exact Ne.symm (by assumption))) | apply Blk.set_))
    go_wp2
    go_ret
    exact ⟨by rw [HR.out]; rfl, thn hb0 hbw1⟩
  · have h6 := h5 rfl
    clear h5
    go_enter Tryz.func80, Tryz.ntmps80
    go_wp2_with fail; refine (q1).mono ?_; rintro e w1 ⟨rfl, hbw1⟩; replace B0 := Blk.belowOf B0 hbw1 (by repeat (first | exact B0 | apply Blk.alloc | apply Blk.drew | (apply Blk.far; rotate_left; (first | assumption | exact Ne.symm (by assumption))) | apply Blk.set_))
    clear cB0_0 cB0_1 cB0_2 fB0
    have cB0_0 := B0.c0; have cB0_1 := B0.c1; have cB0_2 := B0.c2; have fB0 := B0.frozen
    have q2 := q2 h6 w1 hbw1
    cases v2
    · clear q3
      go_wp2_with fail; refine (q2).mono ?_; rintro e w2 ⟨rfl, hbw2⟩; replace B0 := Blk.belowOf B0 hbw2 (by repeat (first | exact B0 | apply Blk.alloc | apply Blk.drew | (apply Blk.far; rotate_left; (first | assumption | exact Ne.symm (by assumption))) | apply Blk.set_))
      go_wp2
      go_ret
      exact ⟨by rw [HR.out]; rfl, thn (thn hb0 hbw1) hbw2⟩
    · go_wp2_with fail; refine (q2).mono ?_; rintro e w2 ⟨rfl, hbw2⟩; replace B0 := Blk.belowOf B0 hbw2 (by repeat (first | exact B0 | apply Blk.alloc | apply Blk.drew | (apply Blk.far; rotate_left; (first | assumption | exact Ne.symm (by assumption))) | apply Blk.set_))
      clear cB0_0 cB0_1 cB0_2 fB0
      have cB0_0 := B0.c0; have cB0_1 := B0.c1; have cB0_2 := B0.c2; have fB0 := B0.frozen
      have q3 := q3 h6 w2 (thn hbw1 hbw2)
      go_wp2_with fail; refine (q3).mono ?_; rintro e w3 ⟨rfl, hbw3⟩; replace B0 := Blk.belowOf B0 hbw3 (by repeat (first | exact B0 | apply Blk.alloc | apply Blk.drew | (apply Blk.far; rotate_left; (first | assumption | exact Ne.symm (by assumption))) | apply Blk.set_))
      go_wp2
      go_ret
      exact ⟨by rw [HR.out]; cases v3 <;> rfl, thn (thn (thn hb0 hbw1) hbw2) hbw3⟩
set_option maxHeartbeats 1000000 in
theorem specSetupValid_any (s : SetR) (w : World) (h : okS w s) :
    Calls Tryz.prog 68 #[setV s] w fun e w' => .returned (.bool (setupOkC (cS s))) = e ∧ Below w.heap.size w w' := by
  obtain ⟨⟨A1, n1, c1, x1⟩, ⟨A2, n2, c2, x2⟩, ⟨A3, n3, c3, x3⟩⟩ := s
  obtain ⟨h1, h2, h3⟩ := h
  simp only [okLP, okF] at h1 h2 h3
  have hl := h1.1.len
  have hb0 := alo (Below.refl w.heap.size w) (.cells #[.slice A1 n1 c1, .slice A2 n2 c2, .slice A3 n3 c3] 38)
  have B0 := Blk.new w 38 #[.slice A1 n1 c1, .slice A2 n2 c2, .slice A3 n3 c3]
  have HR := Lib.hid (show setupOkC (cS (⟨A1, n1, c1, x1⟩, ⟨A2, n2, c2, x2⟩, ⟨A3, n3, c3, x3⟩)) = (partsOk x1 && (chansOk x2 n1 && slotsOk x3 n1)) by rw [partsOk_C]; simp only [setupOkC, cS, List.length_map, hl])
  have h5 : partsOk x1 = true → n1 ≤ 5 := fun h => by simp only [partsOk, Bool.and_eq_true, decide_eq_true_eq] at h; omega
  have q1 := specPartsValid_any A1 n1 c1 x1 _ (h1.1.below hb0) (fun x hx => (h1.2 x hx).below hb0)
  have q2 := fun (h5 : n1 ≤ 5) W (hW : Below (w.alloc (.cells #[.slice A1 n1 c1, .slice A2 n2 c2, .slice A3 n3 c3] 38)).heap.size _ W) => specChannelsValid_any A2 n2 c2 x2 n1 (by omega) W ((h2.below hb0).below hW)
  have q3 := fun (h5 : n1 ≤ 5) W (hW : Below (w.alloc (.cells #[.slice A1 n1 c1, .slice A2 n2 c2, .slice A3 n3 c3] 38)).heap.size _ W) => specSlotsValid_any A3 n3 c3 x3 n1 W (by omega) ((h3.below hb0).below hW)
  simp only [setV, SV.v]
  clear h1 h2 h3
  obtain ⟨v1, hv1⟩ : ∃ v, partsOk x1 = v := ⟨_, rfl⟩
  obtain ⟨v2, hv2⟩ : ∃ v, chansOk x2 n1 = v := ⟨_, rfl⟩
  obtain ⟨v3, hv3⟩ : ∃ v, slotsOk x3 n1 = v := ⟨_, rfl⟩
  rw [hv1] at q1 HR h5
  rw [hv2] at q2 HR
  rw [hv3] at q3 HR
  clear hv1 hv2 hv3
  skip
  skip
  have cB0_0 := B0.c0; have cB0_1 := B0.c1; have cB0_2 := B0.c2; have fB0 := B0.frozen
  cases v1
  · clear q2 q3 h5
    go_enter Tryz.func68, Tryz.ntmps68
    go_wp2_with fail; refine (q1).mono ?_; rintro e w1 ⟨rfl, hbw1⟩; replace B0 := Blk.belowOf B0 hbw1 (by repeat (first | exact B0 | apply Blk.alloc | apply Blk.drew | (apply Blk.far; rotate_left; (first | assumption | exact Ne.symm (by assumption))) | apply Blk.set_))
    go_wp2
    go_ret
    exact ⟨by rw [HR.out]; rfl, thn hb0 hbw1⟩
  · have h6 := h5 rfl
    clear h5
    go_enter Tryz.func68, Tryz.ntmps68
    go_wp2_with fail; refine (q1).mono ?_; rintro e w1 ⟨rfl, hbw1⟩; replace B0 := Blk.belowOf B0 hbw1 (by repeat (first | exact B0 | apply Blk.alloc | apply Blk.drew | (apply Blk.far; rotate_left; (first | assumption | exact Ne.symm (by assumption))) | apply Blk.set_))
    clear cB0_0 cB0_1 cB0_2 fB0
    have cB0_0 := B0.c0; have cB0_1 := B0.c1; have cB0_2 := B0.c2; have fB0 := B0.frozen
    have q2 := q2 h6 w1 hbw1
    cases v2
    · clear q3
      go_wp2_with fail; refine (q2).mono ?_; rintro e w2 ⟨rfl, hbw2⟩; replace B0 := Blk.belowOf B0 hbw2 (by repeat (first | exact B0 | apply Blk.alloc | apply Blk.drew | (apply Blk.far; rotate_left; (first | assumption | exact Ne.symm (by assumption))) | apply Blk.set_))
      go_wp2
      go_ret
      exact ⟨by rw [HR.out]; rfl, thn (thn hb0 hbw1) hbw2⟩
    · go_wp2_with fail; refine (q2).mono ?_; rintro e w2 ⟨rfl, hbw2⟩; replace B0 := Blk.belowOf B0 hbw2 (by repeat (first | exact B0 | apply Blk.alloc | apply Blk.drew | (apply Blk.far; rotate_left; (first | assumption | exact Ne.symm (by assumption))) | apply Blk.set_))
      clear cB0_0 cB0_1 cB0_2 fB0
      have cB0_0 := B0.c0; have cB0_1 := B0.c1; have cB0_2 := B0.c2; have fB0 := B0.frozen
      have q3 := q3 h6 w2 (thn hbw1 hbw2)
      go_wp2_with fail; refine (q3).mono ?_; rintro e w3 ⟨rfl, hbw3⟩; replace B0 := Blk.belowOf B0 hbw3 (by repeat (first | exact B0 | apply Blk.alloc | apply Blk.drew | (apply Blk.far; rotate_left; (first | assumption | exact Ne.symm (by assumption))) | apply Blk.set_))
      go_wp2
      go_ret
      exact ⟨by rw [HR.out]; cases v3 <;> rfl, thn (thn (thn hb0 hbw1) hbw2) hbw3⟩
end Go.Proofs.YtckgdlgdipfgmaaGreat
