/- Monitors: WatchValid, of the program and of the reference. -/
import Derived.Test.YtckgdlgdipfgmaaGreatMachS
import Derived.Test.YtckgdlgdipfgmaaGreatExWatch
import Derived.Test.YtckgdlgdipfgmaaGreatHealth
import Derived.Test.YtckgdlgdipfgmaaGreatIdxHl
namespace Go.Proofs.YtckgdlgdipfgmaaGreat
set_option linter.unusedVariables false
set_option linter.unusedSimpArgs false
open Go.RowKit

def watOkC (c : MacC × List (Bool × Int)) : Bool := machOkC c.1 && (decide (c.2.length = c.1.2.2.1.length) && c.2.all fun x => healthOk x.1 x.2)
theorem any_notW (p : (Bool × Int) → Bool) (xs : List (Bool × Int)) : (!xs.any fun x => !p x) = xs.all p := by
  induction xs with
  | nil => rfl
  | cons a l ih => simp [ih]
theorem watBad_any (x : Bool × Int) (w : World) : Calls Tryz.prog 59 #[.agg (eH x).toArray] w fun e w' => .returned (.bool (!healthOk x.1 x.2)) = e ∧ Below w.heap.size w w' := by
  obtain ⟨f, y⟩ := x
  have hb0 := alo (Below.refl w.heap.size w) (.cells #[.bool f, .int .i64 y] 101)
  have h1 := healthValid_any f y (w.alloc (.cells #[.bool f, .int .i64 y] 101))
  simp only [eH]
  generalize healthOk f y = v at *
  go_enter Tryz.func59, Tryz.ntmps59
  go_wp2_with fail
  refine h1.mono ?_
  rintro e w1 ⟨rfl, hb1⟩
  go_wp2
  go_ret
  exact ⟨rfl, thn hb0 hb1⟩
theorem enters_wat (args : Array Value) (w : World) : (callFunc 59 args).run Tryz.prog w = .ok (.enter 59 args) w := enters_of Tryz.func59 (by kernel_rfl) rfl args w
theorem nat_beq (a b : Nat) : ((a : Int) == (b : Int)) = decide (a = b) := by
  by_cases h : a = b
  · subst h; simp
  · rw [decide_eq_false h, beq_eq_false_iff_ne]; omega
set_option maxRecDepth 100000 in
set_option maxHeartbeats 2000000 in
theorem watchValid_any (x : WatR) (w : World) (h : okW w x) :
    Calls Tryz.prog 23 #[watV x] w fun e w' => .returned (.bool (watOkC (cW x))) = e ∧ Below w.heap.size w w' := by
  obtain ⟨⟨⟨⟨A1, n1, c1, x1⟩, ⟨A2, n2, c2, x2⟩, ⟨A3, n3, c3, x3⟩⟩, ⟨A4, n4, c4, x4⟩, ⟨A5, n5, c5, x5⟩, ⟨A6, n6, c6, x6⟩, tick⟩, ⟨A7, n7, c7, x7⟩⟩ := x
  obtain ⟨hm, hg⟩ := h
  have hb0 := alo (Below.refl w.heap.size w) (.cells #[.slice A1 n1 c1, .slice A2 n2 c2, .slice A3 n3 c3, .slice A4 n4 c4, .slice A5 n5 c5, .slice A6 n6 c6, .int .i64 tick, .slice A7 n7 c7] 60)
  have B0 := Blk.new w 60 #[.slice A1 n1 c1, .slice A2 n2 c2, .slice A3 n3 c3, .slice A4 n4 c4, .slice A5 n5 c5, .slice A6 n6 c6, .int .i64 tick, .slice A7 n7 c7]
  have hs7 : Sl w 2 eH A7 n7 c7 x7 := hg
  have hs5 : Sl w 3 eCo A5 n5 c5 x5 := hm.2.2.1.1
  have hle7 := hs7.le
  have hmax7 := hs7.max
  have hle5 := hs5.le
  have hmax5 := hs5.max
  have hq := fun W (hW : Below w.heap.size w W) => machineValid_any ((((⟨A1, n1, c1, x1⟩, ⟨A2, n2, c2, x2⟩, ⟨A3, n3, c3, x3⟩) : SetR), ⟨A4, n4, c4, x4⟩, ⟨A5, n5, c5, x5⟩, ⟨A6, n6, c6, x6⟩, tick) : MacR) W (hm.below hW)
  obtain ⟨C, hC⟩ : ∃ C : MacC, cM ((((⟨A1, n1, c1, x1⟩, ⟨A2, n2, c2, x2⟩, ⟨A3, n3, c3, x3⟩) : SetR), ⟨A4, n4, c4, x4⟩, ⟨A5, n5, c5, x5⟩, ⟨A6, n6, c6, x6⟩, tick) : MacR) = C := ⟨_, rfl⟩
  have L5 := Lib.hid (show C.2.2.1.length = n5 by rw [← hC]; exact (List.length_map _).trans hs5.len)
  have L7 := Lib.hid hs7.len
  simp only [hC] at hq
  simp only [watV, cW, macV, setV, SV.v_mk] at hq ⊢
  rw [hC]
  clear hC hm hg hs5
  obtain ⟨v1, hv1⟩ : ∃ v, machOkC C = v := ⟨_, rfl⟩
  rw [hv1] at hq
  have HR := Lib.hid (show watOkC (C, x7) = (v1 && (decide (n7 = n5) && x7.all fun x => healthOk x.1 x.2)) by unfold watOkC; simp only []; rw [hv1, L5.out, L7.out])
  clear hv1
  obtain ⟨R, hR⟩ : ∃ R, watOkC (C, x7) = R := ⟨_, rfl⟩
  have HRR := Lib.hid (hR.symm.trans HR.out)
  rw [hR]
  clear hR HR
  have hc := fun W (hW : Below w.heap.size w W) => containsHl (fun x => !healthOk x.1 x.2) _ #[] enters_wat A7 n7 c7 x7 W (fun _ => True) (fun _ _ => trivial) (fun W x _ _ => watBad_any x W) (hs7.below hW)
  have HN := Lib.hid (any_notW (fun x => healthOk x.1 x.2) x7)
  obtain ⟨v2, hv2⟩ : ∃ v, (x7.any fun x => !healthOk x.1 x.2) = v := ⟨_, rfl⟩
  simp only [hv2] at hc
  have HV2 := Lib.hid hv2
  clear hv2
  have hq := hq _ hb0
  have z0 := B0.c0
  have z1 := B0.c1
  have z2 := B0.c2
  have z3 := B0.c3
  have z4 := B0.c4
  have z5 := B0.c5
  have z6 := B0.c6
  have z7 := blk_cells B0 7 _ rfl
  cases v1
  · clear hc
    go_enter Tryz.func23, Tryz.ntmps23
    go_wp2_with fail
    refine hq.mono ?_
    rintro e w1 ⟨rfl, hb1⟩
    go_wp2
    go_ret
    exact ⟨by rw [HRR.out]; rfl, thn hb0 hb1⟩
  · by_cases hn : n7 = n5
    · have hn1 : ((n7 : Int) == (n5 : Int)) = true := by rw [hn]; exact beq_self_eq_true _
      have HD := Lib.hid (decide_eq_true hn)
      subst hn
      go_enter Tryz.func23, Tryz.ntmps23
      go_wp2_with fail
      refine hq.mono ?_
      rintro e w1 ⟨rfl, hb1⟩
      have hB1 := thn hb0 hb1
      have hc := hc _ hB1
      replace B0 := B0.below hb1
      clear z0 z1 z2 z3 z4 z5 z6 z7 hq
      have z0 := B0.c0
      have z1 := B0.c1
      have z2 := B0.c2
      have z3 := B0.c3
      have z4 := B0.c4
      have z5 := B0.c5
      have z6 := B0.c6
      have z7 := blk_cells B0 7 _ rfl
      go_wp2_with fail
      refine hc.mono ?_
      rintro e w2 ⟨rfl, hb2⟩
      go_wp2
      go_ret
      exact ⟨by rw [HRR.out, HD.out, ← HN.out, HV2.out]; cases v2 <;> rfl, thn hB1 hb2⟩
    · have hn1 : ((n7 : Int) == (n5 : Int)) = false := by rw [beq_eq_false_iff_ne]; omega
      have HD := Lib.hid (decide_eq_false hn)
      clear hn hc
      go_enter Tryz.func23, Tryz.ntmps23
      go_wp2_with fail
      refine hq.mono ?_
      rintro e w1 ⟨rfl, hb1⟩
      replace B0 := B0.below hb1
      clear z0 z1 z2 z3 z4 z5 z6 z7 hq
      have z0 := B0.c0
      have z1 := B0.c1
      have z2 := B0.c2
      have z3 := B0.c3
      have z4 := B0.c4
      have z5 := B0.c5
      have z6 := B0.c6
      have z7 := blk_cells B0 7 _ rfl
      go_wp2
      go_ret
      exact ⟨by rw [HRR.out, HD.out]; rfl, thn hb0 hb1⟩
set_option maxRecDepth 100000 in
set_option maxHeartbeats 2000000 in
theorem specWatchValid_any (x : WatR) (w : World) (h : okW w x) :
    Calls Tryz.prog 21 #[watV x] w fun e w' => .returned (.bool (watOkC (cW x))) = e ∧ Below w.heap.size w w' := by
  obtain ⟨⟨⟨⟨A1, n1, c1, x1⟩, ⟨A2, n2, c2, x2⟩, ⟨A3, n3, c3, x3⟩⟩, ⟨A4, n4, c4, x4⟩, ⟨A5, n5, c5, x5⟩, ⟨A6, n6, c6, x6⟩, tick⟩, ⟨A7, n7, c7, x7⟩⟩ := x
  obtain ⟨hm, hg⟩ := h
  have hb0 := alo (Below.refl w.heap.size w) (.cells #[.slice A1 n1 c1, .slice A2 n2 c2, .slice A3 n3 c3, .slice A4 n4 c4, .slice A5 n5 c5, .slice A6 n6 c6, .int .i64 tick, .slice A7 n7 c7] 60)
  have B0 := Blk.new w 60 #[.slice A1 n1 c1, .slice A2 n2 c2, .slice A3 n3 c3, .slice A4 n4 c4, .slice A5 n5 c5, .slice A6 n6 c6, .int .i64 tick, .slice A7 n7 c7]
  have hs7 : Sl w 2 eH A7 n7 c7 x7 := hg
  have hs5 : Sl w 3 eCo A5 n5 c5 x5 := hm.2.2.1.1
  have hle7 := hs7.le
  have hmax7 := hs7.max
  have hle5 := hs5.le
  have hmax5 := hs5.max
  have hq := fun W (hW : Below w.heap.size w W) => specMachineValid_any ((((⟨A1, n1, c1, x1⟩, ⟨A2, n2, c2, x2⟩, ⟨A3, n3, c3, x3⟩) : SetR), ⟨A4, n4, c4, x4⟩, ⟨A5, n5, c5, x5⟩, ⟨A6, n6, c6, x6⟩, tick) : MacR) W (hm.below hW)
  obtain ⟨C, hC⟩ : ∃ C : MacC, cM ((((⟨A1, n1, c1, x1⟩, ⟨A2, n2, c2, x2⟩, ⟨A3, n3, c3, x3⟩) : SetR), ⟨A4, n4, c4, x4⟩, ⟨A5, n5, c5, x5⟩, ⟨A6, n6, c6, x6⟩, tick) : MacR) = C := ⟨_, rfl⟩
  have L5 := Lib.hid (show C.2.2.1.length = n5 by rw [← hC]; exact (List.length_map _).trans hs5.len)
  have L7 := Lib.hid hs7.len
  simp only [hC] at hq
  simp only [watV, cW, macV, setV, SV.v_mk] at hq ⊢
  rw [hC]
  clear hC hm hg hs5
  obtain ⟨v1, hv1⟩ : ∃ v, machOkC C = v := ⟨_, rfl⟩
  rw [hv1] at hq
  have HR := Lib.hid (show watOkC (C, x7) = (v1 && (decide (n7 = n5) && x7.all fun x => healthOk x.1 x.2)) by unfold watOkC; simp only []; rw [hv1, L5.out, L7.out])
  clear hv1
  obtain ⟨R, hR⟩ : ∃ R, watOkC (C, x7) = R := ⟨_, rfl⟩
  have HRR := Lib.hid (hR.symm.trans HR.out)
  rw [hR]
  clear hR HR
  have z7 := blk_cells B0 7 _ rfl
  go_enter Tryz.func21, Tryz.ntmps21
  go_wp2_with fail
  go_loopg [3] n7 (fun gg s3 wr => ∃ kk : Nat, kk ≤ n7 ∧ n7 - kk ≤ gg ∧ s3 = .int .i64 kk ∧ Aside (Below w.heap.size w wr) ∧ Aside (Blk wr w.heap.size 60 #[.slice A1 n1 c1, .slice A2 n2 c2, .slice A3 n3 c3, .slice A4 n4 c4, .slice A5 n5 c5, .slice A6 n6 c6, .int .i64 tick, .slice A7 n7 c7]) ∧ Aside (∀ j y, j < kk → x7[j]? = some y → healthOk y.1 y.2 = true))
  case atStart => exact ⟨0, Nat.zero_le _, by omega, rfl, (show Aside _ from hb0), (show Aside _ from B0), (show Aside _ from fun j _ hj => absurd hj (Nat.not_lt_zero _))⟩
  case round =>
    obtain ⟨kk, hkk, hg, rfl, BW, BB, AA⟩ := hrel
    clear B0 hb0 z7
    have B0 := BB.out
    clear BB
    have z0 := B0.c0
    have z1 := B0.c1
    have z2 := B0.c2
    have z3 := B0.c3
    have z4 := B0.c4
    have z5 := B0.c5
    have z6 := B0.c6
    have z7 := blk_cells B0 7 _ rfl
    by_cases hlt : kk < n7
    · have hltz : (kk : Int) < (n7 : Int) := by omega
      obtain ⟨bb, oo, rfl, y, hx, hc⟩ := hs7.nth hlt BW.out
      have q0 := hc 0 _ rfl
      have q1 := hc 1 _ rfl
      have HX := Lib.hid hx
      clear hc hx
      obtain ⟨f, y⟩ := y
      simp only [eH, Nat.add_zero] at q0 q1
      have h1 := specHealthValid_any f y wr
      obtain ⟨v2, hv2⟩ : ∃ v2, healthOk f y = v2 := ⟨_, rfl⟩
      rw [hv2] at h1
      have HV := Lib.hid (show (fun x : Bool × Int => healthOk x.1 x.2) (f, y) = v2 from hv2)
      clear hv2
      cases v2
      · go_wp2_with fail
        refine h1.mono ?_
        rintro e w1 ⟨rfl, hb1⟩
        go_wp2
        go_ret
        exact ⟨by rw [HRR.out, all_fails HX.out HV.out, Bool.and_false, Bool.and_false]; rfl, thn BW.out hb1⟩
      · go_wp2_with fail
        refine h1.mono ?_
        rintro e w1 ⟨rfl, hb1⟩
        go_wp2
        go_roundg (n7 - (kk + 1))
        case measure => omega
        case rel =>
          refine ⟨kk + 1, by omega, by omega, by go_num, (show Aside _ from thn BW.out hb1), (show Aside _ from B0.below hb1), (show Aside _ from fun j z hj hz => ?_)⟩
          by_cases e : j = kk
          · subst e
            have := HX.out
            rw [this] at hz
            injection hz with hz
            rw [← hz]; exact HV.out
          · exact AA.out j z (by omega) hz
    · have hltz : ¬ (kk : Int) < (n7 : Int) := by omega
      obtain rfl : n7 = kk := by omega
      have HA := Lib.hid (show (x7.all fun x => healthOk x.1 x.2) = true from by
        rw [List.all_eq_true]
        intro z hz
        obtain ⟨j, hj, hjx⟩ := List.getElem_of_mem hz
        exact AA.out j z (by have := L7.out; omega) (by rw [List.getElem?_eq_getElem hj, hjx]))
      have hq := hq _ BW.out
      clear AA hltz hlt
      cases v1
      · go_wp2_with fail
        refine hq.mono ?_
        rintro e w1 ⟨rfl, hb1⟩
        go_wp2
        go_ret
        exact ⟨by rw [HRR.out]; rfl, thn BW.out hb1⟩
      · go_wp2_with fail
        refine hq.mono ?_
        rintro e w1 ⟨rfl, hb1⟩
        replace B0 := B0.below hb1
        clear z0 z1 z2 z3 z4 z5 z6 z7 hq
        have z0 := B0.c0
        have z1 := B0.c1
        have z2 := B0.c2
        have z3 := B0.c3
        have z4 := B0.c4
        have z5 := B0.c5
        have z6 := B0.c6
        have z7 := blk_cells B0 7 _ rfl
        go_wp2
        go_ret
        exact ⟨by rw [HRR.out, HA.out, ← nat_beq]; simp, thn BW.out hb1⟩
end Go.Proofs.YtckgdlgdipfgmaaGreat
