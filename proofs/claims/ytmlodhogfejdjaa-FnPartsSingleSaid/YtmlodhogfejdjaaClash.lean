/- Lists of windows that clash: impl and spec. -/
import Derived.Test.YtmlodhogfejdjaaMeet
namespace Go.Proofs.Ytmlodhogfejdjaa
set_option linter.unusedVariables false
set_option linter.unusedSimpArgs false
open Go.RowKit

theorem any_hit {α : Type} {p : α → Bool} {xs : List α} {k : Nat} {x : α} (hx : xs[k]? = some x) (hp : p x = true) : xs.any p = true :=
  List.any_eq_true.2 ⟨x, List.mem_of_getElem? hx, hp⟩
theorem any_miss {α : Type} {p : α → Bool} {xs : List α} {n : Nat} (hn : xs.length = n) (h : ∀ j y, j < n → xs[j]? = some y → p y = false) : xs.any p = false := by
  rw [List.any_eq_false]
  intro x hx
  obtain ⟨j, hj⟩ := List.mem_iff_getElem?.1 hx
  rw [h j x (by have := (List.getElem?_eq_some_iff.1 hj).1; omega) hj]
  simp
def hitW (x y : Win) : Bool := (meetW x y).2 && (x.wr || y.wr)
def clashW (xs ys : List Win) : Bool := xs.any fun x => ys.any fun y => hitW x y
def wclash (xs ys : List Win) : Bool := winsOk xs && (winsOk ys && clashW xs ys)

set_option maxHeartbeats 2000000 in
theorem clash_any (A A' : Option Addr) (n n' c c' : Nat) (xs ys : List Win) (hx : ∀ x ∈ xs, x.ok = true) (hy : ∀ x ∈ ys, x.ok = true) (w : World) (hs : Sl w 3 Win.cells A n c xs) (hs' : Sl w 3 Win.cells A' n' c' ys) :
    Calls Try.prog 74 #[.slice A n c, .slice A' n' c'] w fun e w' => .returned (.bool (clashW xs ys)) = e ∧ Below w.heap.size w w' := by
  have hle := hs.le
  have hmax := hs.max
  have hle' := hs'.le
  have hmax' := hs'.max
  go_enter Try.func74, Try.ntmps74
  go_wp2
  go_loopg [13] n (fun gg s3 wr => ∃ kk : Nat, kk ≤ n ∧ n - kk ≤ gg ∧ s3 = .int .i64 kk ∧ Aside (Below w.heap.size w wr) ∧ Aside (∀ j x, j < kk → xs[j]? = some x → (ys.any fun y => hitW x y) = false))
  case atStart => exact ⟨0, Nat.zero_le _, by omega, rfl, (show Aside _ from Below.refl _ _), (show Aside _ from fun j _ hj => absurd hj (Nat.not_lt_zero _))⟩
  case round =>
    obtain ⟨kk, hkk, hg, rfl, BW, AA⟩ := hrel
    by_cases hlt : kk < n
    · have hltz : (kk : Int) < (n : Int) := by omega
      obtain ⟨b, o, rfl, x, hxk, hc⟩ := hs.nth hlt BW.out
      have hxo := hx x (List.mem_of_getElem? hxk)
      have hc0 := hc 0 _ rfl
      have hc1 := hc 1 _ rfl
      have hc2 := hc 2 _ rfl
      have HX := Lib.hid hxk
      clear hc hxk
      have hM := fun y hy W => meet_any x y hxo hy W
      have HH := Lib.hid (fun y => show hitW x y = ((meetW x y).2 && (x.wr || y.wr)) from rfl)
      have HZ := Lib.hid (show (fun y => hitW x y) = hitW x from rfl)
      obtain ⟨ab, az, aw⟩ := x
      simp only [Win.cells, Nat.add_zero, winV] at hc0 hc1 hc2 hM
      obtain ⟨q, hq⟩ : ∃ q, wr.heap.size = q := ⟨_, rfl⟩
      have B1 := Blk.new wr 35 #[.int .i64 ab, .int .i64 az, .bool aw]
      have hb1 := alo BW.out (.cells #[.int .i64 ab, .int .i64 az, .bool aw] 35)
      rw [hq] at B1
      go_wp2
      go_loopg [19] n' (fun gg s3 wr => ∃ mm : Nat, mm ≤ n' ∧ n' - mm ≤ gg ∧ s3 = .int .i64 mm ∧ Aside (Below w.heap.size w wr) ∧ Aside (Blk wr q 35 #[.int .i64 ab, .int .i64 az, .bool aw]) ∧ Aside (∀ j y, j < mm → ys[j]? = some y → hitW ⟨ab, az, aw⟩ y = false))
      case atStart => exact ⟨0, Nat.zero_le _, by omega, rfl, (show Aside _ from hb1), (show Aside _ from B1), (show Aside _ from fun j _ hj => absurd hj (Nat.not_lt_zero _))⟩
      case round =>
        clear BW hq hb1 B1 hc0 hc1 hc2
        obtain ⟨mm, hmm, hg2, rfl, BW, BB, A2⟩ := hrel
        have B1 := BB.out
        clear BB
        by_cases hlt2 : mm < n'
        · have hltz2 : (mm : Int) < (n' : Int) := by omega
          obtain ⟨b', o', rfl, y, hyk, hc⟩ := hs'.nth hlt2 BW.out
          have hyo := hy y (List.mem_of_getElem? hyk)
          have hc0 := hc 0 _ rfl
          have hc1 := hc 1 _ rfl
          have hc2 := hc 2 _ rfl
          have HY := Lib.hid hyk
          clear hc hyk
          have hM2 := hM y hyo
          have HV := Lib.hid (HH.out y)
          clear hM hyo HH
          obtain ⟨bb, bz, bw⟩ := y
          simp only [] at HV
          generalize meetW ⟨ab, az, aw⟩ ⟨bb, bz, bw⟩ = m at hM2 HV
          obtain ⟨⟨mb, ms, mw⟩, ok⟩ := m
          simp only [Win.cells, Nat.add_zero, winV, meetV] at hc0 hc1 hc2 hM2 HV
          skip
          skip
          have hb2 := alo BW.out (.cells #[.int .i64 bb, .int .i64 bz, .bool bw] 35)
          have B2 := Blk.new wr 35 #[.int .i64 bb, .int .i64 bz, .bool bw]; have dB1B2 := Nat.ne_of_lt B1.lt; replace B1 := B1.alloc (.cells #[.int .i64 bb, .int .i64 bz, .bool bw] 35)
          have e0 := B1.c0
          have e1 := B1.c1
          have e2 := B1.c2
          go_wp2_with fail; refine (hM2 _).mono ?_; rintro e w2 ⟨rfl, hbw2⟩; replace B1 := Blk.belowOf B1 hbw2 (by repeat (first | exact B1 | apply Blk.alloc | apply Blk.drew | (apply Blk.far; rotate_left; (first | assumption | exact Ne.symm (by assumption))) | apply Blk.set_)); replace B2 := Blk.belowOf B2 hbw2 (by repeat (first | exact B2 | apply Blk.alloc | apply Blk.drew | (apply Blk.far; rotate_left; (first | assumption | exact Ne.symm (by assumption))) | apply Blk.set_))
          have hb3 := alo (thn hb2 hbw2) (.cells #[.int .i64 mb, .int .i64 ms, .bool mw] 35)
          have B3 := Blk.new w2 35 #[.int .i64 mb, .int .i64 ms, .bool mw]; have dB1B3 := Nat.ne_of_lt B1.lt; replace B1 := B1.alloc (.cells #[.int .i64 mb, .int .i64 ms, .bool mw] 35); have dB2B3 := Nat.ne_of_lt B2.lt; replace B2 := B2.alloc (.cells #[.int .i64 mb, .int .i64 ms, .bool mw] 35)
          clear hbw2 hM2 e0 e1 e2 hc0 hc1 hc2
          have e1 := B1.c2
          have e2 := B2.c2
          cases ok
          · go_wp2
            go_roundg (n' - (mm + 1))
            case measure => omega
            case rel => exact ⟨mm + 1, by omega, by omega, by go_num, (show Aside _ from hb3), (show Aside _ from B1), (show Aside _ from all_stepF A2.out HY.out (by rw [HV.out]; rfl))⟩
          · cases aw
            · cases bw
              · go_wp2
                go_roundg (n' - (mm + 1))
                case measure => omega
                case rel => exact ⟨mm + 1, by omega, by omega, by go_num, (show Aside _ from hb3), (show Aside _ from B1), (show Aside _ from all_stepF A2.out HY.out (by rw [HV.out]; rfl))⟩
              · go_wp2
                go_ret
                exact ⟨by rw [clashW, any_hit HX.out (any_hit HY.out (by rw [HV.out]; simp))]; rfl, hb3⟩
            · go_wp2
              go_ret
              exact ⟨by rw [clashW, any_hit HX.out (any_hit HY.out (by rw [HV.out]; simp))]; rfl, hb3⟩
        · have hltz2 : ¬ (mm : Int) < (n' : Int) := by omega
          obtain rfl : mm = n' := by omega
          clear hM HH B1
          go_wp2
          go_roundg (n - (kk + 1))
          case measure => omega
          case rel => exact ⟨kk + 1, by omega, by omega, by go_num, (show Aside _ from BW.out), (show Aside _ from all_stepF AA.out HX.out (any_miss hs'.len A2.out))⟩
    · have hltz : ¬ (kk : Int) < (n : Int) := by omega
      obtain rfl : kk = n := by omega
      go_wp2
      go_ret
      exact ⟨by rw [clashW, any_miss hs.len AA.out]; rfl, BW.out⟩

theorem windowsClash_any (A A' : Option Addr) (n n' c c' : Nat) (xs ys : List Win) (w : World) (hs : Sl w 3 Win.cells A n c xs) (hs' : Sl w 3 Win.cells A' n' c' ys) :
    Calls Try.prog 39 #[.slice A n c, .slice A' n' c'] w fun e w' => .returned (.bool (wclash xs ys)) = e ∧ Below w.heap.size w w' := by
  have h1 := windowsValid_any A n c xs w hs
  have h2 := fun W hW => windowsValid_any A' n' c' ys W (hs'.below hW)
  have h3 := fun W hW hx hy => clash_any A A' n n' c c' xs ys hx hy W (hs.below hW) (hs'.below hW)
  unfold wclash
  skip
  cases hv1 : winsOk xs
  · rw [hv1] at h1
    clear h2 h3 hv1
    go_enter Try.func39, Try.ntmps39
    go_wp2_with fail; refine (h1).mono ?_; rintro e w1 ⟨rfl, hbw1⟩
    go_wp2
    go_ret
    exact ⟨rfl, hbw1⟩
  · rw [hv1] at h1
    cases hv2 : winsOk ys
    · rw [hv2] at h2
      clear h3 hv1 hv2
      go_enter Try.func39, Try.ntmps39
      go_wp2_with fail; refine (h1).mono ?_; rintro e w1 ⟨rfl, hbw1⟩
      go_wp2_with fail; refine (h2 _ hbw1).mono ?_; rintro e w2 ⟨rfl, hbw2⟩
      go_wp2
      go_ret
      exact ⟨rfl, thn hbw1 hbw2⟩
    · rw [hv2] at h2
      replace h3 := fun W hW => h3 W hW (winsOk_true.1 hv1).2 (winsOk_true.1 hv2).2
      clear hv1 hv2
      generalize clashW xs ys = v at *
      go_enter Try.func39, Try.ntmps39
      go_wp2_with fail; refine (h1).mono ?_; rintro e w1 ⟨rfl, hbw1⟩
      go_wp2_with fail; refine (h2 _ hbw1).mono ?_; rintro e w2 ⟨rfl, hbw2⟩
      have hb2 := thn hbw1 hbw2
      go_wp2_with fail; refine (h3 _ hb2).mono ?_; rintro e w3 ⟨rfl, hbw3⟩
      go_wp2
      go_ret
      exact ⟨rfl, thn hb2 hbw3⟩

theorem wmeet_ok {x y : Win} (hx : x.ok = true) (hy : y.ok = true) : wmeet x y = meetW x y := by unfold wmeet; rw [hx, hy]; rfl
set_option maxHeartbeats 4000000 in
theorem specWindowsClash_any (A A' : Option Addr) (n n' c c' : Nat) (xs ys : List Win) (w : World) (hs : Sl w 3 Win.cells A n c xs) (hs' : Sl w 3 Win.cells A' n' c' ys) :
    Calls Try.prog 40 #[.slice A n c, .slice A' n' c'] w fun e w' => .returned (.bool (wclash xs ys)) = e ∧ Below w.heap.size w w' := by
  have h1 := specWindowsValid_any A n c xs w hs
  have h2 := fun W hW => specWindowsValid_any A' n' c' ys W (hs'.below hW)
  have hle := hs.le
  have hmax := hs.max
  have hle' := hs'.le
  have hmax' := hs'.max
  obtain ⟨v, hv⟩ : ∃ v, wclash xs ys = v := ⟨_, rfl⟩
  rw [hv]
  unfold wclash at hv
  have HV := Lib.hid hv
  clear hv
  skip
  cases hv1 : winsOk xs
  · rw [hv1] at h1 HV
    clear h2 hv1
    go_enter Try.func40, Try.ntmps40
    go_wp2_with fail; refine (h1).mono ?_; rintro e w1 ⟨rfl, hbw1⟩
    go_wp2
    go_ret
    exact ⟨by rw [← HV.out]; rfl, hbw1⟩
  · rw [hv1] at h1 HV
    cases hv2 : winsOk ys
    · rw [hv2] at h2 HV
      clear hv1 hv2
      go_enter Try.func40, Try.ntmps40
      go_wp2_with fail; refine (h1).mono ?_; rintro e w1 ⟨rfl, hbw1⟩
      go_wp2_with fail; refine (h2 _ hbw1).mono ?_; rintro e w2 ⟨rfl, hbw2⟩
      go_wp2
      go_ret
      exact ⟨by rw [← HV.out]; rfl, thn hbw1 hbw2⟩
    · rw [hv2] at h2 HV
      have hx := Lib.hid (winsOk_true.1 hv1).2
      have hy := Lib.hid (winsOk_true.1 hv2).2
      clear hv1 hv2
      replace HV := Lib.hid (show clashW xs ys = v by rw [← HV.out]; simp)
      go_enter Try.func40, Try.ntmps40
      go_wp2_with fail; refine (h1).mono ?_; rintro e w1 ⟨rfl, hbw1⟩
      go_wp2_with fail; refine (h2 _ hbw1).mono ?_; rintro e w2 ⟨rfl, hbw2⟩
      have hb2 := thn hbw1 hbw2
      clear h1 h2 hbw1 hbw2
      go_wp2
      go_loopg [5] n (fun gg s3 wr => ∃ kk : Nat, kk ≤ n ∧ n - kk ≤ gg ∧ s3 = .int .i64 kk ∧ Aside (Below w.heap.size w wr) ∧ Aside (∀ j x, j < kk → xs[j]? = some x → (ys.any fun y => hitW x y) = false))
      case atStart => exact ⟨0, Nat.zero_le _, by omega, rfl, (show Aside _ from hb2), (show Aside _ from fun j _ hj => absurd hj (Nat.not_lt_zero _))⟩
      case round =>
        clear hb2
        obtain ⟨kk, hkk, hg, rfl, BW, AA⟩ := hrel
        by_cases hlt : kk < n
        · have hltz : (kk : Int) < (n : Int) := by omega
          go_wp2
          go_loopg [6] n' (fun gg s3 wr => ∃ mm : Nat, mm ≤ n' ∧ n' - mm ≤ gg ∧ s3 = .int .i64 mm ∧ Aside (Below w.heap.size w wr) ∧ Aside (∀ x, xs[kk]? = some x → ∀ j y, j < mm → ys[j]? = some y → hitW x y = false))
          case atStart => exact ⟨0, Nat.zero_le _, by omega, rfl, (show Aside _ from BW.out), (show Aside _ from fun x _ j _ hj => absurd hj (Nat.not_lt_zero _))⟩
          case round =>
            clear BW
            obtain ⟨mm, hmm, hg2, rfl, BW, A2⟩ := hrel
            by_cases hlt2 : mm < n'
            · have hltz2 : (mm : Int) < (n' : Int) := by omega
              obtain ⟨b, o, rfl, x, hxk, hc⟩ := hs.nth hlt BW.out
              have hxo := hx.out x (List.mem_of_getElem? hxk)
              have ha0 := hc 0 _ rfl
              have ha1 := hc 1 _ rfl
              have ha2 := hc 2 _ rfl
              have HX := Lib.hid hxk
              have A3 := Lib.hid (A2.out x hxk)
              clear hc hxk A2
              obtain ⟨b', o', rfl, y, hyk, hc⟩ := hs'.nth hlt2 BW.out
              have hyo := hy.out y (List.mem_of_getElem? hyk)
              have hc0 := hc 0 _ rfl
              have hc1 := hc 1 _ rfl
              have hc2 := hc 2 _ rfl
              have HY := Lib.hid hyk
              clear hc hyk
              have hM2 := fun W => specWindowsMeet_any x y W
              rw [wmeet_ok hxo hyo] at hM2
              have HH := Lib.hid (show hitW x y = ((meetW x y).2 && (x.wr || y.wr)) from rfl)
              clear hxo hyo
              have l1 : b < wr.heap.size := World.block_lt_of_cell? _ _ ha0
              have l2 : b' < wr.heap.size := World.block_lt_of_cell? _ _ hc0
              generalize meetW x y = m at hM2 HH
              obtain ⟨⟨mb, ms, mw⟩, ok⟩ := m
              obtain ⟨ab, az, aw⟩ := x
              obtain ⟨bb, bz, bw⟩ := y
              simp only [Win.cells, Nat.add_zero, winV, meetV] at ha0 ha1 ha2 hc0 hc1 hc2 hM2 HH
              have n1 := Nat.ne_of_lt l1
              have n2 := Nat.ne_of_lt l2
              go_wp2_with fail
              go_region_with (go_at_call 24; refine (hM2 _).mono ?_; rintro e w2 ⟨rfl, hb2⟩; have hB : Below wr.heap.size wr w2 := thn (by repeat (first | exact Below.refl _ _ | apply alo | apply Below.drew)) hb2; have ga2 := (hB.cell (p := ⟨b, o + kk * 3 + 2, none⟩) l1).trans ha2; have gc2 := (hB.cell (p := ⟨b', o' + mm * 3 + 2, none⟩) l2).trans hc2; have hW2 := thn BW.out hB; have l3 : b < w2.heap.size := World.block_lt_of_cell? _ _ ga2; have l4 : b' < w2.heap.size := World.block_lt_of_cell? _ _ gc2; have l5 : wr.heap.size ≤ w2.heap.size := hB.size; (try (have B0 := ((Blk.new wr 35 #[.int .i64 0, .int .i64 0, .bool false]).drew).below hb2; have z0 := B0.c0; have z1 := B0.c1; have z2 := B0.c2; have zf := B0.frozen)); clear hb2 hB)
              all_goals
                have l6 := BW.out.size
                clear hM2
                cases ok
                · go_wp2
                  go_roundg (n' - (mm + 1))
                  case measure => omega
                  case rel => exact ⟨mm + 1, by omega, by omega, by go_num, (show Aside _ from by repeat (first | exact hW2 | apply alo | (apply Below.setCell; rotate_left; (simp only []; omega)))), (show Aside _ from fun x hx' => by
                    have e := HX.out
                    rw [hx'] at e
                    injection e with e
                    subst e
                    exact all_stepF A3.out HY.out (by rw [HH.out]; rfl))⟩
                · cases aw
                  · cases bw
                    · go_wp2
                      go_roundg (n' - (mm + 1))
                      case measure => omega
                      case rel => exact ⟨mm + 1, by omega, by omega, by go_num, (show Aside _ from by repeat (first | exact hW2 | apply alo | (apply Below.setCell; rotate_left; (simp only []; omega)))), (show Aside _ from fun x hx' => by
                        have e := HX.out
                        rw [hx'] at e
                        injection e with e
                        subst e
                        exact all_stepF A3.out HY.out (by rw [HH.out]; rfl))⟩
                    · go_wp2
                      go_ret
                      exact ⟨by rw [← HV.out, clashW, any_hit HX.out (any_hit HY.out (by rw [HH.out]; simp))]; rfl, by repeat (first | exact hW2 | apply alo | (apply Below.setCell; rotate_left; (simp only []; omega)))⟩
                  · go_wp2
                    go_ret
                    exact ⟨by rw [← HV.out, clashW, any_hit HX.out (any_hit HY.out (by rw [HH.out]; simp))]; rfl, by repeat (first | exact hW2 | apply alo | (apply Below.setCell; rotate_left; (simp only []; omega)))⟩
            · have hltz2 : ¬ (mm : Int) < (n' : Int) := by omega
              obtain rfl : mm = n' := by omega
              go_wp2
              go_roundg (n - (kk + 1))
              case measure => omega
              case rel => exact ⟨kk + 1, by omega, by omega, by go_num, (show Aside _ from BW.out), (show Aside _ from fun j x hj hjx => by
                by_cases e : j = kk
                · subst e; exact any_miss hs'.len (A2.out x hjx)
                · exact AA.out j x (by omega) hjx)⟩
        · have hltz : ¬ (kk : Int) < (n : Int) := by omega
          obtain rfl : kk = n := by omega
          go_wp2
          go_ret
          exact ⟨by rw [← HV.out, clashW, any_miss hs.len AA.out]; rfl, BW.out⟩
end Go.Proofs.Ytmlodhogfejdjaa
