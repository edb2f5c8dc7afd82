/- The walk of FnWindowsClash. -/
import Derived.Test.YtmlodhogfejdjaaClash
import Derived.Test.YtmlodhogfejdjaaLawWAt
namespace Go.Proofs.Ytmlodhogfejdjaa
open Go.RowKit

theorem hitW_comm (x y : Win) : hitW y x = hitW x y := by
  have h : (meetW y x).2 = (meetW x y).2 := by
    unfold meetW Win.lo Win.hi
    have h1 : (if y.base < x.base then x.base else y.base) = if x.base < y.base then y.base else x.base := by split <;> split <;> omega
    have h2 : (if x.base + x.size < y.base + y.size then x.base + x.size else y.base + y.size) = if y.base + y.size < x.base + x.size then y.base + y.size else x.base + x.size := by split <;> split <;> omega
    rw [h1, h2]
    generalize (if x.base < y.base then y.base else x.base) = lo
    generalize (if y.base + y.size < x.base + x.size then y.base + y.size else x.base + x.size) = hi
    split <;> rfl
  unfold hitW
  rw [h, Bool.or_comm]
theorem clashW_comm (xs ys : List Win) : clashW ys xs = clashW xs ys := by
  rw [Bool.eq_iff_iff]
  simp only [clashW, List.any_eq_true]
  constructor
  · rintro ⟨y, hy, x, hx, h⟩
    exact ⟨x, hx, y, hy, by rw [← hitW_comm]; exact h⟩
  · rintro ⟨y, hy, x, hx, h⟩
    exact ⟨x, hx, y, hy, by rw [← hitW_comm]; exact h⟩
theorem wclash_comm (xs ys : List Win) : wclash ys xs = wclash xs ys := by
  unfold wclash
  rw [clashW_comm]
  cases winsOk xs <;> cases winsOk ys <;> rfl
theorem meet_at {a b : Win} {p : Int} (h1 : a.base ≤ p) (h2 : p ≤ a.base + a.size - 1) (h3 : b.base ≤ p) (h4 : p ≤ b.base + b.size - 1) : (meetW a b).2 = true := by
  have l1 : Win.lo a b ≤ p := by unfold Win.lo; split <;> omega
  have l2 : p + 1 ≤ Win.hi a b := by unfold Win.hi; split <;> omega
  unfold meetW
  rw [if_neg (by omega)]
theorem clash_at {xs ys : List Win} {p : Int} {z z' : Bool} (hz : z = true ∨ z' = true) (h1 : 0 ≤ windowAt xs p z) (h2 : 0 ≤ windowAt ys p z') : clashW xs ys = true := by
  obtain ⟨i, x, _, hx, _, a1, a2, a3, _⟩ := windowAt_hit (xs := xs) (p := p) (z := z) rfl h1
  obtain ⟨j, y, _, hy, _, b1, b2, b3, _⟩ := windowAt_hit (xs := ys) (p := p) (z := z') rfl h2
  refine any_hit hx (any_hit hy ?_)
  unfold hitW
  rw [meet_at a1 a2 b1 b2]
  rcases hz with rfl | rfl
  · rcases a3 with h | h
    · simp [h]
    · cases h
  · rcases b3 with h | h
    · simp [h]
    · cases h

set_option maxHeartbeats 4000000 in
theorem lawWindowsClash (A : Option Addr) (n c : Nat) (zs : List Int) (w : World) (h : Code w A n c zs) :
    Calls Try.prog 11 #[.slice A n c] w fun e w' => .returned (.bool true) = e ∧ Below w.heap.size w w' := by
  have hle := h.le
  have hmax := h.max
  by_cases hn : n ≤ 1048576
  · have hdraw := drawWindowsClash_any A n c zs w h
    clear h
    go_enter Try.func11, Try.ntmps11
    go_wp2_with fail
    refine hdraw.mono ?_
    rintro e w1 ⟨⟨⟨A1, n1, c1, xs⟩, ⟨A2, n2, c2, ys⟩⟩, rfl, ⟨hsl, _, _, _⟩, _, _, ⟨hsm, _, _, _⟩, _, _, hb⟩
    clear hdraw
    simp only [slV2, SV.v] at hsl hsm ⊢
    have hI := fun W hW => windowsClash_any A1 A2 n1 n2 c1 c2 xs ys W (hsl.below hW) (hsm.below hW)
    have hS := fun W hW => specWindowsClash_any A1 A2 n1 n2 c1 c2 xs ys W (hsl.below hW) (hsm.below hW)
    have hJ := fun W hW => windowsClash_any A2 A1 n2 n1 c2 c1 ys xs W (hsm.below hW) (hsl.below hW)
    rw [wclash_comm] at hJ
    have hV1 := fun W hW => specWindowsValid_any A1 n1 c1 xs W (hsl.below hW)
    have hV2 := fun W hW => specWindowsValid_any A2 n2 c2 ys W (hsm.below hW)
    have hA := fun p z W hW => windowAt_any A1 n1 c1 xs p z W (hsl.below hW)
    have hB := fun p z W hW => windowAt_any A2 n2 c2 ys p z W (hsm.below hW)
    have HC := Lib.hid (show wclash xs ys = (winsOk xs && (winsOk ys && clashW xs ys)) from rfl)
    clear hsl hsm
    generalize wclash xs ys = v at *
    generalize winsOk xs = o1 at *
    generalize winsOk ys = o2 at *
    skip
    have hb0 := Below.refl w1.heap.size w1
    go_wp2_with fail; refine (hI _ hb0).mono ?_; rintro e w2 ⟨rfl, hbw2⟩
    replace hb0 := hbw2
    go_wp2_with fail; refine (hS _ hb0).mono ?_; rintro e w3 ⟨rfl, hbw3⟩
    replace hb0 := thn hb0 hbw3
    clear hI hS hbw2 hbw3
    go_wp2_with fail; refine (hJ _ hb0).mono ?_; rintro e w4 ⟨rfl, hbw4⟩
    replace hb0 := thn hb0 hbw4
    clear hJ hbw4
    cases o1
    · obtain rfl : v = false := HC.out
      clear hA hB HC hV2
      go_wp2_with fail; refine (hV1 _ hb0).mono ?_; rintro e w5 ⟨rfl, hbw5⟩
      replace hb0 := thn hb0 hbw5
      go_wp2_with fail; refine (alive_any _).mono ?_; rintro e w6 ⟨rfl, hbw6⟩
      go_wp2
      go_ret
      exact ⟨rfl, thn hb (thn hb0 hbw6)⟩
    · cases o2
      · obtain rfl : v = false := HC.out
        clear hA hB HC
        go_wp2_with fail; refine (hV1 _ hb0).mono ?_; rintro e w5 ⟨rfl, hbw5⟩
        replace hb0 := thn hb0 hbw5
        go_wp2_with fail; refine (hV2 _ hb0).mono ?_; rintro e w5b ⟨rfl, hbw5b⟩
        replace hb0 := thn hb0 hbw5b
        go_wp2_with fail; refine (alive_any _).mono ?_; rintro e w6 ⟨rfl, hbw6⟩
        go_wp2
        go_ret
        exact ⟨rfl, thn hb (thn hb0 hbw6)⟩
      · replace HC := Lib.hid (show v = clashW xs ys by rw [HC.out]; simp)
        go_wp2_with fail; refine (hV1 _ hb0).mono ?_; rintro e w5 ⟨rfl, hbw5⟩
        replace hb0 := thn hb0 hbw5
        go_wp2_with fail; refine (hV2 _ hb0).mono ?_; rintro e w5b ⟨rfl, hbw5b⟩
        replace hb0 := thn hb0 hbw5b
        clear hV1 hV2 hbw5 hbw5b
        go_wp2
        go_loopg [6, 7] 64 (fun gg s6 s7 wr => ∃ (kk : Nat) (f : Bool), kk ≤ 64 ∧ 64 - kk ≤ gg ∧ s6 = .bool f ∧ s7 = .int .i64 kk ∧ Aside (Below w1.heap.size w1 wr) ∧ Aside (f = true → clashW xs ys = true))
        case atStart => exact ⟨0, false, by omega, by omega, rfl, rfl, (show Aside _ from hb0), (show Aside _ from fun e => by cases e)⟩
        case round =>
          clear hb0
          obtain ⟨kk, f, hkk, hg, rfl, rfl, BW, FF⟩ := hrel
          by_cases hlt : kk < 64
          · have hltz : (kk : Int) < 64 := by omega
            have hb0 := BW.out
            have h1 := hA (kk : Int) false
            have h2 := hB (kk : Int) true
            have h3 := hA (kk : Int) true
            have h4 := hB (kk : Int) false
            have Hc1 := Lib.hid (fun a b => clash_at (xs := xs) (ys := ys) (p := (kk : Int)) (z := false) (z' := true) (.inr rfl) a b)
            have Hc2 := Lib.hid (fun a b => clash_at (xs := xs) (ys := ys) (p := (kk : Int)) (z := true) (z' := false) (.inl rfl) a b)
            clear hA hB
            generalize windowAt xs (kk : Int) false = v1 at *
            generalize windowAt ys (kk : Int) true = v2 at *
            generalize windowAt xs (kk : Int) true = v3 at *
            generalize windowAt ys (kk : Int) false = v4 at *
            cases f
            · by_cases g1 : v1 < 0
              · go_wp2_with fail; refine (h1 _ hb0).mono ?_; rintro e w4 ⟨rfl, hbw4⟩
                replace hb0 := thn hb0 hbw4
                clear hbw4
                by_cases g3 : v3 < 0
                · go_wp2_with fail; refine (h3 _ hb0).mono ?_; rintro e w6 ⟨rfl, hbw6⟩
                  replace hb0 := thn hb0 hbw6
                  go_wp2
                  go_roundg (64 - (kk + 1))
                  case measure => omega
                  case rel => exact ⟨kk + 1, false, by omega, by omega, (by first | rfl | (simp; done) | (simp; omega)), by go_num, (show Aside _ from hb0), (show Aside _ from fun e => by cases e)⟩
                · by_cases g4 : v4 < 0
                  · go_wp2_with fail; refine (h3 _ hb0).mono ?_; rintro e w6 ⟨rfl, hbw6⟩
                    replace hb0 := thn hb0 hbw6
                    go_wp2_with fail; refine (h4 _ hb0).mono ?_; rintro e w7 ⟨rfl, hbw7⟩
                    replace hb0 := thn hb0 hbw7
                    go_wp2
                    go_roundg (64 - (kk + 1))
                    case measure => omega
                    case rel => exact ⟨kk + 1, false, by omega, by omega, (by first | rfl | (simp; done) | (simp; omega)), by go_num, (show Aside _ from hb0), (show Aside _ from fun e => by cases e)⟩
                  · have hc2 := Hc2.out (by omega) (by omega)
                    go_wp2_with fail; refine (h3 _ hb0).mono ?_; rintro e w6 ⟨rfl, hbw6⟩
                    replace hb0 := thn hb0 hbw6
                    go_wp2_with fail; refine (h4 _ hb0).mono ?_; rintro e w7 ⟨rfl, hbw7⟩
                    replace hb0 := thn hb0 hbw7
                    go_wp2
                    go_roundg (64 - (kk + 1))
                    case measure => omega
                    case rel => exact ⟨kk + 1, true, by omega, by omega, (by first | rfl | (simp; done) | (simp; omega)), by go_num, (show Aside _ from hb0), (show Aside _ from fun _ => hc2)⟩
              · by_cases g2 : v2 < 0
                · go_wp2_with fail; refine (h1 _ hb0).mono ?_; rintro e w4 ⟨rfl, hbw4⟩
                  replace hb0 := thn hb0 hbw4
                  clear hbw4
                  go_wp2_with fail; refine (h2 _ hb0).mono ?_; rintro e w5 ⟨rfl, hbw5⟩
                  replace hb0 := thn hb0 hbw5
                  clear hbw5
                  by_cases g3 : v3 < 0
                  · go_wp2_with fail; refine (h3 _ hb0).mono ?_; rintro e w6 ⟨rfl, hbw6⟩
                    replace hb0 := thn hb0 hbw6
                    go_wp2
                    go_roundg (64 - (kk + 1))
                    case measure => omega
                    case rel => exact ⟨kk + 1, false, by omega, by omega, (by first | rfl | (simp; done) | (simp; omega)), by go_num, (show Aside _ from hb0), (show Aside _ from fun e => by cases e)⟩
                  · by_cases g4 : v4 < 0
                    · go_wp2_with fail; refine (h3 _ hb0).mono ?_; rintro e w6 ⟨rfl, hbw6⟩
                      replace hb0 := thn hb0 hbw6
                      go_wp2_with fail; refine (h4 _ hb0).mono ?_; rintro e w7 ⟨rfl, hbw7⟩
                      replace hb0 := thn hb0 hbw7
                      go_wp2
                      go_roundg (64 - (kk + 1))
                      case measure => omega
                      case rel => exact ⟨kk + 1, false, by omega, by omega, (by first | rfl | (simp; done) | (simp; omega)), by go_num, (show Aside _ from hb0), (show Aside _ from fun e => by cases e)⟩
                    · have hc2 := Hc2.out (by omega) (by omega)
                      go_wp2_with fail; refine (h3 _ hb0).mono ?_; rintro e w6 ⟨rfl, hbw6⟩
                      replace hb0 := thn hb0 hbw6
                      go_wp2_with fail; refine (h4 _ hb0).mono ?_; rintro e w7 ⟨rfl, hbw7⟩
                      replace hb0 := thn hb0 hbw7
                      go_wp2
                      go_roundg (64 - (kk + 1))
                      case measure => omega
                      case rel => exact ⟨kk + 1, true, by omega, by omega, (by first | rfl | (simp; done) | (simp; omega)), by go_num, (show Aside _ from hb0), (show Aside _ from fun _ => hc2)⟩
                · have hc1 := Lib.hid (Hc1.out (by omega) (by omega))
                  go_wp2_with fail; refine (h1 _ hb0).mono ?_; rintro e w4 ⟨rfl, hbw4⟩
                  replace hb0 := thn hb0 hbw4
                  clear hbw4
                  go_wp2_with fail; refine (h2 _ hb0).mono ?_; rintro e w5 ⟨rfl, hbw5⟩
                  replace hb0 := thn hb0 hbw5
                  clear hbw5
                  by_cases g3 : v3 < 0
                  · go_wp2_with fail; refine (h3 _ hb0).mono ?_; rintro e w6 ⟨rfl, hbw6⟩
                    replace hb0 := thn hb0 hbw6
                    go_wp2
                    go_roundg (64 - (kk + 1))
                    case measure => omega
                    case rel => exact ⟨kk + 1, true, by omega, by omega, (by first | rfl | (simp; done) | (simp; omega)), by go_num, (show Aside _ from hb0), (show Aside _ from fun _ => hc1.out)⟩
                  · by_cases g4 : v4 < 0
                    · go_wp2_with fail; refine (h3 _ hb0).mono ?_; rintro e w6 ⟨rfl, hbw6⟩
                      replace hb0 := thn hb0 hbw6
                      go_wp2_with fail; refine (h4 _ hb0).mono ?_; rintro e w7 ⟨rfl, hbw7⟩
                      replace hb0 := thn hb0 hbw7
                      go_wp2
                      go_roundg (64 - (kk + 1))
                      case measure => omega
                      case rel => exact ⟨kk + 1, true, by omega, by omega, (by first | rfl | (simp; done) | (simp; omega)), by go_num, (show Aside _ from hb0), (show Aside _ from fun _ => hc1.out)⟩
                    · have hc2 := Hc2.out (by omega) (by omega)
                      go_wp2_with fail; refine (h3 _ hb0).mono ?_; rintro e w6 ⟨rfl, hbw6⟩
                      replace hb0 := thn hb0 hbw6
                      go_wp2_with fail; refine (h4 _ hb0).mono ?_; rintro e w7 ⟨rfl, hbw7⟩
                      replace hb0 := thn hb0 hbw7
                      go_wp2
                      go_roundg (64 - (kk + 1))
                      case measure => omega
                      case rel => exact ⟨kk + 1, true, by omega, by omega, (by first | rfl | (simp; done) | (simp; omega)), by go_num, (show Aside _ from hb0), (show Aside _ from fun _ => hc2)⟩
            · have hf := Lib.hid (FF.out rfl)
              by_cases g1 : v1 < 0
              · go_wp2_with fail; refine (h1 _ hb0).mono ?_; rintro e w4 ⟨rfl, hbw4⟩
                replace hb0 := thn hb0 hbw4
                clear hbw4
                by_cases g3 : v3 < 0
                · go_wp2_with fail; refine (h3 _ hb0).mono ?_; rintro e w6 ⟨rfl, hbw6⟩
                  replace hb0 := thn hb0 hbw6
                  go_wp2
                  go_roundg (64 - (kk + 1))
                  case measure => omega
                  case rel => exact ⟨kk + 1, true, by omega, by omega, (by first | rfl | (simp; done) | (simp; omega)), by go_num, (show Aside _ from hb0), (show Aside _ from fun _ => hf.out)⟩
                · by_cases g4 : v4 < 0
                  · go_wp2_with fail; refine (h3 _ hb0).mono ?_; rintro e w6 ⟨rfl, hbw6⟩
                    replace hb0 := thn hb0 hbw6
                    go_wp2_with fail; refine (h4 _ hb0).mono ?_; rintro e w7 ⟨rfl, hbw7⟩
                    replace hb0 := thn hb0 hbw7
                    go_wp2
                    go_roundg (64 - (kk + 1))
                    case measure => omega
                    case rel => exact ⟨kk + 1, true, by omega, by omega, (by first | rfl | (simp; done) | (simp; omega)), by go_num, (show Aside _ from hb0), (show Aside _ from fun _ => hf.out)⟩
                  · have hc2 := Hc2.out (by omega) (by omega)
                    go_wp2_with fail; refine (h3 _ hb0).mono ?_; rintro e w6 ⟨rfl, hbw6⟩
                    replace hb0 := thn hb0 hbw6
                    go_wp2_with fail; refine (h4 _ hb0).mono ?_; rintro e w7 ⟨rfl, hbw7⟩
                    replace hb0 := thn hb0 hbw7
                    go_wp2
                    go_roundg (64 - (kk + 1))
                    case measure => omega
                    case rel => exact ⟨kk + 1, true, by omega, by omega, (by first | rfl | (simp; done) | (simp; omega)), by go_num, (show Aside _ from hb0), (show Aside _ from fun _ => hc2)⟩
              · by_cases g2 : v2 < 0
                · go_wp2_with fail; refine (h1 _ hb0).mono ?_; rintro e w4 ⟨rfl, hbw4⟩
                  replace hb0 := thn hb0 hbw4
                  clear hbw4
                  go_wp2_with fail; refine (h2 _ hb0).mono ?_; rintro e w5 ⟨rfl, hbw5⟩
                  replace hb0 := thn hb0 hbw5
                  clear hbw5
                  by_cases g3 : v3 < 0
                  · go_wp2_with fail; refine (h3 _ hb0).mono ?_; rintro e w6 ⟨rfl, hbw6⟩
                    replace hb0 := thn hb0 hbw6
                    go_wp2
                    go_roundg (64 - (kk + 1))
                    case measure => omega
                    case rel => exact ⟨kk + 1, true, by omega, by omega, (by first | rfl | (simp; done) | (simp; omega)), by go_num, (show Aside _ from hb0), (show Aside _ from fun _ => hf.out)⟩
                  · by_cases g4 : v4 < 0
                    · go_wp2_with fail; refine (h3 _ hb0).mono ?_; rintro e w6 ⟨rfl, hbw6⟩
                      replace hb0 := thn hb0 hbw6
                      go_wp2_with fail; refine (h4 _ hb0).mono ?_; rintro e w7 ⟨rfl, hbw7⟩
                      replace hb0 := thn hb0 hbw7
                      go_wp2
                      go_roundg (64 - (kk + 1))
                      case measure => omega
                      case rel => exact ⟨kk + 1, true, by omega, by omega, (by first | rfl | (simp; done) | (simp; omega)), by go_num, (show Aside _ from hb0), (show Aside _ from fun _ => hf.out)⟩
                    · have hc2 := Hc2.out (by omega) (by omega)
                      go_wp2_with fail; refine (h3 _ hb0).mono ?_; rintro e w6 ⟨rfl, hbw6⟩
                      replace hb0 := thn hb0 hbw6
                      go_wp2_with fail; refine (h4 _ hb0).mono ?_; rintro e w7 ⟨rfl, hbw7⟩
                      replace hb0 := thn hb0 hbw7
                      go_wp2
                      go_roundg (64 - (kk + 1))
                      case measure => omega
                      case rel => exact ⟨kk + 1, true, by omega, by omega, (by first | rfl | (simp; done) | (simp; omega)), by go_num, (show Aside _ from hb0), (show Aside _ from fun _ => hc2)⟩
                · have hc1 := Lib.hid (Hc1.out (by omega) (by omega))
                  go_wp2_with fail; refine (h1 _ hb0).mono ?_; rintro e w4 ⟨rfl, hbw4⟩
                  replace hb0 := thn hb0 hbw4
                  clear hbw4
                  go_wp2_with fail; refine (h2 _ hb0).mono ?_; rintro e w5 ⟨rfl, hbw5⟩
                  replace hb0 := thn hb0 hbw5
                  clear hbw5
                  by_cases g3 : v3 < 0
                  · go_wp2_with fail; refine (h3 _ hb0).mono ?_; rintro e w6 ⟨rfl, hbw6⟩
                    replace hb0 := thn hb0 hbw6
                    go_wp2
                    go_roundg (64 - (kk + 1))
                    case measure => omega
                    case rel => exact ⟨kk + 1, true, by omega, by omega, (by first | rfl | (simp; done) | (simp; omega)), by go_num, (show Aside _ from hb0), (show Aside _ from fun _ => hc1.out)⟩
                  · by_cases g4 : v4 < 0
                    · go_wp2_with fail; refine (h3 _ hb0).mono ?_; rintro e w6 ⟨rfl, hbw6⟩
                      replace hb0 := thn hb0 hbw6
                      go_wp2_with fail; refine (h4 _ hb0).mono ?_; rintro e w7 ⟨rfl, hbw7⟩
                      replace hb0 := thn hb0 hbw7
                      go_wp2
                      go_roundg (64 - (kk + 1))
                      case measure => omega
                      case rel => exact ⟨kk + 1, true, by omega, by omega, (by first | rfl | (simp; done) | (simp; omega)), by go_num, (show Aside _ from hb0), (show Aside _ from fun _ => hc1.out)⟩
                    · have hc2 := Hc2.out (by omega) (by omega)
                      go_wp2_with fail; refine (h3 _ hb0).mono ?_; rintro e w6 ⟨rfl, hbw6⟩
                      replace hb0 := thn hb0 hbw6
                      go_wp2_with fail; refine (h4 _ hb0).mono ?_; rintro e w7 ⟨rfl, hbw7⟩
                      replace hb0 := thn hb0 hbw7
                      go_wp2
                      go_roundg (64 - (kk + 1))
                      case measure => omega
                      case rel => exact ⟨kk + 1, true, by omega, by omega, (by first | rfl | (simp; done) | (simp; omega)), by go_num, (show Aside _ from hb0), (show Aside _ from fun _ => hc2)⟩
          · have hltz : ¬ (kk : Int) < 64 := by omega
            clear hA hB
            cases f
            · go_wp2
              go_ret
              exact ⟨rfl, thn hb BW.out⟩
            · have hvt : v = true := by rw [HC.out]; exact FF.out rfl
              subst hvt
              go_wp2
              go_ret
              exact ⟨rfl, thn hb BW.out⟩
  · clear h
    go_enter Try.func11, Try.ntmps11
    go_wp2
    go_ret
    exact ⟨rfl, Below.refl _ _⟩
end Go.Proofs.Ytmlodhogfejdjaa
