/- LinkValid, LinkNext of impl and spec. -/
import Derived.Test.YtenbpaoelipifaaApp
import Derived.Test.YtenbpaoelipifaaL1In
import Derived.Test.YtenbpaoelipifaaHoldV
import Derived.Test.YtenbpaoelipifaaList
namespace Go.Proofs.Ytenbpaoelipifaa
set_option linter.unusedVariables false
set_option linter.unusedSimpArgs false
open Go.RowKit

def pktsOk (last : Int) : List (Int × Int) → Bool
  | [] => true
  | (d, v) :: l => inB d last 100050 && (inB v 0 255 && pktsOk d l)
def linkOk (delay : Int) (xs : List (Int × Int)) : Bool := pktsOk 0 xs && (inB delay 0 50 && decide ((xs.length : Int) ≤ 20))
theorem drop_at {α : Type} {xs : List α} {k : Nat} {y : α} (h : xs[k]? = some y) : xs.drop k = y :: xs.drop (k + 1) := by
  obtain ⟨hk, e⟩ := List.getElem?_eq_some_iff.1 h
  rw [List.drop_eq_getElem_cons hk, e]
def linkV (delay : Int) (A : Option Addr) (n c : Nat) : Value := .agg #[.int .i64 delay, .slice A n c]

set_option maxHeartbeats 1000000 in
theorem linkValid_any (delay : Int) (A : Option Addr) (n c : Nat) (xs : List (Int × Int)) (w : World) (hs : Sl w 2 eS A n c xs) :
    Calls Try.prog 16 #[linkV delay A n c] w fun e w' => .returned (.bool (linkOk delay xs)) = e ∧ Below w.heap.size w w' := by
  have hle := hs.le
  have hmax := hs.max
  have hb0 := alo (Below.refl w.heap.size w) (.cells #[.int .i64 delay, .slice A n c] 29)
  skip
  have B0 := Blk.new w 29 #[.int .i64 delay, .slice A n c]
  simp only [linkV]
  go_enter Try.func16, Try.ntmps16
  go_wp2
  go_loopg [3, 9] n (fun gg s3 s9 wr => ∃ (kk : Nat) (last : Int), kk ≤ n ∧ n - kk ≤ gg ∧ s3 = .int .i64 last ∧ s9 = .int .i64 kk ∧ Aside (Below w.heap.size w wr) ∧ Aside (Blk wr w.heap.size 29 #[.int .i64 delay, .slice A n c]) ∧ Aside (pktsOk 0 xs = pktsOk last (xs.drop kk)))
  case atStart => exact ⟨0, 0, Nat.zero_le _, by omega, rfl, rfl, (show Aside _ from hb0), (show Aside _ from B0), (show Aside _ from rfl)⟩
  case round =>
    obtain ⟨kk, last, hkk, hg, rfl, rfl, BW, BB, AA⟩ := hrel
    clear B0 hb0
    have B0 := BB.out
    clear BB
    by_cases hlt : kk < n
    · have hltz : (kk : Int) < (n : Int) := by omega
      obtain ⟨b, o, rfl, y, hx, hc⟩ := hs.nth hlt BW.out
      have hc0 := hc 0 _ rfl
      have hc1 := hc 1 _ rfl
      have HD := Lib.hid (drop_at hx)
      clear hc hx
      obtain ⟨yd, yv⟩ := y
      simp only [eS, Nat.add_zero] at hc0 hc1
      have hq1 := fun W => in_any yd last 100050 W
      have hq2 := fun W => isValue_any yv W
      have HQ := Lib.hid (show pktsOk last ((yd, yv) :: xs.drop (kk + 1)) = (inB yd last 100050 && (inB yv 0 255 && pktsOk yd (xs.drop (kk + 1)))) from rfl)
      generalize inB yd last 100050 = v1 at *
      generalize inB yv 0 255 = v2 at *
      cases v1
      · go_wp2_with fail; refine (hq1 _).mono ?_; rintro e w' ⟨rfl, rfl⟩
        go_wp2
        go_ret
        exact ⟨by rw [linkOk, AA.out, HD.out, HQ.out]; rfl, alo BW.out _⟩
      · cases v2
        · go_wp2_with fail; refine (hq1 _).mono ?_; rintro e w' ⟨rfl, rfl⟩
          go_wp2_with fail; refine (hq2 _).mono ?_; rintro e w' ⟨rfl, rfl⟩
          go_wp2
          go_ret
          exact ⟨by rw [linkOk, AA.out, HD.out, HQ.out]; rfl, alo BW.out _⟩
        · go_wp2_with fail; refine (hq1 _).mono ?_; rintro e w' ⟨rfl, rfl⟩
          go_wp2_with fail; refine (hq2 _).mono ?_; rintro e w' ⟨rfl, rfl⟩
          go_wp2
          go_roundg (n - (kk + 1))
          case measure => omega
          case rel => exact ⟨kk + 1, yd, by omega, by omega, rfl, by go_num, (show Aside _ from alo BW.out _), (show Aside _ from B0.alloc _), (show Aside _ from by rw [AA.out, HD.out, HQ.out]; rfl)⟩
    · have hltz : ¬ (kk : Int) < (n : Int) := by omega
      obtain rfl : kk = n := by omega
      have hl := Lib.hid hs.len
      have hq := Lib.hid (show linkOk delay xs = (inB delay 0 50 && decide ((kk : Int) ≤ 20)) by rw [linkOk, AA.out, ← hl.out, List.drop_length]; rfl)
      have hc1 := fun W => in_any delay 0 50 W
      generalize inB delay 0 50 = v1 at *
      clear AA
      cases v1
      · have cB0_0 := B0.c0; have cB0_1 := B0.c1; have fB0 := B0.frozen
        go_wp2_with fail; refine (hc1 _).mono ?_; rintro e w' ⟨rfl, rfl⟩
        go_wp2
        go_ret
        exact ⟨by rw [hq.out]; rfl, BW.out⟩
      · have cB0_0 := B0.c0; have cB0_1 := B0.c1; have fB0 := B0.frozen
        go_wp2_with fail; refine (hc1 _).mono ?_; rintro e w' ⟨rfl, rfl⟩
        go_wp2
        go_ret
        exact ⟨by rw [hq.out]; rfl, BW.out⟩

/-- The due time ahead of place k. -/
def lastAt (xs : List (Int × Int)) : Nat → Int
  | 0 => 0
  | k + 1 => ((xs[k]?).map (·.1)).getD 0
theorem lastAt_succ {xs : List (Int × Int)} {k : Nat} {y : Int × Int} (h : xs[k]? = some y) : lastAt xs (k + 1) = y.1 := by simp [lastAt, h]
theorem inB_last {d last : Int} (h : 0 ≤ last) : inB d last 100050 = (inB d 0 100050 && !decide (d < last)) := by
  rw [Bool.eq_iff_iff]
  simp only [Bool.and_eq_true, inB_true, Bool.not_eq_true', decide_eq_false_iff_not]
  omega

set_option maxHeartbeats 2000000 in
theorem specLinkValid_any (delay : Int) (A : Option Addr) (n c : Nat) (xs : List (Int × Int)) (w : World) (hs : Sl w 2 eS A n c xs) :
    Calls Try.prog 14 #[linkV delay A n c] w fun e w' => .returned (.bool (linkOk delay xs)) = e ∧ Below w.heap.size w w' := by
  have hle := hs.le
  have hmax := hs.max
  have hb0 := alo (Below.refl w.heap.size w) (.cells #[.int .i64 delay, .slice A n c] 29)
  skip
  have B0 := Blk.new w 29 #[.int .i64 delay, .slice A n c]
  simp only [linkV]
  go_enter Try.func14, Try.ntmps14
  go_wp2
  go_loopg [3] n (fun gg s3 wr => ∃ (kk : Nat), kk ≤ n ∧ n - kk ≤ gg ∧ s3 = .int .i64 kk ∧ Aside (Below w.heap.size w wr) ∧ Aside (Blk wr w.heap.size 29 #[.int .i64 delay, .slice A n c]) ∧ Aside (pktsOk 0 xs = pktsOk (lastAt xs kk) (xs.drop kk)) ∧ Aside (0 ≤ lastAt xs kk))
  case atStart => exact ⟨0, Nat.zero_le _, by omega, rfl, (show Aside _ from hb0), (show Aside _ from B0), (show Aside _ from rfl), (show Aside _ from Int.le_refl _)⟩
  case round =>
    obtain ⟨kk, hkk, hg, rfl, BW, BB, AA, LL⟩ := hrel
    clear B0 hb0
    have B0 := BB.out
    clear BB
    by_cases hlt : kk < n
    · have hltz : (kk : Int) < (n : Int) := by omega
      obtain ⟨b, o, rfl, y, hx, hc⟩ := hs.nth hlt BW.out
      have hc0 := hc 0 _ rfl
      have hc1 := hc 1 _ rfl
      have HD := Lib.hid (drop_at hx)
      have HX := Lib.hid (lastAt_succ hx)
      clear hc hx
      obtain ⟨yd, yv⟩ := y
      simp only [eS, Nat.add_zero] at hc0 hc1 HX
      have hq1 := fun W => Calls.flip (l1In_any yd 0 100050 W)
      have hq2 := fun W => Calls.flip (l1In_any yv 0 255 W)
      have HQ := Lib.hid (show pktsOk (lastAt xs kk) ((yd, yv) :: xs.drop (kk + 1)) = ((inB yd 0 100050 && !decide (yd < lastAt xs kk)) && (inB yv 0 255 && pktsOk yd (xs.drop (kk + 1)))) by rw [← inB_last LL.out]; rfl)
      have HN := Lib.hid (fun h : inB yd 0 100050 = true => (inB_true.1 h).1)
      generalize inB yd 0 100050 = v1 at *
      generalize inB yv 0 255 = v2 at *
      have B1 := Blk.new wr 75 #[.int .i64 yd, .int .i64 yv]
      have B0a := B0.alloc (.cells #[.int .i64 yd, .int .i64 yv] 75)
      have hBW := alo BW.out (.cells #[.int .i64 yd, .int .i64 yv] 75)
      have z1 := B0.c1
      have z1a := B0a.c1
      have e0 := B1.c0
      have e1 := B1.c1
      cases v1
      · go_wp2_with fail
        go_quiet ((go_at_call 52; first | with_reducible exact Calls.quiet_of_same (hq1 _) | with_reducible exact Calls.quiet_of_same (hq2 _)))
        go_wp2
        go_ret
        exact ⟨by rw [linkOk, AA.out, HD.out, HQ.out]; rfl, belowDrewN' hBW _⟩
      · cases v2
        · go_wp2_with fail
          go_quiet ((go_at_call 52; first | with_reducible exact Calls.quiet_of_same (hq1 _) | with_reducible exact Calls.quiet_of_same (hq2 _)))
          go_wp2
          go_ret
          exact ⟨by rw [linkOk, AA.out, HD.out, HQ.out, Bool.false_and, Bool.and_false]; rfl, belowDrewN' hBW _⟩
        · have hd0 : 0 ≤ yd := HN.out rfl
          replace hd0 := Lib.hid hd0
          cases kk with
          | zero =>
            simp only [Nat.zero_mul, Nat.add_zero] at hc0 hc1
            go_wp2_with fail
            go_quiet ((go_at_call 52; first | with_reducible exact Calls.quiet_of_same (hq1 _) | with_reducible exact Calls.quiet_of_same (hq2 _)))
            go_wp2
            go_roundg (n - (0 + 1))
            case measure => omega
            case rel => exact ⟨0 + 1, by omega, by omega, by go_num, (show Aside _ from belowDrewN' hBW _), (show Aside _ from B0a), (show Aside _ from by have := hd0.out; rw [AA.out, HD.out, HQ.out, HX.out, lastAt, decide_eq_false (show ¬ yd < 0 by omega)]; rfl), (show Aside _ from by rw [HX.out]; exact hd0.out)⟩
          | succ j =>
            obtain ⟨b', o', hA, y', hx', hc'⟩ := hs.nth (kk := j) (by omega) hBW
            obtain ⟨rfl, rfl⟩ : b = b' ∧ o = o' := by injection hA with hA; injection hA with h1 h2; exact ⟨h1, h2⟩
            have hp0 := hc' 0 _ rfl
            have HP := Lib.hid (lastAt_succ hx')
            clear hc' hx' hA
            obtain ⟨pd, pv⟩ := y'
            simp only [eS, Nat.add_zero] at hp0 HP
            have hj1 : (0 : Int) ≤ (j : Int) := by omega
            have hj2 : (j : Int) < (n : Int) := by omega
            by_cases hgt : yd < pd
            · go_wp2_with fail
              go_quiet ((go_at_call 52; first | with_reducible exact Calls.quiet_of_same (hq1 _) | with_reducible exact Calls.quiet_of_same (hq2 _)))
              go_wp2
              go_ret
              exact ⟨by rw [linkOk, AA.out, HD.out, HQ.out, HP.out, decide_eq_true hgt]; rfl, belowDrewN' hBW _⟩
            · have hgt' : decide (yd < pd) = false := decide_eq_false hgt
              go_wp2_with fail
              go_quiet ((go_at_call 52; first | with_reducible exact Calls.quiet_of_same (hq1 _) | with_reducible exact Calls.quiet_of_same (hq2 _)))
              go_wp2
              go_roundg (n - (j + 1 + 1))
              case measure => omega
              case rel => exact ⟨j + 1 + 1, by omega, by omega, by go_num, (show Aside _ from belowDrewN' hBW _), (show Aside _ from B0a), (show Aside _ from by rw [AA.out, HD.out, HQ.out, HX.out, HP.out, hgt']; rfl), (show Aside _ from by rw [HX.out]; exact hd0.out)⟩
    · have hltz : ¬ (kk : Int) < (n : Int) := by omega
      obtain rfl : kk = n := by omega
      have hl := Lib.hid hs.len
      have hq := Lib.hid (show linkOk delay xs = (inB delay 0 50 && decide ((kk : Int) ≤ 20)) by rw [linkOk, AA.out, ← hl.out, List.drop_length]; rfl)
      have hc1 := fun W => l1In_any delay 0 50 W
      generalize inB delay 0 50 = v1 at *
      clear AA
      cases v1
      · have cB0_0 := B0.c0; have cB0_1 := B0.c1; have fB0 := B0.frozen
        go_wp2_with fail; refine (hc1 _).mono ?_; rintro e w' ⟨rfl, rfl⟩
        go_wp2
        go_ret
        exact ⟨by rw [hq.out]; rfl, BW.out⟩
      · have cB0_0 := B0.c0; have cB0_1 := B0.c1; have fB0 := B0.frozen
        go_wp2_with fail; refine (hc1 _).mono ?_; rintro e w' ⟨rfl, rfl⟩
        go_wp2
        go_ret
        exact ⟨by rw [hq.out]; rfl, BW.out⟩
end Go.Proofs.Ytenbpaoelipifaa
