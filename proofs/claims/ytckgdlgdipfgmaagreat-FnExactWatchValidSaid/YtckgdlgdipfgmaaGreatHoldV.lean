/- HoldValid of impl and spec. -/
import Derived.Test.YtckgdlgdipfgmaaGreatSel
import Derived.Test.YtckgdlgdipfgmaaGreatL1In
import Derived.Test.YtckgdlgdipfgmaaGreatIdxInt
namespace Go.Proofs.YtckgdlgdipfgmaaGreat
set_option linter.unusedVariables false
set_option linter.unusedSimpArgs false
open Go.RowKit Go.Shelf

def sizedOk (kind size : Int) : Bool := (kind == 1 && size == 1) || ((kind == 2 || kind == 3) && inB size 1 4)
def holdOk (xs : List Int) (kind size : Int) : Bool := sizedOk kind size && (decide ((xs.length : Int) ≤ size) && xs.all fun x => inB x 0 255)
theorem any_notH (p : Int → Bool) (xs : List Int) : (!xs.any fun x => !p x) = xs.all p := by
  induction xs with
  | nil => rfl
  | cons a l ih => simp [← ih]

theorem sized_any (kind size : Int) (w : World) : Calls Tryz.prog 129 #[.int .i64 kind, .int .i64 size] w fun e w' => .returned (.bool (sizedOk kind size)) = e ∧ w = w' := by
  unfold sizedOk
  by_cases h1 : kind = 1
  · subst h1
    by_cases h2 : size = 1
    · subst h2
      go_enter Tryz.func129, Tryz.ntmps129
      go_wp2
      go_ret
      exact ⟨rfl, rfl⟩
    · have h3 : (size == (1 : Int)) = false := by simpa using h2
      rw [h3]
      clear h2
      go_enter Tryz.func129, Tryz.ntmps129
      go_wp2
      go_ret
      exact ⟨by simp, rfl⟩
  · have h3 : (kind == (1 : Int)) = false := by simpa using h1
    rw [h3]
    clear h1
    have hc := fun W => in_any size 1 4 W
    generalize inB size 1 4 = v at *
    by_cases h1 : kind = 2
    · subst h1
      go_enter Tryz.func129, Tryz.ntmps129
      go_wp2_with fail
      refine (hc _).mono ?_; rintro e w' ⟨rfl, rfl⟩
      go_wp2
      go_ret
      exact ⟨by simp, rfl⟩
    · have h4 : (kind == (2 : Int)) = false := by simpa using h1
      rw [h4]
      clear h1
      by_cases h1 : kind = 3
      · subst h1
        go_enter Tryz.func129, Tryz.ntmps129
        go_wp2_with fail
        refine (hc _).mono ?_; rintro e w' ⟨rfl, rfl⟩
        go_wp2
        go_ret
        exact ⟨by simp, rfl⟩
      · have h5 : (kind == (3 : Int)) = false := by simpa using h1
        rw [h5]
        clear h1 hc
        go_enter Tryz.func129, Tryz.ntmps129
        go_wp2
        go_ret
        exact ⟨by simp, rfl⟩

theorem isValue_any (n : Int) (w : World) : Calls Tryz.prog 128 #[.int .i64 n] w fun e w' => .returned (.bool (inB n 0 255)) = e ∧ w = w' := by
  go_enter Tryz.func128, Tryz.ntmps128
  go_wp2_with (go_at_call 79; refine (in_any _ _ _ _).mono ?_; rintro e w1 ⟨rfl, rfl⟩)
  go_ret
  exact ⟨rfl, rfl⟩
theorem holdBad_any (n : Int) (w : World) : Calls Tryz.prog 130 #[.int .i64 n] w fun e w' => .returned (.bool (!inB n 0 255)) = e ∧ Below w.heap.size w w' := by
  go_enter Tryz.func130, Tryz.ntmps130
  go_wp2_with (go_at_call 128; refine (isValue_any _ _).mono ?_; rintro e w1 ⟨rfl, rfl⟩)
  go_ret
  exact ⟨rfl, Below.refl _ _⟩
theorem enters_hold (args : Array Value) (w : World) : (callFunc 130 args).run Tryz.prog w = .ok (.enter 130 args) w := enters_of Tryz.func130 (by kernel_rfl) rfl args w

theorem holdValid_any (A : Option Addr) (n c : Nat) (xs : List Int) (kind size : Int) (w : World) (hs : Sl w 1 eI A n c xs) :
    Calls Tryz.prog 101 #[.agg #[.slice A n c], .int .i64 kind, .int .i64 size] w fun e w' => .returned (.bool (holdOk xs kind size)) = e ∧ Below w.heap.size w w' := by
  have hl := hs.len
  have hle := hs.le
  have hmax := hs.max
  have hB1 := (Below.refl w.heap.size w).alloc (Nat.le_refl _) (.cells #[.slice A n c] 80)
  unfold holdOk
  rw [hl, ← any_notH]
  have hc1 := fun W => sized_any kind size W
  have hc2 := containsInt (fun x => !inB x 0 255) _ #[] enters_hold A n c xs _ (fun _ => True) (fun _ _ => trivial) (fun W x _ _ => holdBad_any x W) (hs.below hB1)
  generalize sizedOk kind size = v1 at *
  generalize (xs.any fun x => !inB x 0 255) = v2 at *
  clear hs hl
  cases v1
  · clear hc2
    go_enter Tryz.func101, Tryz.ntmps101
    go_wp2_with fail
    refine (hc1 _).mono ?_; rintro e w' ⟨rfl, rfl⟩
    go_wp2
    go_ret
    exact ⟨rfl, hB1⟩
  · by_cases h : (n : Int) ≤ size
    · go_enter Tryz.func101, Tryz.ntmps101
      go_wp2_with fail
      refine (hc1 _).mono ?_; rintro e w' ⟨rfl, rfl⟩
      go_wp2_with fail
      refine hc2.mono ?_; rintro e w2 ⟨rfl, hb2⟩
      go_wp2
      go_ret
      exact ⟨by rw [decide_eq_true h]; cases v2 <;> rfl, thn hB1 hb2⟩
    · clear hc2
      have h' : decide ((n : Int) ≤ size) = false := by simpa using h
      go_enter Tryz.func101, Tryz.ntmps101
      go_wp2_with fail
      refine (hc1 _).mono ?_; rintro e w' ⟨rfl, rfl⟩
      go_wp2
      go_ret
      exact ⟨by rw [h']; rfl, hB1⟩

theorem specHoldValid_any (A : Option Addr) (n c : Nat) (xs : List Int) (kind size : Int) (w : World) (hs : Sl w 1 eI A n c xs) :
    Calls Tryz.prog 70 #[.agg #[.slice A n c], .int .i64 kind, .int .i64 size] w fun e w' => .returned (.bool (holdOk xs kind size)) = e ∧ Below w.heap.size w w' := by
  have hle := hs.le
  have hmax := hs.max
  have hB1 := (Below.refl w.heap.size w).alloc (Nat.le_refl _) (.cells #[.slice A n c] 80)
  go_enter Tryz.func70, Tryz.ntmps70
  go_wp2
  go_loopg [7] n (fun gg s3 wr => ∃ kk : Nat, kk ≤ n ∧ n - kk ≤ gg ∧ s3 = .int .i64 kk ∧ Aside (w.alloc (.cells #[.slice A n c] 80) = wr) ∧ Aside (∀ j y, j < kk → xs[j]? = some y → (fun x => inB x 0 255) y = true))
  case atStart => exact ⟨0, Nat.zero_le _, by omega, rfl, (show Aside _ from rfl), fun j _ hj => absurd hj (Nat.not_lt_zero _)⟩
  case round =>
    obtain ⟨kk, hkk, hg, rfl, BW, AA⟩ := hrel
    have hw := BW.out
    clear BW
    subst hw
    have BW : Aside (Below w.heap.size w (w.alloc (.cells #[.slice A n c] 80))) := hB1
    clear hB1
    by_cases hlt : kk < n
    · have hltz : (kk : Int) < (n : Int) := by omega
      obtain ⟨b, o, rfl, hb, hc⟩ := hs.cells (by omega)
      have hlx : kk < xs.length := by have := hs.len; omega
      have hx : xs[kk]? = some xs[kk] := List.getElem?_eq_getElem hlx
      have hc0 := (BW.out.cell (p := ⟨b, o + kk * 1 + 0, none⟩) hb).trans (hc kk _ hx 0 _ rfl)
      clear hc
      have HX := Lib.hid hx
      clear hx
      generalize xs[kk] = y at hc0 HX
      simp only [eI, Nat.add_zero, Nat.mul_one] at hc0
      have hc1 := fun W => l1In_any y 0 255 W
      cases hq : inB y 0 255
      all_goals
        simp only [hq] at hc1
        have HQ := Lib.hid hq
        clear hq
        go_wp2_with fail
        refine (hc1 _).mono ?_
        rintro e w' ⟨rfl, rfl⟩
        go_wp2
      · go_ret
        exact ⟨by rw [holdOk, all_fails HX.out HQ.out, Bool.and_false, Bool.and_false]; rfl, BW.out⟩
      · go_roundg (n - (kk + 1))
        case measure => omega
        case rel => exact ⟨kk + 1, by omega, by omega, by go_num, (show Aside _ from rfl), (show Aside _ from all_step AA.out HX.out HQ.out)⟩
    · have hltz : ¬ (kk : Int) < (n : Int) := by omega
      obtain rfl : kk = n := by omega
      have hl := Lib.hid hs.len
      have hc1 := fun W => l1In_any kind 1 3 W
      have hc2 := fun W => l1In_any size 1 4 W
      have hq := Lib.hid (show holdOk xs kind size = (inB kind 1 3 && (inB size 1 4 && ((!(kind == 1) || size == 1) && decide ((kk : Int) ≤ size)))) by
        rw [holdOk, all_holds hl.out AA.out, hl.out, Bool.and_true, Bool.eq_iff_iff]
        simp only [sizedOk, Bool.and_eq_true, Bool.or_eq_true, beq_iff_eq, inB_true, Bool.not_eq_true', decide_eq_true_eq, beq_eq_false_iff_ne]
        omega)
      generalize inB kind 1 3 = v1 at *
      generalize inB size 1 4 = v2 at *
      cases v1
      · go_wp2_with fail
        refine (hc1 _).mono ?_; rintro e w' ⟨rfl, rfl⟩
        go_wp2
        go_ret
        exact ⟨by rw [hq.out]; rfl, BW.out⟩
      · cases v2
        · go_wp2_with fail
          refine (hc1 _).mono ?_; rintro e w' ⟨rfl, rfl⟩
          go_wp2_with fail
          refine (hc2 _).mono ?_; rintro e w' ⟨rfl, rfl⟩
          go_wp2
          go_ret
          exact ⟨by rw [hq.out]; rfl, BW.out⟩
        · by_cases h1 : kind = 1
          · subst h1
            by_cases h2 : size = 1
            · subst h2
              go_wp2_with fail
              refine (hc1 _).mono ?_; rintro e w' ⟨rfl, rfl⟩
              go_wp2_with fail
              refine (hc2 _).mono ?_; rintro e w' ⟨rfl, rfl⟩
              go_wp2
              go_ret
              exact ⟨by rw [hq.out]; simp, BW.out⟩
            · have h3 : (size == (1 : Int)) = false := by simpa using h2
              go_wp2_with fail
              refine (hc1 _).mono ?_; rintro e w' ⟨rfl, rfl⟩
              go_wp2_with fail
              refine (hc2 _).mono ?_; rintro e w' ⟨rfl, rfl⟩
              go_wp2
              go_ret
              exact ⟨by rw [hq.out]; simp [h2], BW.out⟩
          · have h3 : (kind == (1 : Int)) = false := by simpa using h1
            have h4 : (kind != (1 : Int)) = true := by simpa using h1
            go_wp2_with fail
            refine (hc1 _).mono ?_; rintro e w' ⟨rfl, rfl⟩
            go_wp2_with fail
            refine (hc2 _).mono ?_; rintro e w' ⟨rfl, rfl⟩
            go_wp2
            go_ret
            exact ⟨by rw [hq.out]; simp [h1], BW.out⟩
end Go.Proofs.YtckgdlgdipfgmaaGreat
