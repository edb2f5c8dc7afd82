/- CacheValid of impl and spec. -/
import Derived.Test.YtffhcifeccdfjaaApp
import Derived.Test.YtffhcifeccdfjaaL1In
import Derived.Test.YtffhcifeccdfjaaVProg
import Derived.Test.YtffhcifeccdfjaaList
namespace Go.Proofs.Ytffhcifeccdfjaa
set_option linter.unusedVariables false
set_option linter.unusedSimpArgs false
open Go.RowKit

def linedN (n : Nat) : Bool := n == 1 || n == 2 || n == 4 || n == 8 || n == 16
def lineOk (n k : Nat) (x : Int) : Bool := x == -1 || (inB x 0 255 && x % n == (k : Int))
def cacheOk (xs : List Int) : Bool := ((List.range xs.length).all fun k => lineOk xs.length k (xs.getD k 0)) && linedN xs.length
theorem cache_bad {xs : List Int} {n k : Nat} {y : Int} (hn : xs.length = n) (hx : xs[k]? = some y) (h : lineOk n k y = false) : cacheOk xs = false := by
  have hk := (List.getElem?_eq_some_iff.1 hx).1
  unfold cacheOk
  rw [Bool.and_eq_false_iff]
  refine .inl (List.all_eq_false.2 ⟨k, List.mem_range.2 hk, ?_⟩)
  rw [List.getD_eq_getElem?_getD, hx, hn]
  simp [h]
theorem cache_good {xs : List Int} {n : Nat} (hn : xs.length = n) (h : ∀ j y, j < n → xs[j]? = some y → lineOk n j y = true) : cacheOk xs = linedN n := by
  unfold cacheOk
  rw [hn, List.all_eq_true.2, Bool.true_and]
  intro j hj
  have hj := List.mem_range.1 hj
  have e : xs[j]? = some xs[j] := List.getElem?_eq_getElem (by omega)
  rw [List.getD_eq_getElem?_getD, e]
  exact h j _ hj e
theorem all_stepT {p : Nat → Int → Bool} {xs : List Int} {kk : Nat} {y : Int} (h : ∀ j z, j < kk → xs[j]? = some z → p j z = true) (hx : xs[kk]? = some y) (hp : p kk y = true) : ∀ j z, j < kk + 1 → xs[j]? = some z → p j z = true := by
  intro j z hj hz
  by_cases e : j = kk
  · subst e; rw [hx] at hz; injection hz with hz; rw [← hz]; exact hp
  · exact h j z (by omega) hz
theorem lined_any (n : Nat) (w : World) :
    Calls Try.prog 55 #[.int .i64 n] w fun e w' => .returned (.bool (linedN n)) = e ∧ w = w' := by
  by_cases h1 : n = 1
  · subst h1; go_enter Try.func55, Try.ntmps55; go_wp2; go_ret; exact ⟨rfl, rfl⟩
  by_cases h2 : n = 2
  · subst h2; go_enter Try.func55, Try.ntmps55; go_wp2; go_ret; exact ⟨rfl, rfl⟩
  by_cases h3 : n = 4
  · subst h3; go_enter Try.func55, Try.ntmps55; go_wp2; go_ret; exact ⟨rfl, rfl⟩
  by_cases h4 : n = 8
  · subst h4; go_enter Try.func55, Try.ntmps55; go_wp2; go_ret; exact ⟨rfl, rfl⟩
  by_cases h5 : n = 16
  · subst h5; go_enter Try.func55, Try.ntmps55; go_wp2; go_ret; exact ⟨rfl, rfl⟩
  have e1 : ((n : Int) == 1) = false := by rw [beq_eq_false_iff_ne]; omega
  have e2 : ((n : Int) == 2) = false := by rw [beq_eq_false_iff_ne]; omega
  have e3 : ((n : Int) == 4) = false := by rw [beq_eq_false_iff_ne]; omega
  have e4 : ((n : Int) == 8) = false := by rw [beq_eq_false_iff_ne]; omega
  have e5 : ((n : Int) == 16) = false := by rw [beq_eq_false_iff_ne]; omega
  have hl := Lib.hid (show linedN n = false by simp [linedN, h1, h2, h3, h4, h5])
  clear h1 h2 h3 h4 h5
  go_enter Try.func55, Try.ntmps55
  go_wp2
  go_ret
  exact ⟨by rw [hl.out]; rfl, rfl⟩
set_option maxHeartbeats 1000000 in
theorem cacheValid_any (A : Option Addr) (n c : Nat) (xs : List Int) (w : World) (hs : Sl w 1 eI A n c xs) :
    Calls Try.prog 20 #[.agg #[.slice A n c]] w fun e w' => .returned (.bool (cacheOk xs)) = e ∧ Below w.heap.size w w' := by
  have hle := hs.le
  have hmax := hs.max
  have hb0 := alo (Below.refl w.heap.size w) (.cells #[.slice A n c] 40)
  skip
  have B0 := Blk.new w 40 #[.slice A n c]
  go_enter Try.func20, Try.ntmps20
  go_wp2
  go_loopg [8] n (fun gg s8 wr => ∃ kk : Nat, kk ≤ n ∧ n - kk ≤ gg ∧ s8 = .int .i64 kk ∧ Aside (Below w.heap.size w wr) ∧ Aside (Blk wr w.heap.size 40 #[.slice A n c]) ∧ Aside (∀ j y, j < kk → xs[j]? = some y → lineOk n j y = true))
  case atStart => exact ⟨0, Nat.zero_le _, by omega, rfl, (show Aside _ from hb0), (show Aside _ from B0), (show Aside _ from fun j _ hj => absurd hj (Nat.not_lt_zero _))⟩
  case round =>
    obtain ⟨kk, hkk, hg, rfl, BW, BB, AA⟩ := hrel
    clear B0 hb0
    have B0 := BB.out
    clear BB
    by_cases hlt : kk < n
    · have hltz : (kk : Int) < (n : Int) := by omega
      obtain ⟨b, o, rfl, y, hx, hc⟩ := hs.nth hlt BW.out
      have hc0 := hc 0 _ rfl
      have HX := Lib.hid hx
      have z0 := B0.c0
      have hn0 : ¬ (n : Int) = 0 := by omega
      have hn1 : ((n : Int) == 0) = false := by rw [beq_eq_false_iff_ne]; exact hn0
      simp only [Nat.mul_one, Nat.add_zero] at hc0
      clear hc hx
      by_cases hy : y = -1
      · subst hy
        go_wp2
        go_roundg (n - (kk + 1))
        case measure => omega
        case rel => exact ⟨kk + 1, by omega, by omega, by go_num, (show Aside _ from BW.out), (show Aside _ from B0), (show Aside _ from all_stepT AA.out HX.out rfl)⟩
      · have hye : (y == -1) = false := by rw [beq_eq_false_iff_ne]; exact hy
        have hyn : (y != -1) = true := by rw [bne_iff_ne]; exact hy
        have hq1 := fun W => in_any y 0 255 W
        have HQ := Lib.hid (show lineOk n kk y = (inB y 0 255 && y % n == (kk : Int)) by unfold lineOk; rw [hye]; rfl)
        have HR := Lib.hid (show inB y 0 255 = true → 0 ≤ y ∧ y ≤ 255 from fun h => inB_true.1 h)
        have hsl := Lib.hid hs.len
        generalize inB y 0 255 = v1 at *
        cases v1
        · go_wp2_with fail; refine (hq1 _).mono ?_; rintro e w' ⟨rfl, rfl⟩
          go_wp2
          go_ret
          exact ⟨by rw [cache_bad hsl.out HX.out (by rw [HQ.out]; rfl)]; rfl, BW.out⟩
        · have hyb := HR.out rfl
          cases hr : (y % n == (kk : Int))
          · have hrn : (y % n != (kk : Int)) = true := by rw [bne, hr]; rfl
            have hbad := Lib.hid (cache_bad hsl.out HX.out (by rw [HQ.out, hr]; rfl))
            clear HQ hr
            go_wp2_with fail; refine (hq1 _).mono ?_; rintro e w' ⟨rfl, rfl⟩
            go_wp2
            go_ret
            exact ⟨by rw [hbad.out]; rfl, BW.out⟩
          · have hrn : (y % n != (kk : Int)) = false := by rw [bne, hr]; rfl
            have hok := Lib.hid (show lineOk n kk y = true by rw [HQ.out, hr]; rfl)
            clear HQ hr
            go_wp2_with fail; refine (hq1 _).mono ?_; rintro e w' ⟨rfl, rfl⟩
            go_wp2
            go_roundg (n - (kk + 1))
            case measure => omega
            case rel => exact ⟨kk + 1, by omega, by omega, by go_num, (show Aside _ from BW.out), (show Aside _ from B0), (show Aside _ from all_stepT AA.out HX.out hok.out)⟩
    · have hltz : ¬ (kk : Int) < (n : Int) := by omega
      obtain rfl : kk = n := by omega
      have hsl := Lib.hid hs.len
      have HL := Lib.hid (cache_good hsl.out AA.out)
      have hl := fun W => lined_any kk W
      have z0 := B0.c0
      generalize linedN kk = v1 at *
      clear AA
      have cB0_0 := B0.c0; have fB0 := B0.frozen
      go_wp2_with fail; refine (hl _).mono ?_; rintro e w' ⟨rfl, rfl⟩
      go_wp2
      go_ret
      exact ⟨by rw [HL.out]; rfl, BW.out⟩
theorem linedN_range {n : Nat} (h : linedN n = true) : 1 ≤ n ∧ n ≤ 16 := by
  unfold linedN at h
  simp only [Bool.or_eq_true, beq_iff_eq] at h
  omega
theorem lined_bits : ∀ n : Nat, n < 17 → 1 ≤ n → (bits BinOp.and IntKind.i64 (n : Int) ((n : Int) - 1) != 0) = !linedN n := by decide
set_option maxHeartbeats 2000000 in
theorem specCacheValid_any (A : Option Addr) (n c : Nat) (xs : List Int) (w : World) (hs : Sl w 1 eI A n c xs) :
    Calls Try.prog 21 #[.agg #[.slice A n c]] w fun e w' => .returned (.bool (cacheOk xs)) = e ∧ Below w.heap.size w w' := by
  have hle := hs.le
  have hmax := hs.max
  have hb0 := alo (Below.refl w.heap.size w) (.cells #[.slice A n c] 40)
  skip
  have B0 := Blk.new w 40 #[.slice A n c]
  have hq0 := fun W => l1In_any (n : Int) 1 16 W
  have HI := Lib.hid (show inB (n : Int) 1 16 = true ↔ 1 ≤ (n : Int) ∧ (n : Int) ≤ 16 from inB_true)
  generalize inB (n : Int) 1 16 = v0 at *
  cases v0
  · have hn : ¬ (1 ≤ n ∧ n ≤ 16) := fun h => absurd (HI.out.2 (by omega)) (by simp)
    have hsl := Lib.hid hs.len
    have HB := Lib.hid (show cacheOk xs = false by
      unfold cacheOk
      rw [Bool.and_eq_false_iff]
      refine .inr ?_
      cases hl : linedN xs.length
      · rfl
      · exact absurd (hsl.out ▸ linedN_range hl) hn)
    clear HI hn
    go_enter Try.func21, Try.ntmps21
    go_wp2_with fail; refine (hq0 _).mono ?_; rintro e w' ⟨rfl, rfl⟩
    go_wp2
    go_ret
    exact ⟨by rw [HB.out]; rfl, hb0⟩
  · have hn := HI.out.1 rfl
    have hsl := Lib.hid hs.len
    have hm : IntKind.i64.wrap ((n : Int) - 1) = (n : Int) - 1 := IntWalk.i64_in _ (by omega)
    have hbt := lined_bits n (by omega) (by omega)
    have HL := Lib.hid (fun h => cache_good (xs := xs) hsl.out h)
    have HN := Lib.hid (show linedN n = false → cacheOk xs = false from fun h => by unfold cacheOk; rw [hsl.out, h, Bool.and_false])
    clear HI
    cases hvl : linedN n
    · rw [hvl] at hbt
      replace hbt : (bits BinOp.and IntKind.i64 (n : Int) ((n : Int) - 1) != 0) = true := hbt
      have HB := Lib.hid (HN.out hvl)
      clear HN HL hvl
      go_enter Try.func21, Try.ntmps21
      go_wp2_with fail; refine (hq0 _).mono ?_; rintro e w' ⟨rfl, rfl⟩
      go_wp2
      go_ret
      exact ⟨by rw [HB.out]; rfl, hb0⟩
    · rw [hvl] at hbt
      replace hbt : (bits BinOp.and IntKind.i64 (n : Int) ((n : Int) - 1) != 0) = false := hbt
      replace HL := Lib.hid (fun h => (HL.out h).trans hvl)
      clear HN hvl
      go_enter Try.func21, Try.ntmps21
      go_wp2_with fail; refine (hq0 _).mono ?_; rintro e w' ⟨rfl, rfl⟩
      go_wp2
      clear hbt hm hq0
      go_loopg [4] n (fun gg s8 wr => ∃ kk : Nat, kk ≤ n ∧ n - kk ≤ gg ∧ s8 = .int .i64 kk ∧ Aside (Below w.heap.size w wr) ∧ Aside (Blk wr w.heap.size 40 #[.slice A n c]) ∧ Aside (∀ j y, j < n → j < kk → xs[j]? = some y → lineOk n j y = true))
      case atStart => exact ⟨0, Nat.zero_le _, by omega, rfl, (show Aside _ from hb0), (show Aside _ from B0), (show Aside _ from fun j _ _ hj => absurd hj (Nat.not_lt_zero _))⟩
      case round =>
        obtain ⟨kk, hkk, hg, rfl, BW, BB, A2⟩ := hrel
        have AA := Lib.hid (show ∀ j y, j < kk → xs[j]? = some y → lineOk n j y = true from fun j y hj => A2.out j y (by omega) hj)
        clear B0 hb0 A2
        have B0 := BB.out
        clear BB
        by_cases hlt : kk < n
        · have hltz : (kk : Int) < (n : Int) := by omega
          obtain ⟨b, o, rfl, y, hx, hc⟩ := hs.nth hlt BW.out
          have hc0 := hc 0 _ rfl
          have HX := Lib.hid hx
          have z0 := B0.c0
          have hn0 : ¬ (n : Int) = 0 := by omega
          have hn1 : ((n : Int) == 0) = false := by rw [beq_eq_false_iff_ne]; exact hn0
          simp only [Nat.mul_one, Nat.add_zero] at hc0
          have hq1 := fun W => l1In_any y (-1) 255 W
          have HR := Lib.hid (show inB y (-1) 255 = true ↔ -1 ≤ y ∧ y ≤ 255 from inB_true)
          have HG := Lib.hid (show inB y 0 255 = true ↔ 0 ≤ y ∧ y ≤ 255 from inB_true)
          have HO := Lib.hid (show lineOk n kk y = (y == -1 || (inB y 0 255 && y % n == (kk : Int))) from rfl)
          generalize inB y 0 255 = v2 at *
          generalize inB y (-1) 255 = v1 at *
          clear hc hx
          cases v1
          · have hbad := Lib.hid (cache_bad hsl.out HX.out (show lineOk n kk y = false by
              have h1 : ¬ (-1 ≤ y ∧ y ≤ 255) := fun h => absurd (HR.out.2 h) (by simp)
              have h2 : (y == -1) = false := by rw [beq_eq_false_iff_ne]; omega
              have h3 : v2 = false := by cases v2; rfl; exact absurd (HG.out.1 rfl) (by omega)
              rw [HO.out, h2, h3]; rfl))
            clear HR HG HO
            go_wp2_with fail; refine (hq1 _).mono ?_; rintro e w' ⟨rfl, rfl⟩
            go_wp2
            go_ret
            exact ⟨by rw [hbad.out]; rfl, BW.out⟩
          · have hyb := HR.out.1 rfl
            by_cases hy : y = -1
            · subst hy
              clear HR HG hyb
              have hok := Lib.hid (show lineOk n kk (-1) = true from rfl)
              clear HO
              go_wp2_with fail; refine (hq1 _).mono ?_; rintro e w' ⟨rfl, rfl⟩
              go_wp2
              go_roundg (n - (kk + 1))
              case measure => omega
              case rel => exact ⟨kk + 1, by omega, by omega, by go_num, (show Aside _ from BW.out), (show Aside _ from B0), (show Aside _ from fun j y _ => all_stepT AA.out HX.out hok.out j y)⟩
            · have h2 : (y == -1) = false := by rw [beq_eq_false_iff_ne]; omega
              have h3 : v2 = true := HG.out.2 (by omega)
              have hy0 : 0 ≤ y := by omega
              clear HR HG
              subst h3
              cases hr : (y % n == (kk : Int))
              · have hrn : (y % n != (kk : Int)) = true := by rw [bne, hr]; rfl
                have hbad := Lib.hid (cache_bad hsl.out HX.out (by rw [HO.out, hr, h2]; rfl))
                clear HO hr h2
                go_wp2_with fail; refine (hq1 _).mono ?_; rintro e w' ⟨rfl, rfl⟩
                go_wp2
                go_ret
                exact ⟨by rw [hbad.out]; rfl, BW.out⟩
              · have hrn : (y % n != (kk : Int)) = false := by rw [bne, hr]; rfl
                have hok := Lib.hid (show lineOk n kk y = true by rw [HO.out, hr, h2]; rfl)
                clear HO hr h2
                go_wp2_with fail; refine (hq1 _).mono ?_; rintro e w' ⟨rfl, rfl⟩
                go_wp2
                go_roundg (n - (kk + 1))
                case measure => omega
                case rel => exact ⟨kk + 1, by omega, by omega, by go_num, (show Aside _ from BW.out), (show Aside _ from B0), (show Aside _ from fun j y _ => all_stepT AA.out HX.out hok.out j y)⟩
        · have hltz : ¬ (kk : Int) < (n : Int) := by omega
          obtain rfl : kk = n := by omega
          have HZ := Lib.hid (HL.out AA.out)
          clear HL AA
          go_wp2
          go_ret
          exact ⟨by rw [HZ.out]; rfl, BW.out⟩
end Go.Proofs.Ytffhcifeccdfjaa
