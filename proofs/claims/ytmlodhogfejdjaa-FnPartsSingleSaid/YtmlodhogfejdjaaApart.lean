/- apart and PartsApart of impl, where no two partitions clash. -/
import Derived.Test.YtmlodhogfejdjaaPartV
import Derived.Test.YtmlodhogfejdjaaClash
namespace Go.Proofs.Ytmlodhogfejdjaa
set_option linter.unusedVariables false
set_option linter.unusedSimpArgs false
open Go.RowKit

/-- No two partitions of a list clash. -/
def NoClash (xs : List PartV) : Prop := ∀ (i j : Nat) (x y : PartV), j < i → xs[i]? = some x → xs[j]? = some y → clashW x.1.xs y.1.xs = false
set_option maxHeartbeats 2000000 in
theorem apart_any (A : Option Addr) (n c : Nat) (xs : List PartV) (hok : ∀ x ∈ xs, ∀ y ∈ x.1.xs, y.ok = true) (hno : NoClash xs) (w : World) (hs : Sl w 2 eP A n c xs) (hp : PtOk w xs) :
    Calls Try.prog 76 #[.slice A n c] w fun e w' => .returned (.bool true) = e ∧ Below w.heap.size w w' := by
  have hle := hs.le
  have hmax := hs.max
  have HN := Lib.hid hno
  have HK := Lib.hid hok
  clear hno hok
  go_enter Try.func76, Try.ntmps76
  go_wp2_with fail
  go_loopg [9] n (fun gg s9 wr => ∃ i : Nat, i ≤ n ∧ n - i ≤ gg ∧ s9 = .int .i64 i ∧ Aside (Below w.heap.size w wr))
  case atStart => exact ⟨0, Nat.zero_le _, by omega, rfl, (show Aside _ from Below.refl _ _)⟩
  case round =>
    obtain ⟨i, hi, hg, rfl, BW⟩ := hrel
    by_cases hlt : i < n
    · have hltz : (i : Int) < (n : Int) := by omega
      obtain ⟨bb, oo, rfl, x, hx, hc⟩ := hs.nth hlt BW.out
      have q0 := hc 0 _ rfl
      have q1 := hc 1 _ rfl
      have hxo := HK.out x (List.mem_of_getElem? hx)
      have hxs := hp x (List.mem_of_getElem? hx)
      have HX := Lib.hid hx
      clear hc hx
      obtain ⟨⟨A1, n1, c1, x1⟩, m1⟩ := x
      simp only [eP, SV.v, Nat.add_zero] at q0 q1 hxs hxo
      have B4 := Blk.new wr 56 #[.slice A1 n1 c1, .int .i64 m1]
      have hb4 := alo BW.out (.cells #[.slice A1 n1 c1, .int .i64 m1] 56)
      have hic : (i : Int) ≤ (c : Int) := by omega
      have hi0 : (0 : Int) ≤ (i : Int) := by omega
      replace hxo := Lib.hid hxo
      clear BW
      go_wp2_with fail
      generalize wr.heap.size = g4 at *
      go_loopg [18] i (fun gg s18 wr => ∃ j : Nat, j ≤ i ∧ i - j ≤ gg ∧ s18 = .int .i64 j ∧ Aside (Below w.heap.size w wr) ∧ Aside (Blk wr g4 56 #[.slice A1 n1 c1, .int .i64 m1]))
      case atStart => exact ⟨0, Nat.zero_le _, by omega, rfl, (show Aside _ from hb4), (show Aside _ from B4)⟩
      case round =>
        obtain ⟨j, hj, hgj, rfl, BW2, BB⟩ := hrel
        clear B4 hb4
        have B4 := BB.out
        have hbw := BW2.out
        clear BB BW2
        by_cases hltj : j < i
        · have hltjz : (j : Int) < (i : Int) := by omega
          obtain ⟨bb', oo', e', y, hy, hc⟩ := hs.nth (show j < n by omega) hbw
          injection e' with e'
          injection e' with e1 e2
          subst e1 e2
          have r0 := hc 0 _ rfl
          have r1 := hc 1 _ rfl
          have hyo := HK.out y (List.mem_of_getElem? hy)
          have hys := (hp y (List.mem_of_getElem? hy)).below hbw
          have hcl := HN.out i j _ y hltj HX.out hy
          clear hc hy
          obtain ⟨⟨A2, n2, c2, x2⟩, m2⟩ := y
          simp only [eP, SV.v, Nat.add_zero] at r0 r1 hys hyo hcl
          have hb6 := alo hbw (.cells #[.slice A2 n2 c2, .int .i64 m2] 56)
          have hcall := clash_any A1 A2 n1 n2 c1 c2 x1 x2 hxo.out hyo _ ((hxs.below hb6)) (hys.below (alo (Below.refl _ _) (.cells #[.slice A2 n2 c2, .int .i64 m2] 56)))
          rw [hcl] at hcall
          have B6 := Blk.new wr 56 #[.slice A2 n2 c2, .int .i64 m2]
          have B4z := B4.alloc (.cells #[.slice A2 n2 c2, .int .i64 m2] 56)
          skip
          skip
          have cB4z_0 := B4z.c0; have cB4z_1 := B4z.c1; have fB4z := B4z.frozen; have cB6_0 := B6.c0; have cB6_1 := B6.c1; have fB6 := B6.frozen
          clear hys hyo hcl
          go_wp2_with fail
          refine hcall.mono ?_
          rintro e w5 ⟨rfl, hb5⟩
          go_wp2
          go_roundg (i - (j + 1))
          case measure => omega
          case rel => exact ⟨j + 1, by omega, by omega, by go_num, (show Aside _ from thn hb6 hb5), (show Aside _ from B4z.below hb5)⟩
        · have hltjz : ¬ (j : Int) < (i : Int) := by omega
          obtain rfl : j = i := by omega
          go_wp2
          go_roundg (n - (j + 1))
          case measure => omega
          case rel => exact ⟨j + 1, by omega, by omega, by go_num, (show Aside _ from hbw)⟩
    · have hltz : ¬ (i : Int) < (n : Int) := by omega
      obtain rfl : i = n := by omega
      go_wp2
      go_ret
      exact ⟨rfl, BW.out⟩
theorem partsApart_any (A : Option Addr) (n c : Nat) (xs : List PartV) (hok : partsOk xs = true) (hno : NoClash xs) (w : World) (hs : Sl w 2 eP A n c xs) (hp : PtOk w xs) :
    Calls Try.prog 44 #[.slice A n c] w fun e w' => .returned (.bool true) = e ∧ Below w.heap.size w w' := by
  have h1 := partsValid_any A n c xs w hs hp
  rw [hok] at h1
  have hall : ∀ x ∈ xs, ∀ y ∈ x.1.xs, y.ok = true := fun x hx => by
    unfold partsOk at hok
    simp only [Bool.and_eq_true, List.all_eq_true] at hok
    have := hok.2 x hx
    unfold partOk at this
    rw [Bool.and_eq_true] at this
    exact (winsOk_true.1 this.1).2
  have h2 := fun W hW => apart_any A n c xs hall hno W (hs.below hW) (hp.below hW)
  clear hs hp hall hno hok
  go_enter Try.func44, Try.ntmps44
  go_wp2_with fail
  refine h1.mono ?_
  rintro e w1 ⟨rfl, hb1⟩
  go_wp2_with fail
  refine (h2 _ hb1).mono ?_
  rintro e w2 ⟨rfl, hb2⟩
  go_wp2
  go_ret
  exact ⟨rfl, thn hb1 hb2⟩
end Go.Proofs.Ytmlodhogfejdjaa
