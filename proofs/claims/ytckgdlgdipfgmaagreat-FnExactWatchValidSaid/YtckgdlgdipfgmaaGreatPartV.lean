/- PartsValid of impl and spec. -/
import Derived.Test.YtckgdlgdipfgmaaGreatIdxPart
import Derived.Test.YtckgdlgdipfgmaaGreatSWin
import Derived.Test.YtckgdlgdipfgmaaGreatIdx
import Derived.Test.YtckgdlgdipfgmaaGreatL1In
import Derived.Test.YtckgdlgdipfgmaaGreatList
namespace Go.Proofs.YtckgdlgdipfgmaaGreat
set_option linter.unusedVariables false
set_option linter.unusedSimpArgs false
open Go.RowKit

def partOk (x : PartV) : Bool := winsOk x.1.xs && inB x.2 1 8
def partsOk (xs : List PartV) : Bool := decide (xs.length ≤ 5) && xs.all partOk
theorem any_notP (p : PartV → Bool) (xs : List PartV) : (xs.any fun x => !p x) = !xs.all p := by
  induction xs with
  | nil => rfl
  | cons a l ih => simp [ih]
theorem partBad_any (x : PartV) (w : World) (hs : Sl w 3 Win.cells x.1.A x.1.n x.1.c x.1.xs) :
    Calls Tryz.prog 135 #[.agg (eP x).toArray] w fun e w' => .returned (.bool (!partOk x)) = e ∧ Below w.heap.size w w' := by
  obtain ⟨⟨A, n, c, xs⟩, m⟩ := x
  have hb0 := alo (Below.refl w.heap.size w) (.cells #[.slice A n c, .int .i64 m] 118)
  have h1 := windowsValid_any A n c xs _ (hs.below hb0)
  have h2 := fun W => in_any m 1 8 W
  skip
  have B1 := Blk.new w 118 #[.slice A n c, .int .i64 m]
  unfold partOk
  simp only [eP, SV.v]
  generalize winsOk xs = v1 at *
  generalize inB m 1 8 = v2 at *
  clear hs
  have cB1_0 := B1.c0; have cB1_1 := B1.c1; have fB1 := B1.frozen
  cases v1
  · go_enter Tryz.func135, Tryz.ntmps135
    go_wp2_with fail; refine (h1).mono ?_; rintro e w1 ⟨rfl, hbw1⟩; replace B1 := Blk.belowOf B1 hbw1 (by repeat (first | exact B1 | apply Blk.alloc | apply Blk.drew | (apply Blk.far; rotate_left; (first | assumption | exact Ne.symm (by assumption))) | apply Blk.set_))
    go_wp2
    go_ret
    exact ⟨rfl, thn hb0 hbw1⟩
  · go_enter Tryz.func135, Tryz.ntmps135
    go_wp2_with fail; refine (h1).mono ?_; rintro e w1 ⟨rfl, hbw1⟩; replace B1 := Blk.belowOf B1 hbw1 (by repeat (first | exact B1 | apply Blk.alloc | apply Blk.drew | (apply Blk.far; rotate_left; (first | assumption | exact Ne.symm (by assumption))) | apply Blk.set_))
    clear cB1_0 cB1_1 fB1
    have cB1_0 := B1.c0; have cB1_1 := B1.c1; have fB1 := B1.frozen
    go_wp2_with fail; refine (h2 _).mono ?_; rintro e w' ⟨rfl, rfl⟩
    go_wp2
    go_ret
    exact ⟨by cases v2 <;> rfl, thn hb0 hbw1⟩
theorem enters_part (args : Array Value) (w : World) : (callFunc 135 args).run Tryz.prog w = .ok (.enter 135 args) w := enters_of Tryz.func135 (by kernel_rfl) rfl args w
theorem partsValid_any (A : Option Addr) (n c : Nat) (xs : List PartV) (w : World) (hs : Sl w 2 eP A n c xs) (hp : PtOk w xs) :
    Calls Tryz.prog 113 #[.slice A n c] w fun e w' => .returned (.bool (partsOk xs)) = e ∧ Below w.heap.size w w' := by
  have hl := hs.len
  have hle := hs.le
  have hmax := hs.max
  have hc := containsPart (fun x => !partOk x) _ #[] enters_part A n c xs w (fun x => Sl w 3 Win.cells x.1.A x.1.n x.1.c x.1.xs) hp (fun W x hx hW => by have := partBad_any x W (hx.below hW); simpa using this) hs
  rw [any_notP] at hc
  unfold partsOk
  rw [hl]
  generalize xs.all partOk = v at *
  clear hs hp hl
  by_cases hn : (n : Int) ≤ 5
  · have hn' : decide (n ≤ 5) = true := decide_eq_true (by omega)
    go_enter Tryz.func113, Tryz.ntmps113
    go_wp2_with fail
    refine hc.mono ?_
    rintro e w1 ⟨rfl, hb⟩
    go_wp2
    go_ret
    exact ⟨by rw [hn']; cases v <;> rfl, hb⟩
  · have hn' : decide (n ≤ 5) = false := decide_eq_false (by omega)
    have hn2 : decide ((n : Int) ≤ 5) = false := decide_eq_false hn
    go_enter Tryz.func113, Tryz.ntmps113
    go_wp2
    go_ret
    exact ⟨by first | (rw [hn']; rfl) | rfl, Below.refl _ _⟩
set_option maxHeartbeats 1000000 in
theorem specPartsValid_any (A : Option Addr) (n c : Nat) (xs : List PartV) (w : World) (hs : Sl w 2 eP A n c xs) (hp : PtOk w xs) :
    Calls Tryz.prog 106 #[.slice A n c] w fun e w' => .returned (.bool (partsOk xs)) = e ∧ Below w.heap.size w w' := by
  have hl := hs.len
  have hle := hs.le
  have hmax := hs.max
  have hP := Lib.hid (show partsOk xs = (decide (n ≤ 5) && xs.all partOk) by unfold partsOk; rw [hl])
  have HL := Lib.hid hl
  clear hl
  go_enter Tryz.func106, Tryz.ntmps106
  go_wp2
  go_loopg [3] n (fun gg s3 wr => ∃ kk : Nat, kk ≤ n ∧ n - kk ≤ gg ∧ s3 = .int .i64 kk ∧ Aside (Below w.heap.size w wr) ∧ Aside (∀ j y, j < kk → xs[j]? = some y → partOk y = true))
  case atStart => exact ⟨0, Nat.zero_le _, by omega, rfl, (show Aside _ from Below.refl _ _), (show Aside _ from fun j _ hj => absurd hj (Nat.not_lt_zero _))⟩
  case round =>
    obtain ⟨kk, hkk, hg, rfl, BW, AA⟩ := hrel
    by_cases hlt : kk < n
    · have hltz : (kk : Int) < (n : Int) := by omega
      obtain ⟨bb, oo, rfl, y, hx, hc⟩ := hs.nth hlt BW.out
      have q0 := hc 0 _ rfl
      have q1 := hc 1 _ rfl
      have HX := Lib.hid hx
      have hy := (hp y (List.mem_of_getElem? hx)).below BW.out
      clear hc hx
      obtain ⟨⟨A1, n1, c1, x1⟩, m⟩ := y
      simp only [eP, SV.v, Nat.add_zero] at q0 q1 hy
      have h1 := specWindowsValid_any A1 n1 c1 x1 wr hy
      have h2 := fun W => l1In_any m 1 8 W
      have hbl := World.block_lt_of_cell? _ _ q1
      have HO := Lib.hid (show partOk (⟨A1, n1, c1, x1⟩, m) = (winsOk x1 && inB m 1 8) from rfl)
      generalize winsOk x1 = v1 at *
      generalize inB m 1 8 = v2 at *
      cases v1
      · go_wp2_with fail
        refine h1.mono ?_
        rintro e w1 ⟨rfl, hb1⟩
        go_wp2
        go_ret
        exact ⟨by rw [hP.out, all_fails HX.out (by rw [HO.out]; rfl), Bool.and_false]; rfl, thn BW.out hb1⟩
      · go_wp2_with fail
        refine h1.mono ?_
        rintro e w1 ⟨rfl, hb1⟩
        have q1z := (hb1.cell (p := ⟨bb, oo + kk * 2 + 1, none⟩) hbl).trans q1
        go_wp2_with fail; refine (h2 _).mono ?_; rintro e w' ⟨rfl, rfl⟩
        cases v2
        · go_wp2
          go_ret
          exact ⟨by rw [hP.out, all_fails HX.out (by rw [HO.out]; rfl), Bool.and_false]; rfl, thn BW.out hb1⟩
        · go_wp2
          go_roundg (n - (kk + 1))
          case measure => omega
          case rel => exact ⟨kk + 1, by omega, by omega, by go_num, (show Aside _ from thn BW.out hb1), (show Aside _ from all_step AA.out HX.out (by rw [HO.out]; rfl))⟩
    · have hltz : ¬ (kk : Int) < (n : Int) := by omega
      obtain rfl : kk = n := by omega
      have hq := Lib.hid (show partsOk xs = decide ((kk : Int) ≤ 5) by rw [hP.out, all_holds HL.out AA.out, Bool.and_true]; exact decide_eq_decide.2 (by omega))
      clear AA
      go_wp2
      go_ret
      exact ⟨by rw [hq.out]; rfl, BW.out⟩
end Go.Proofs.YtckgdlgdipfgmaaGreat
