/- SlotsValid of impl and spec. -/
import Derived.Test.YtckgdlgdipfgmaaGreatIdxSlot
import Derived.Test.YtckgdlgdipfgmaaGreatL1In
import Derived.Test.YtckgdlgdipfgmaaGreatSel
namespace Go.Proofs.YtckgdlgdipfgmaaGreat
set_option linter.unusedVariables false
set_option linter.unusedSimpArgs false
open Go.RowKit Go.Shelf

def slotOk (parts : Int) (x : Int × Int) : Bool := inB x.2 1 20 && inB x.1 (-1) (parts - 1)
def slotsOk (xs : List (Int × Int)) (parts : Int) : Bool := inB parts 0 5 && (inB xs.length 1 12 && xs.all (slotOk parts))
theorem any_notS (p : Int × Int → Bool) (xs : List (Int × Int)) : (!xs.any fun x => !p x) = xs.all p := by
  induction xs with
  | nil => rfl
  | cons a l ih => simp [← ih]

/-- The closure of SlotsValid: its captured variable lies in block q. -/
theorem slotBad_any (x : Int × Int) (parts : Int) (hp : 0 ≤ parts ∧ parts ≤ 5) (q : Nat) (w : World) (h1 : w.cell? ⟨q, 0, none⟩ = some (.int .i64 parts)) (hq : q < w.heap.size) :
    Calls Tryz.prog 139 #[.agg #[.int .i64 x.1, .int .i64 x.2], .pointer (some ⟨q, 0, none⟩)] w fun e w' => .returned (.bool (!slotOk parts x)) = e ∧ Below w.heap.size w w' := by
  obtain ⟨a, b⟩ := x
  obtain ⟨hp0, hp1⟩ := hp
  unfold slotOk
  have hc1 := fun W => in_any b 1 20 W
  have hc2 := fun W => in_any a (-1) (parts - 1) W
  have g1 : (w.alloc (.cells #[.int .i64 a, .int .i64 b] 123)).cell? ⟨q, 0, none⟩ = some (.int .i64 parts) := (World.cell?_alloc_lt w _ ⟨q, 0, none⟩ hq).trans h1
  simp only []
  generalize inB b 1 20 = v1 at *
  generalize inB a (-1) (parts - 1) = v2 at *
  clear h1
  cases v1 <;> cases v2
  all_goals
    go_enter Tryz.func139, Tryz.ntmps139
    go_wp2_with fail
    refine (hc1 _).mono ?_; rintro e w' ⟨rfl, rfl⟩
    go_wp2_with fail
    try (refine (hc2 _).mono ?_; rintro e w' ⟨rfl, rfl⟩; go_wp2)
    go_ret
    exact ⟨rfl, (Below.refl _ _).alloc (Nat.le_refl _) _⟩
theorem enters_slot (args : Array Value) (w : World) : (callFunc 139 args).run Tryz.prog w = .ok (.enter 139 args) w := enters_of Tryz.func139 (by kernel_rfl) rfl args w

theorem slotsValid_any (A : Option Addr) (n c : Nat) (xs : List (Int × Int)) (parts : Int) (w : World) (hs : Sl w 2 eS A n c xs) :
    Calls Tryz.prog 115 #[.slice A n c, .int .i64 parts] w fun e w' => .returned (.bool (slotsOk xs parts)) = e ∧ Below w.heap.size w w' := by
  have hl := hs.len
  have hle := hs.le
  have hmax := hs.max
  unfold slotsOk
  rw [hl]
  have hc1 := fun W => in_any parts 0 5 W
  have hc2 := fun W => in_any n 1 12 W
  have hp := @inB_true parts 0 5
  have hB1 := (Below.refl w.heap.size w).alloc (Nat.le_refl _) (.cells #[.int .i64 parts] 3)
  generalize inB parts 0 5 = v1 at *
  generalize inB n 1 12 = v2 at *
  clear hl
  cases v1
  · clear hs hp
    go_enter Tryz.func115, Tryz.ntmps115
    go_wp2_with fail
    refine (hc1 _).mono ?_; rintro e w' ⟨rfl, rfl⟩
    go_wp2
    go_ret
    exact ⟨rfl, hB1⟩
  · cases v2
    · clear hs hp
      go_enter Tryz.func115, Tryz.ntmps115
      go_wp2_with fail
      refine (hc1 _).mono ?_; rintro e w' ⟨rfl, rfl⟩
      go_wp2_with fail
      refine (hc2 _).mono ?_; rintro e w' ⟨rfl, rfl⟩
      go_wp2
      go_ret
      exact ⟨rfl, hB1⟩
    · have hp' := hp.1 rfl
      clear hp
      have hidx : Calls Tryz.prog 138 #[.slice A n c, .func (.func 139) #[] #[.pointer (some ⟨w.heap.size, 0, none⟩)]] (w.alloc (.cells #[.int .i64 parts] 3)) fun e w' => .returned (.bool (xs.any fun x => !slotOk parts x)) = e ∧ Below (w.alloc (.cells #[.int .i64 parts] 3)).heap.size (w.alloc (.cells #[.int .i64 parts] 3)) w' := by
        refine containsSlot (fun x => !slotOk parts x) _ _ enters_slot A n c xs _ (fun _ => True) (fun _ _ => trivial) ?_ (hs.below hB1)
        intro V x _ hV
        refine slotBad_any x parts hp' w.heap.size V ?_ (by have := hV.size; simp at this; omega)
        rw [hV.cell (p := ⟨w.heap.size, 0, none⟩) (by simp)]; simp
      rw [← any_notS]
      generalize (xs.any fun x => !slotOk parts x) = v at hidx ⊢
      clear hs hp'
      have hmf : ∀ (fn : Fn) (first cap : Array Value) (w : World), (Instr.makeFunc fn first cap).run Tryz.prog w = .ok (.func fn first cap) w := fun _ _ _ _ => rfl
      go_enter Tryz.func115, Tryz.ntmps115
      go_wp2_with fail
      refine (hc1 _).mono ?_; rintro e w' ⟨rfl, rfl⟩
      go_wp2_with fail
      refine (hc2 _).mono ?_; rintro e w' ⟨rfl, rfl⟩
      go_wp2_with fail
      refine hidx.mono ?_
      rintro e w2 ⟨rfl, hb2⟩
      go_wp2
      go_ret
      exact ⟨by simp, thn hB1 hb2⟩

theorem specSlotsValid_any (A : Option Addr) (n c : Nat) (xs : List (Int × Int)) (parts : Int) (w : World) (hp : -1000 ≤ parts ∧ parts ≤ 10000000) (hs : Sl w 2 eS A n c xs) :
    Calls Tryz.prog 92 #[.slice A n c, .int .i64 parts] w fun e w' => .returned (.bool (slotsOk xs parts)) = e ∧ Below w.heap.size w w' := by
  have hle := hs.le
  have hmax := hs.max
  obtain ⟨hp0, hp1⟩ := hp
  go_enter Tryz.func92, Tryz.ntmps92
  go_wp2
  go_loopg [5] n (fun gg s3 wr => ∃ kk : Nat, kk ≤ n ∧ n - kk ≤ gg ∧ s3 = .int .i64 kk ∧ Aside (Below w.heap.size w wr) ∧ Aside (∀ j y, j < kk → xs[j]? = some y → (slotOk parts) y = true))
  case atStart => exact ⟨0, Nat.zero_le _, by omega, rfl, (show Aside _ from (by repeat (first | exact Below.refl _ _ | assumption | apply alo | (apply Below.setCell; rotate_left; (first | assumption | exact Nat.le_refl _ | (simp only []; omega))) | apply Below.drew | apply belowDrewN | (refine thn ?_ (by assumption))))), fun j _ hj => absurd hj (Nat.not_lt_zero _)⟩
  case round =>
    obtain ⟨kk, hkk, hg, rfl, BW, AA⟩ := hrel
    by_cases hlt : kk < n
    · have hltz : (kk : Int) < (n : Int) := by omega
      obtain ⟨b, o, rfl, hb, hc⟩ := hs.cells (by omega)
      have hlx : kk < xs.length := by have := hs.len; omega
      have hx : xs[kk]? = some xs[kk] := List.getElem?_eq_getElem hlx
      have hc0 := (BW.out.cell (p := ⟨b, o + kk * 2 + 0, none⟩) hb).trans (hc kk _ hx 0 _ rfl)
      have hc1 := (BW.out.cell (p := ⟨b, o + kk * 2 + 1, none⟩) hb).trans (hc kk _ hx 1 _ rfl)
      clear hc
      have HX := Lib.hid hx
      clear hx
      generalize xs[kk] = y at hc0 hc1 HX
      simp only [eS, Nat.add_zero, Nat.mul_one] at hc0 hc1
      have hc1 := fun W => l1In_any y.2 1 20 W
      have hc2 := fun W => l1In_any y.1 (-1) (parts - 1) W
      have hq := Lib.hid (show slotOk parts y = (inB y.2 1 20 && inB y.1 (-1) (parts - 1)) from rfl)
      generalize inB y.2 1 20 = v1 at *
      generalize inB y.1 (-1) (parts - 1) = v2 at *
      cases v1
      · go_wp2_with fail
        refine (hc1 _).mono ?_; rintro e w' ⟨rfl, rfl⟩
        go_wp2
        go_ret
        exact ⟨by rw [slotsOk, all_fails HX.out (by rw [hq.out]; rfl), Bool.and_false, Bool.and_false]; rfl, (by have hBW := BW.out; repeat (first | exact Below.refl _ _ | assumption | apply alo | (apply Below.setCell; rotate_left; (first | assumption | exact Nat.le_refl _ | (simp only []; omega))) | apply Below.drew | apply belowDrewN | (refine thn ?_ (by assumption))))⟩
      · cases v2
        all_goals
          go_wp2_with fail
          refine (hc1 _).mono ?_; rintro e w' ⟨rfl, rfl⟩
          go_wp2_with fail
          refine (hc2 _).mono ?_; rintro e w' ⟨rfl, rfl⟩
          go_wp2
        · go_ret
          exact ⟨by rw [slotsOk, all_fails HX.out (by rw [hq.out]; rfl), Bool.and_false, Bool.and_false]; rfl, (by have hBW := BW.out; repeat (first | exact Below.refl _ _ | assumption | apply alo | (apply Below.setCell; rotate_left; (first | assumption | exact Nat.le_refl _ | (simp only []; omega))) | apply Below.drew | apply belowDrewN | (refine thn ?_ (by assumption))))⟩
        · go_roundg (n - (kk + 1))
          case measure => omega
          case rel => exact ⟨kk + 1, by omega, by omega, by go_num, (show Aside _ from (by have hBW := BW.out; repeat (first | exact Below.refl _ _ | assumption | apply alo | (apply Below.setCell; rotate_left; (first | assumption | exact Nat.le_refl _ | (simp only []; omega))) | apply Below.drew | apply belowDrewN | (refine thn ?_ (by assumption))))), (show Aside _ from all_step AA.out HX.out (by rw [hq.out]; rfl))⟩
    · have hltz : ¬ (kk : Int) < (n : Int) := by omega
      obtain rfl : kk = n := by omega
      have hl := Lib.hid hs.len
      have hc1 := fun W => l1In_any kk 1 12 W
      have hc2 := fun W => l1In_any parts 0 5 W
      have hq := Lib.hid (show slotsOk xs parts = (inB parts 0 5 && inB kk 1 12) by rw [slotsOk, all_holds hl.out AA.out, hl.out, Bool.and_true])
      generalize inB parts 0 5 = v1 at *
      generalize inB kk 1 12 = v2 at *
      cases v2
      · go_wp2_with fail
        refine (hc1 _).mono ?_; rintro e w' ⟨rfl, rfl⟩
        go_wp2
        go_ret
        exact ⟨by rw [hq.out, Bool.and_false]; rfl, BW.out⟩
      · go_wp2_with fail
        refine (hc1 _).mono ?_; rintro e w' ⟨rfl, rfl⟩
        go_wp2_with fail
        refine (hc2 _).mono ?_; rintro e w' ⟨rfl, rfl⟩
        go_wp2
        go_ret
        exact ⟨by rw [hq.out, Bool.and_true]; rfl, BW.out⟩
end Go.Proofs.YtckgdlgdipfgmaaGreat
