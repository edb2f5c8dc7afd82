/- ChannelsValid of impl and spec. -/
import Derived.Test.YtckgdlgdipfgmaaGreatIdxChan
import Derived.Test.YtckgdlgdipfgmaaGreatL1In
import Derived.Test.YtckgdlgdipfgmaaGreatHoldV
import Derived.Test.YtckgdlgdipfgmaaGreatSel
namespace Go.Proofs.YtckgdlgdipfgmaaGreat
set_option linter.unusedVariables false
set_option linter.unusedSimpArgs false
open Go.RowKit Go.Shelf

def chanOk (parts : Int) (x : Int × Int × Int × Int) : Bool := sizedOk x.1 x.2.2.2 && (inB x.2.1 0 (parts - 1) && (inB x.2.2.1 0 (parts - 1) && !(x.2.1 == x.2.2.1)))
def chansOk (xs : List (Int × Int × Int × Int)) (parts : Int) : Bool := inB parts 0 5 && (decide ((xs.length : Int) ≤ 8) && xs.all (chanOk parts))
theorem any_notC (p : Int × Int × Int × Int → Bool) (xs : List (Int × Int × Int × Int)) : (!xs.any fun x => !p x) = xs.all p := by
  induction xs with
  | nil => rfl
  | cons a l ih => simp [← ih]

/-- The closure of ChannelsValid: its captured variable lies in block q. -/
theorem chanBad_any (x : Int × Int × Int × Int) (parts : Int) (hp : 0 ≤ parts ∧ parts ≤ 5) (q : Nat) (w : World) (h1 : w.cell? ⟨q, 0, none⟩ = some (.int .i64 parts)) (hq : q < w.heap.size) :
    Calls Tryz.prog 137 #[.agg (eC x).toArray, .pointer (some ⟨q, 0, none⟩)] w fun e w' => .returned (.bool (!chanOk parts x)) = e ∧ Below w.heap.size w w' := by
  obtain ⟨a, b, c, d⟩ := x
  obtain ⟨hp0, hp1⟩ := hp
  unfold chanOk
  have hc1 := fun W => sized_any a d W
  have hc2 := fun W => in_any b 0 (parts - 1) W
  have hc3 := fun W => in_any c 0 (parts - 1) W
  have g1 : (w.alloc (.cells #[.int .i64 a, .int .i64 b, .int .i64 c, .int .i64 d] 78)).cell? ⟨q, 0, none⟩ = some (.int .i64 parts) := (World.cell?_alloc_lt w _ ⟨q, 0, none⟩ hq).trans h1
  simp only [eC]
  generalize sizedOk a d = v1 at *
  generalize inB b 0 (parts - 1) = v2 at *
  generalize inB c 0 (parts - 1) = v3 at *
  clear h1
  cases v1
  · go_enter Tryz.func137, Tryz.ntmps137
    go_wp2_with fail; refine (hc1 _).mono ?_; rintro e w' ⟨rfl, rfl⟩
    go_wp2
    go_ret
    exact ⟨rfl, (by repeat (first | exact Below.refl _ _ | assumption | apply alo | (apply Below.setCell; rotate_left; (first | assumption | exact Nat.le_refl _ | (simp only []; omega))) | apply Below.drew | apply belowDrewN | (refine thn ?_ (by assumption))))⟩
  · cases v2
    · go_enter Tryz.func137, Tryz.ntmps137
      go_wp2_with fail; refine (hc1 _).mono ?_; rintro e w' ⟨rfl, rfl⟩
      go_wp2_with fail; refine (hc2 _).mono ?_; rintro e w' ⟨rfl, rfl⟩
      go_wp2
      go_ret
      exact ⟨rfl, (by repeat (first | exact Below.refl _ _ | assumption | apply alo | (apply Below.setCell; rotate_left; (first | assumption | exact Nat.le_refl _ | (simp only []; omega))) | apply Below.drew | apply belowDrewN | (refine thn ?_ (by assumption))))⟩
    · cases v3
      · go_enter Tryz.func137, Tryz.ntmps137
        go_wp2_with fail; refine (hc1 _).mono ?_; rintro e w' ⟨rfl, rfl⟩
        go_wp2_with fail; refine (hc2 _).mono ?_; rintro e w' ⟨rfl, rfl⟩
        go_wp2_with fail; refine (hc3 _).mono ?_; rintro e w' ⟨rfl, rfl⟩
        go_wp2
        go_ret
        exact ⟨rfl, (by repeat (first | exact Below.refl _ _ | assumption | apply alo | (apply Below.setCell; rotate_left; (first | assumption | exact Nat.le_refl _ | (simp only []; omega))) | apply Below.drew | apply belowDrewN | (refine thn ?_ (by assumption))))⟩
      · go_enter Tryz.func137, Tryz.ntmps137
        go_wp2_with fail; refine (hc1 _).mono ?_; rintro e w' ⟨rfl, rfl⟩
        go_wp2_with fail; refine (hc2 _).mono ?_; rintro e w' ⟨rfl, rfl⟩
        go_wp2_with fail; refine (hc3 _).mono ?_; rintro e w' ⟨rfl, rfl⟩
        go_wp2
        go_ret
        exact ⟨by simp, (by repeat (first | exact Below.refl _ _ | assumption | apply alo | (apply Below.setCell; rotate_left; (first | assumption | exact Nat.le_refl _ | (simp only []; omega))) | apply Below.drew | apply belowDrewN | (refine thn ?_ (by assumption))))⟩
theorem enters_chan (args : Array Value) (w : World) : (callFunc 137 args).run Tryz.prog w = .ok (.enter 137 args) w := enters_of Tryz.func137 (by kernel_rfl) rfl args w

theorem channelsValid_any (A : Option Addr) (n c : Nat) (xs : List (Int × Int × Int × Int)) (parts : Int) (w : World) (hs : Sl w 4 eC A n c xs) :
    Calls Tryz.prog 114 #[.slice A n c, .int .i64 parts] w fun e w' => .returned (.bool (chansOk xs parts)) = e ∧ Below w.heap.size w w' := by
  have hl := hs.len
  have hle := hs.le
  have hmax := hs.max
  unfold chansOk
  rw [hl]
  have hc1 := fun W => in_any parts 0 5 W
  have hp := @inB_true parts 0 5
  have hB1 := (Below.refl w.heap.size w).alloc (Nat.le_refl _) (.cells #[.int .i64 parts] 3)
  generalize inB parts 0 5 = v1 at *
  clear hl
  cases v1
  · clear hs hp
    go_enter Tryz.func114, Tryz.ntmps114
    go_wp2_with fail; refine (hc1 _).mono ?_; rintro e w' ⟨rfl, rfl⟩
    go_wp2
    go_ret
    exact ⟨rfl, hB1⟩
  · by_cases hn : (n : Int) ≤ 8
    · have hp' := hp.1 rfl
      clear hp
      have hidx : Calls Tryz.prog 116 #[.slice A n c, .func (.func 137) #[] #[.pointer (some ⟨w.heap.size, 0, none⟩)]] (w.alloc (.cells #[.int .i64 parts] 3)) fun e w' => .returned (.bool (xs.any fun x => !chanOk parts x)) = e ∧ Below (w.alloc (.cells #[.int .i64 parts] 3)).heap.size (w.alloc (.cells #[.int .i64 parts] 3)) w' := by
        refine containsChan (fun x => !chanOk parts x) _ _ enters_chan A n c xs _ (fun _ => True) (fun _ _ => trivial) ?_ (hs.below hB1)
        intro V x _ hV
        refine chanBad_any x parts hp' w.heap.size V ?_ (by have := hV.size; simp at this; omega)
        rw [hV.cell (p := ⟨w.heap.size, 0, none⟩) (by simp)]; simp
      rw [← any_notC]
      generalize (xs.any fun x => !chanOk parts x) = v at hidx ⊢
      clear hs hp'
      have hmf : ∀ (fn : Fn) (first cap : Array Value) (w : World), (Instr.makeFunc fn first cap).run Tryz.prog w = .ok (.func fn first cap) w := fun _ _ _ _ => rfl
      go_enter Tryz.func114, Tryz.ntmps114
      go_wp2_with fail; refine (hc1 _).mono ?_; rintro e w' ⟨rfl, rfl⟩
      go_wp2_with fail
      refine hidx.mono ?_
      rintro e w2 ⟨rfl, hb2⟩
      go_wp2
      go_ret
      exact ⟨by rw [decide_eq_true hn]; cases v <;> rfl, thn hB1 hb2⟩
    · have hn' : decide ((n : Int) ≤ 8) = false := by simpa using hn
      clear hp hs
      go_enter Tryz.func114, Tryz.ntmps114
      go_wp2_with fail; refine (hc1 _).mono ?_; rintro e w' ⟨rfl, rfl⟩
      go_wp2
      go_ret
      exact ⟨by rw [hn']; rfl, hB1⟩

theorem chanOk_spec (parts a b c d : Int) : chanOk parts (a, b, c, d) = (inB a 1 3 && (inB b 0 (parts - 1) && (inB c 0 (parts - 1) && (!(b == c) && (inB d 1 4 && (!(a == 1) || d == 1)))))) := by
  rw [Bool.eq_iff_iff]
  simp only [chanOk, sizedOk, Bool.and_eq_true, Bool.or_eq_true, beq_iff_eq, inB_true, Bool.not_eq_true', decide_eq_true_eq, beq_eq_false_iff_ne, ne_eq]
  omega

set_option maxHeartbeats 2000000 in
theorem specChannelsValid_any (A : Option Addr) (n c : Nat) (xs : List (Int × Int × Int × Int)) (parts : Int) (hp : -1000 ≤ parts ∧ parts ≤ 1000) (w : World) (hs : Sl w 4 eC A n c xs) :
    Calls Tryz.prog 71 #[.slice A n c, .int .i64 parts] w fun e w' => .returned (.bool (chansOk xs parts)) = e ∧ Below w.heap.size w w' := by
  have hle := hs.le
  have hmax := hs.max
  obtain ⟨hp0, hp1⟩ := hp
  skip
  go_enter Tryz.func71, Tryz.ntmps71
  go_wp2
  go_loopg [5] n (fun gg s3 wr => ∃ kk : Nat, kk ≤ n ∧ n - kk ≤ gg ∧ s3 = .int .i64 kk ∧ Aside (Below w.heap.size w wr) ∧ Aside (∀ j y, j < kk → xs[j]? = some y → (chanOk parts) y = true))
  case atStart => exact ⟨0, Nat.zero_le _, by omega, rfl, (show Aside _ from (by repeat (first | exact Below.refl _ _ | assumption | apply alo | (apply Below.setCell; rotate_left; (first | assumption | exact Nat.le_refl _ | (simp only []; omega))) | apply Below.drew | apply belowDrewN | (refine thn ?_ (by assumption))))), fun j _ hj => absurd hj (Nat.not_lt_zero _)⟩
  case round =>
    obtain ⟨kk, hkk, hg, rfl, BW, AA⟩ := hrel
    by_cases hlt : kk < n
    · have hltz : (kk : Int) < (n : Int) := by omega
      obtain ⟨b, o, rfl, hb, hc⟩ := hs.cells (by omega)
      have hlx : kk < xs.length := by have := hs.len; omega
      have hx : xs[kk]? = some xs[kk] := List.getElem?_eq_getElem hlx
      have hc0 := (BW.out.cell (p := ⟨b, o + kk * 4 + 0, none⟩) hb).trans (hc kk _ hx 0 _ rfl)
      have hc1 := (BW.out.cell (p := ⟨b, o + kk * 4 + 1, none⟩) hb).trans (hc kk _ hx 1 _ rfl)
      have hc2 := (BW.out.cell (p := ⟨b, o + kk * 4 + 2, none⟩) hb).trans (hc kk _ hx 2 _ rfl)
      have hc3 := (BW.out.cell (p := ⟨b, o + kk * 4 + 3, none⟩) hb).trans (hc kk _ hx 3 _ rfl)
      clear hc
      have HX := Lib.hid hx
      clear hx
      generalize xs[kk] = y at hc0 hc1 hc2 hc3 HX
      simp only [eC, Nat.add_zero, Nat.mul_one] at hc0 hc1 hc2 hc3
      obtain ⟨ka, kb, kc, kd⟩ := y
      have HQ := Lib.hid (chanOk_spec parts ka kb kc kd)
      have hq1 := fun W => l1In_any ka 1 3 W
      have hq2 := fun W => l1In_any kb 0 (parts - 1) W
      have hq3 := fun W => l1In_any kc 0 (parts - 1) W
      have hq5 := fun W => l1In_any kd 1 4 W
      generalize inB ka 1 3 = v1 at *
      generalize inB kb 0 (parts - 1) = v2 at *
      generalize inB kc 0 (parts - 1) = v3 at *
      generalize inB kd 1 4 = v5 at *
      simp only [] at hc0 hc1 hc2 hc3
      cases v1
      · go_wp2_with fail; refine (hq1 _).mono ?_; rintro e w' ⟨rfl, rfl⟩
        go_wp2
        go_ret
        exact ⟨by rw [chansOk, all_fails HX.out (by rw [HQ.out]; rfl), Bool.and_false, Bool.and_false]; rfl, alo BW.out _⟩
      · cases v2
        · go_wp2_with fail; refine (hq1 _).mono ?_; rintro e w' ⟨rfl, rfl⟩
          go_wp2_with fail; refine (hq2 _).mono ?_; rintro e w' ⟨rfl, rfl⟩
          go_wp2
          go_ret
          exact ⟨by rw [chansOk, all_fails HX.out (by rw [HQ.out]; rfl), Bool.and_false, Bool.and_false]; rfl, alo BW.out _⟩
        · cases v3
          · go_wp2_with fail; refine (hq1 _).mono ?_; rintro e w' ⟨rfl, rfl⟩
            go_wp2_with fail; refine (hq2 _).mono ?_; rintro e w' ⟨rfl, rfl⟩
            go_wp2_with fail; refine (hq3 _).mono ?_; rintro e w' ⟨rfl, rfl⟩
            go_wp2
            go_ret
            exact ⟨by rw [chansOk, all_fails HX.out (by rw [HQ.out]; rfl), Bool.and_false, Bool.and_false]; rfl, alo BW.out _⟩
          · by_cases hbc : kb = kc
            · subst hbc
              go_wp2_with fail; refine (hq1 _).mono ?_; rintro e w' ⟨rfl, rfl⟩
              go_wp2_with fail; refine (hq2 _).mono ?_; rintro e w' ⟨rfl, rfl⟩
              go_wp2_with fail; refine (hq3 _).mono ?_; rintro e w' ⟨rfl, rfl⟩
              go_wp2
              go_ret
              exact ⟨by rw [chansOk, all_fails HX.out (by rw [HQ.out]; simp), Bool.and_false, Bool.and_false]; rfl, alo BW.out _⟩
            · have hbc' : (kb == kc) = false := by simpa using hbc
              cases v5
              · go_wp2_with fail; refine (hq1 _).mono ?_; rintro e w' ⟨rfl, rfl⟩
                go_wp2_with fail; refine (hq2 _).mono ?_; rintro e w' ⟨rfl, rfl⟩
                go_wp2_with fail; refine (hq3 _).mono ?_; rintro e w' ⟨rfl, rfl⟩
                go_wp2_with fail; refine (hq5 _).mono ?_; rintro e w' ⟨rfl, rfl⟩
                go_wp2
                go_ret
                exact ⟨by rw [chansOk, all_fails HX.out (by rw [HQ.out]; simp), Bool.and_false, Bool.and_false]; rfl, alo BW.out _⟩
              · by_cases ha : ka = 1
                · subst ha
                  by_cases hd : kd = 1
                  · subst hd
                    go_wp2_with fail; refine (hq1 _).mono ?_; rintro e w' ⟨rfl, rfl⟩
                    go_wp2_with fail; refine (hq2 _).mono ?_; rintro e w' ⟨rfl, rfl⟩
                    go_wp2_with fail; refine (hq3 _).mono ?_; rintro e w' ⟨rfl, rfl⟩
                    go_wp2_with fail; refine (hq5 _).mono ?_; rintro e w' ⟨rfl, rfl⟩
                    go_wp2
                    go_roundg (n - (kk + 1))
                    case measure => omega
                    case rel => exact ⟨kk + 1, by omega, by omega, by go_num, (show Aside _ from alo BW.out _), (show Aside _ from all_step AA.out HX.out (by rw [HQ.out]; simp [hbc]))⟩
                  · have hd' : (kd == (1 : Int)) = false := by simpa using hd
                    have hd2 : (kd != (1 : Int)) = true := by simpa using hd
                    go_wp2_with fail; refine (hq1 _).mono ?_; rintro e w' ⟨rfl, rfl⟩
                    go_wp2_with fail; refine (hq2 _).mono ?_; rintro e w' ⟨rfl, rfl⟩
                    go_wp2_with fail; refine (hq3 _).mono ?_; rintro e w' ⟨rfl, rfl⟩
                    go_wp2_with fail; refine (hq5 _).mono ?_; rintro e w' ⟨rfl, rfl⟩
                    go_wp2
                    go_ret
                    exact ⟨by rw [chansOk, all_fails HX.out (by rw [HQ.out]; simp [hd]), Bool.and_false, Bool.and_false]; rfl, alo BW.out _⟩
                · have ha' : (ka == (1 : Int)) = false := by simpa using ha
                  go_wp2_with fail; refine (hq1 _).mono ?_; rintro e w' ⟨rfl, rfl⟩
                  go_wp2_with fail; refine (hq2 _).mono ?_; rintro e w' ⟨rfl, rfl⟩
                  go_wp2_with fail; refine (hq3 _).mono ?_; rintro e w' ⟨rfl, rfl⟩
                  go_wp2_with fail; refine (hq5 _).mono ?_; rintro e w' ⟨rfl, rfl⟩
                  go_wp2
                  go_roundg (n - (kk + 1))
                  case measure => omega
                  case rel => exact ⟨kk + 1, by omega, by omega, by go_num, (show Aside _ from alo BW.out _), (show Aside _ from all_step AA.out HX.out (by rw [HQ.out]; simp [hbc, ha]))⟩
    · have hltz : ¬ (kk : Int) < (n : Int) := by omega
      obtain rfl : kk = n := by omega
      have hl := Lib.hid hs.len
      have hq1 := fun W => l1In_any parts 0 5 W
      have hq := Lib.hid (show chansOk xs parts = (inB parts 0 5 && decide ((kk : Int) ≤ 8)) by rw [chansOk, all_holds hl.out AA.out, hl.out, Bool.and_true])
      generalize inB parts 0 5 = v1 at *
      by_cases h8 : (kk : Int) ≤ 8
      · go_wp2_with fail
        refine (hq1 _).mono ?_; rintro e w' ⟨rfl, rfl⟩
        go_wp2
        go_ret
        exact ⟨by rw [hq.out, decide_eq_true h8, Bool.and_true]; rfl, BW.out⟩
      · have h8' : decide ((kk : Int) ≤ 8) = false := by simpa using h8
        go_wp2
        go_ret
        exact ⟨by rw [hq.out, h8', Bool.and_false]; rfl, BW.out⟩
end Go.Proofs.YtckgdlgdipfgmaaGreat
