/- ChannelsValid of impl and spec. FlowDirect of impl and spec. flows and FlowsTo of impl, FlowsTo of spec. slices.Repeat of one number. -/
import Derived.Test.YtckgdlgdipfgmaaGreatO1
import Derived.Test.YtckgdlgdipfgmaaGreatO2
import Derived.Laws.CopyOwn
import Derived.Deep.RegionLaw

namespace Go.Proofs.YtckgdlgdipfgmaaGreat
set_option linter.unusedVariables false
set_option linter.unusedSimpArgs false
open Go.RowKit Go.Shelf

def chanOk (parts : Int) (x : Int × Int × Int × Int) : Bool := sizedOk x.1 x.2.2.2 && (inB x.2.1 0 (parts - 1) && (inB x.2.2.1 0 (parts - 1) && !(x.2.1 == x.2.2.1)))
def chansOk (xs : List (Int × Int × Int × Int)) (parts : Int) : Bool := inB parts 0 5 && (decide ((xs.length : Int) ≤ 8) && xs.all (chanOk parts))
theorem any_notC (p : Int × Int × Int × Int → Bool) (xs : List (Int × Int × Int × Int)) : (!xs.any fun x => !p x) = xs.all p := by
  induction xs with
  | nil => rfl
  | cons a l ih => simp [← ih]

/-- The closure of ChannelsValid: its captured variable lies in block q. -/
theorem chanBad_any (x : Int × Int × Int × Int) (parts : Int) (hp : 0 ≤ parts ∧ parts ≤ 5) (q : Nat) (w : World) (h1 : w.cell? ⟨q, 0, none⟩ = some (.int .i64 parts)) (hq : q < w.heap.size) :
    Calls Tryz.prog 137 #[.agg (eC x).toArray, .pointer (some ⟨q, 0, none⟩)] w fun e w' => .returned (.bool (!chanOk parts x)) = e ∧ Below w.heap.size w w' := by
  obtain ⟨a, b, c, d⟩ := x
  obtain ⟨hp0, hp1⟩ := hp
  unfold chanOk
  have hc1 := fun W => sized_any a d W
  have hc2 := fun W => in_any b 0 (parts - 1) W
  have hc3 := fun W => in_any c 0 (parts - 1) W
  have g1 : (w.alloc (.cells #[.int .i64 a, .int .i64 b, .int .i64 c, .int .i64 d] 78)).cell? ⟨q, 0, none⟩ = some (.int .i64 parts) := (World.cell?_alloc_lt w _ ⟨q, 0, none⟩ hq).trans h1
  simp only [eC]
  generalize sizedOk a d = v1 at *
  generalize inB b 0 (parts - 1) = v2 at *
  generalize inB c 0 (parts - 1) = v3 at *
  clear h1
  cases v1
  · go_enter Tryz.func137, Tryz.ntmps137
    go_wp2_with fail; refine (hc1 _).mono ?_; rintro e w' ⟨rfl, rfl⟩
    go_wp2
    go_ret
    exact ⟨rfl, (by repeat (first | exact Below.refl _ _ | assumption | apply alo | (apply Below.setCell; rotate_left; (first | assumption | exact Nat.le_refl _ | (simp only []; omega))) | apply Below.drew | apply belowDrewN | (refine thn ?_ (by assumption))))⟩
  · cases v2
    · go_enter Tryz.func137, Tryz.ntmps137
      go_wp2_with fail; refine (hc1 _).mono ?_; rintro e w' ⟨rfl, rfl⟩
      go_wp2_with fail; refine (hc2 _).mono ?_; rintro e w' ⟨rfl, rfl⟩
      go_wp2
      go_ret
      exact ⟨rfl, (by repeat (first | exact Below.refl _ _ | assumption | apply alo | (apply Below.setCell; rotate_left; (first | assumption | exact Nat.le_refl _ | (simp only []; omega))) | apply Below.drew | apply belowDrewN | (refine thn ?_ (by assumption))))⟩
    · cases v3
      · go_enter Tryz.func137, Tryz.ntmps137
        go_wp2_with fail; refine (hc1 _).mono ?_; rintro e w' ⟨rfl, rfl⟩
        go_wp2_with fail; refine (hc2 _).mono ?_; rintro e w' ⟨rfl, rfl⟩
        go_wp2_with fail; refine (hc3 _).mono ?_; rintro e w' ⟨rfl, rfl⟩
        go_wp2
        go_ret
        exact ⟨rfl, (by repeat (first | exact Below.refl _ _ | assumption | apply alo | (apply Below.setCell; rotate_left; (first | assumption | exact Nat.le_refl _ | (simp only []; omega))) | apply Below.drew | apply belowDrewN | (refine thn ?_ (by assumption))))⟩
      · go_enter Tryz.func137, Tryz.ntmps137
        go_wp2_with fail; refine (hc1 _).mono ?_; rintro e w' ⟨rfl, rfl⟩
        go_wp2_with fail; refine (hc2 _).mono ?_; rintro e w' ⟨rfl, rfl⟩
        go_wp2_with fail; refine (hc3 _).mono ?_; rintro e w' ⟨rfl, rfl⟩
        go_wp2
        go_ret
        exact ⟨by simp, (by repeat (first | exact Below.refl _ _ | assumption | apply alo | (apply Below.setCell; rotate_left; (first | assumption | exact Nat.le_refl _ | (simp only []; omega))) | apply Below.drew | apply belowDrewN | (refine thn ?_ (by assumption))))⟩
theorem enters_chan (args : Array Value) (w : World) : (callFunc 137 args).run Tryz.prog w = .ok (.enter 137 args) w := enters_of Tryz.func137 (by kernel_rfl) rfl args w

theorem channelsValid_any (A : Option Addr) (n c : Nat) (xs : List (Int × Int × Int × Int)) (parts : Int) (w : World) (hs : Sl w 4 eC A n c xs) :
    Calls Tryz.prog 114 #[.slice A n c, .int .i64 parts] w fun e w' => .returned (.bool (chansOk xs parts)) = e ∧ Below w.heap.size w w' := by
  have hl := hs.len
  have hle := hs.le
  have hmax := hs.max
  unfold chansOk
  rw [hl]
  have hc1 := fun W => in_any parts 0 5 W
  have hp := @inB_true parts 0 5
  have hB1 := (Below.refl w.heap.size w).alloc (Nat.le_refl _) (.cells #[.int .i64 parts] 3)
  generalize inB parts 0 5 = v1 at *
  clear hl
  cases v1
  · clear hs hp
    go_enter Tryz.func114, Tryz.ntmps114
    go_wp2_with fail; refine (hc1 _).mono ?_; rintro e w' ⟨rfl, rfl⟩
    go_wp2
    go_ret
    exact ⟨rfl, hB1⟩
  · by_cases hn : (n : Int) ≤ 8
    · have hp' := hp.1 rfl
      clear hp
      have hidx : Calls Tryz.prog 116 #[.slice A n c, .func (.func 137) #[] #[.pointer (some ⟨w.heap.size, 0, none⟩)]] (w.alloc (.cells #[.int .i64 parts] 3)) fun e w' => .returned (.bool (xs.any fun x => !chanOk parts x)) = e ∧ Below (w.alloc (.cells #[.int .i64 parts] 3)).heap.size (w.alloc (.cells #[.int .i64 parts] 3)) w' := by
        refine containsChan (fun x => !chanOk parts x) _ _ enters_chan A n c xs _ (fun _ => True) (fun _ _ => trivial) ?_ (hs.below hB1)
        intro V x _ hV
        refine chanBad_any x parts hp' w.heap.size V ?_ (by have := hV.size; simp at this; omega)
        rw [hV.cell (p := ⟨w.heap.size, 0, none⟩) (by simp)]; simp
      rw [← any_notC]
      generalize (xs.any fun x => !chanOk parts x) = v at hidx ⊢
      clear hs hp'
      have hmf : ∀ (fn : Fn) (first cap : Array Value) (w : World), (Instr.makeFunc fn first cap).run Tryz.prog w = .ok (.func fn first cap) w := fun _ _ _ _ => rfl
      go_enter Tryz.func114, Tryz.ntmps114
      go_wp2_with fail; refine (hc1 _).mono ?_; rintro e w' ⟨rfl, rfl⟩
      go_wp2_with fail
      refine hidx.mono ?_
      rintro e w2 ⟨rfl, hb2⟩
      go_wp2
      go_ret
      exact ⟨by rw [decide_eq_true hn]; cases v <;> rfl, thn hB1 hb2⟩
    · have hn' : decide ((n : Int) ≤ 8) = false := by simpa using hn
      clear hp hs
      go_enter Tryz.func114, Tryz.ntmps114
      go_wp2_with fail; refine (hc1 _).mono ?_; rintro e w' ⟨rfl, rfl⟩
      go_wp2
      go_ret
      exact ⟨by rw [hn']; rfl, hB1⟩

theorem chanOk_spec (parts a b c d : Int) : chanOk parts (a, b, c, d) = (inB a 1 3 && (inB b 0 (parts - 1) && (inB c 0 (parts - 1) && (!(b == c) && (inB d 1 4 && (!(a == 1) || d == 1)))))) := by
  rw [Bool.eq_iff_iff]
  simp only [chanOk, sizedOk, Bool.and_eq_true, Bool.or_eq_true, beq_iff_eq, inB_true, Bool.not_eq_true', decide_eq_true_eq, beq_eq_false_iff_ne, ne_eq]
  omega

set_option maxHeartbeats 2000000 in
theorem specChannelsValid_any (A : Option Addr) (n c : Nat) (xs : List (Int × Int × Int × Int)) (parts : Int) (hp : -1000 ≤ parts ∧ parts ≤ 1000) (w : World) (hs : Sl w 4 eC A n c xs) :
    Calls Tryz.prog 71 #[.slice A n c, .int .i64 parts] w fun e w' => .returned (.bool (chansOk xs parts)) = e ∧ Below w.heap.size w w' := by
  have hle := hs.le
  have hmax := hs.max
  obtain ⟨hp0, hp1⟩ := hp
  skip
  go_enter Tryz.func71, Tryz.ntmps71
  go_wp2
  go_loopg [5] n (fun gg s3 wr => ∃ kk : Nat, kk ≤ n ∧ n - kk ≤ gg ∧ s3 = .int .i64 kk ∧ Aside (Below w.heap.size w wr) ∧ Aside (∀ j y, j < kk → xs[j]? = some y → (chanOk parts) y = true))
  case atStart => exact ⟨0, Nat.zero_le _, by omega, rfl, (show Aside _ from (by repeat (first | exact Below.refl _ _ | assumption | apply alo | (apply Below.setCell; rotate_left; (first | assumption | exact Nat.le_refl _ | (simp only []; omega))) | apply Below.drew | apply belowDrewN | (refine thn ?_ (by assumption))))), fun j _ hj => absurd hj (Nat.not_lt_zero _)⟩
  case round =>
    obtain ⟨kk, hkk, hg, rfl, BW, AA⟩ := hrel
    by_cases hlt : kk < n
    · have hltz : (kk : Int) < (n : Int) := by omega
      obtain ⟨b, o, rfl, hb, hc⟩ := hs.cells (by omega)
      have hlx : kk < xs.length := by have := hs.len; omega
      have hx : xs[kk]? = some xs[kk] := List.getElem?_eq_getElem hlx
      have hc0 := (BW.out.cell (p := ⟨b, o + kk * 4 + 0, none⟩) hb).trans (hc kk _ hx 0 _ rfl)
      have hc1 := (BW.out.cell (p := ⟨b, o + kk * 4 + 1, none⟩) hb).trans (hc kk _ hx 1 _ rfl)
      have hc2 := (BW.out.cell (p := ⟨b, o + kk * 4 + 2, none⟩) hb).trans (hc kk _ hx 2 _ rfl)
      have hc3 := (BW.out.cell (p := ⟨b, o + kk * 4 + 3, none⟩) hb).trans (hc kk _ hx 3 _ rfl)
      clear hc
      have HX := Lib.hid hx
      clear hx
      generalize xs[kk] = y at hc0 hc1 hc2 hc3 HX
      simp only [eC, Nat.add_zero, Nat.mul_one] at hc0 hc1 hc2 hc3
      obtain ⟨ka, kb, kc, kd⟩ := y
      have HQ := Lib.hid (chanOk_spec parts ka kb kc kd)
      have hq1 := fun W => l1In_any ka 1 3 W
      have hq2 := fun W => l1In_any kb 0 (parts - 1) W
      have hq3 := fun W => l1In_any kc 0 (parts - 1) W
      have hq5 := fun W => l1In_any kd 1 4 W
      generalize inB ka 1 3 = v1 at *
      generalize inB kb 0 (parts - 1) = v2 at *
      generalize inB kc 0 (parts - 1) = v3 at *
      generalize inB kd 1 4 = v5 at *
      simp only [] at hc0 hc1 hc2 hc3
      cases v1
      · go_wp2_with fail; refine (hq1 _).mono ?_; rintro e w' ⟨rfl, rfl⟩
        go_wp2
        go_ret
        exact ⟨by rw [chansOk, all_fails HX.out (by rw [HQ.out]; rfl), Bool.and_false, Bool.and_false]; rfl, alo BW.out _⟩
      · cases v2
        · go_wp2_with fail; refine (hq1 _).mono ?_; rintro e w' ⟨rfl, rfl⟩
          go_wp2_with fail; refine (hq2 _).mono ?_; rintro e w' ⟨rfl, rfl⟩
          go_wp2
          go_ret
          exact ⟨by rw [chansOk, all_fails HX.out (by rw [HQ.out]; rfl), Bool.and_false, Bool.and_false]; rfl, alo BW.out _⟩
        · cases v3
          · go_wp2_with fail; refine (hq1 _).mono ?_; rintro e w' ⟨rfl, rfl⟩
            go_wp2_with fail; refine (hq2 _).mono ?_; rintro e w' ⟨rfl, rfl⟩
            go_wp2_with fail; refine (hq3 _).mono ?_; rintro e w' ⟨rfl, rfl⟩
            go_wp2
            go_ret
            exact ⟨by rw [chansOk, all_fails HX.out (by rw [HQ.out]; rfl), Bool.and_false, Bool.and_false]; rfl, alo BW.out _⟩
          · by_cases hbc : kb = kc
            · subst hbc
              go_wp2_with fail; refine (hq1 _).mono ?_; rintro e w' ⟨rfl, rfl⟩
              go_wp2_with fail; refine (hq2 _).mono ?_; rintro e w' ⟨rfl, rfl⟩
              go_wp2_with fail; refine (hq3 _).mono ?_; rintro e w' ⟨rfl, rfl⟩
              go_wp2
              go_ret
              exact ⟨by rw [chansOk, all_fails HX.out (by rw [HQ.out]; simp), Bool.and_false, Bool.and_false]; rfl, alo BW.out _⟩
            · have hbc' : (kb == kc) = false := by simpa using hbc
              cases v5
              · go_wp2_with fail; refine (hq1 _).mono ?_; rintro e w' ⟨rfl, rfl⟩
                go_wp2_with fail; refine (hq2 _).mono ?_; rintro e w' ⟨rfl, rfl⟩
                go_wp2_with fail; refine (hq3 _).mono ?_; rintro e w' ⟨rfl, rfl⟩
                go_wp2_with fail; refine (hq5 _).mono ?_; rintro e w' ⟨rfl, rfl⟩
                go_wp2
                go_ret
                exact ⟨by rw [chansOk, all_fails HX.out (by rw [HQ.out]; simp), Bool.and_false, Bool.and_false]; rfl, alo BW.out _⟩
              · by_cases ha : ka = 1
                · subst ha
                  by_cases hd : kd = 1
                  · subst hd
                    go_wp2_with fail; refine (hq1 _).mono ?_; rintro e w' ⟨rfl, rfl⟩
                    go_wp2_with fail; refine (hq2 _).mono ?_; rintro e w' ⟨rfl, rfl⟩
                    go_wp2_with fail; refine (hq3 _).mono ?_; rintro e w' ⟨rfl, rfl⟩
                    go_wp2_with fail; refine (hq5 _).mono ?_; rintro e w' ⟨rfl, rfl⟩
                    go_wp2
                    go_roundg (n - (kk + 1))
                    case measure => omega
                    case rel => exact ⟨kk + 1, by omega, by omega, by go_num, (show Aside _ from alo BW.out _), (show Aside _ from all_step AA.out HX.out (by rw [HQ.out]; simp [hbc]))⟩
                  · have hd' : (kd == (1 : Int)) = false := by simpa using hd
                    have hd2 : (kd != (1 : Int)) = true := by simpa using hd
                    go_wp2_with fail; refine (hq1 _).mono ?_; rintro e w' ⟨rfl, rfl⟩
                    go_wp2_with fail; refine (hq2 _).mono ?_; rintro e w' ⟨rfl, rfl⟩
                    go_wp2_with fail; refine (hq3 _).mono ?_; rintro e w' ⟨rfl, rfl⟩
                    go_wp2_with fail; refine (hq5 _).mono ?_; rintro e w' ⟨rfl, rfl⟩
                    go_wp2
                    go_ret
                    exact ⟨by rw [chansOk, all_fails HX.out (by rw [HQ.out]; simp [hd]), Bool.and_false, Bool.and_false]; rfl, alo BW.out _⟩
                · have ha' : (ka == (1 : Int)) = false := by simpa using ha
                  go_wp2_with fail; refine (hq1 _).mono ?_; rintro e w' ⟨rfl, rfl⟩
                  go_wp2_with fail; refine (hq2 _).mono ?_; rintro e w' ⟨rfl, rfl⟩
                  go_wp2_with fail; refine (hq3 _).mono ?_; rintro e w' ⟨rfl, rfl⟩
                  go_wp2_with fail; refine (hq5 _).mono ?_; rintro e w' ⟨rfl, rfl⟩
                  go_wp2
                  go_roundg (n - (kk + 1))
                  case measure => omega
                  case rel => exact ⟨kk + 1, by omega, by omega, by go_num, (show Aside _ from alo BW.out _), (show Aside _ from all_step AA.out HX.out (by rw [HQ.out]; simp [hbc, ha]))⟩
    · have hltz : ¬ (kk : Int) < (n : Int) := by omega
      obtain rfl : kk = n := by omega
      have hl := Lib.hid hs.len
      have hq1 := fun W => l1In_any parts 0 5 W
      have hq := Lib.hid (show chansOk xs parts = (inB parts 0 5 && decide ((kk : Int) ≤ 8)) by rw [chansOk, all_holds hl.out AA.out, hl.out, Bool.and_true])
      generalize inB parts 0 5 = v1 at *
      by_cases h8 : (kk : Int) ≤ 8
      · go_wp2_with fail
        refine (hq1 _).mono ?_; rintro e w' ⟨rfl, rfl⟩
        go_wp2
        go_ret
        exact ⟨by rw [hq.out, decide_eq_true h8, Bool.and_true]; rfl, BW.out⟩
      · have h8' : decide ((kk : Int) ≤ 8) = false := by simpa using h8
        go_wp2
        go_ret
        exact ⟨by rw [hq.out, h8', Bool.and_false]; rfl, BW.out⟩
end Go.Proofs.YtckgdlgdipfgmaaGreat

namespace Go.Proofs.YtckgdlgdipfgmaaGreat
set_option linter.unusedVariables false
set_option linter.unusedSimpArgs false
open Go.RowKit Go.Shelf

def dirP (f t : Int) (x : Int × Int × Int × Int) : Bool := (x.2.1 == f && x.2.2.1 == t) || (x.1 == 3 && x.2.1 == t && x.2.2.1 == f)
def directB (xs : List (Int × Int × Int × Int)) (f t : Int) : Bool := f == t || xs.any (dirP f t)
def flowD (xs : List (Int × Int × Int × Int)) (parts f t : Int) : Bool := chansOk xs parts && (inB f 0 (parts - 1) && (inB t 0 (parts - 1) && directB xs f t))
set_option maxHeartbeats 1000000 in
theorem dirP_any (x : Int × Int × Int × Int) (f t : Int) (q q' : Nat) (w : World) (h1 : w.cell? ⟨q, 0, none⟩ = some (.int .i64 f)) (h2 : w.cell? ⟨q', 0, none⟩ = some (.int .i64 t)) (hq : q < w.heap.size) (hq' : q' < w.heap.size) :
    Calls Tryz.prog 117 #[.agg (eC x).toArray, .pointer (some ⟨q, 0, none⟩), .pointer (some ⟨q', 0, none⟩)] w fun e w' => .returned (.bool (dirP f t x)) = e ∧ Below w.heap.size w w' := by
  obtain ⟨k, a, b, d⟩ := x
  unfold dirP
  simp only [eC]
  have hb0 := alo (Below.refl w.heap.size w) (.cells #[.int .i64 k, .int .i64 a, .int .i64 b, .int .i64 d] 78)
  have g1 : (w.alloc (.cells #[.int .i64 k, .int .i64 a, .int .i64 b, .int .i64 d] 78)).cell? ⟨q, 0, none⟩ = some (.int .i64 f) := (World.cell?_alloc_lt w _ ⟨q, 0, none⟩ hq).trans h1
  have g2 : (w.alloc (.cells #[.int .i64 k, .int .i64 a, .int .i64 b, .int .i64 d] 78)).cell? ⟨q', 0, none⟩ = some (.int .i64 t) := (World.cell?_alloc_lt w _ ⟨q', 0, none⟩ hq').trans h2
  clear h1 h2
  skip
  have B1 := Blk.new w 78 #[.int .i64 k, .int .i64 a, .int .i64 b, .int .i64 d]
  cases e1 : (a == f)
  · have e2 : True := trivial
    cases e3 : (k == (3 : Int))
    · have e4 : True := trivial
      have e5 : True := trivial
      go_enter Tryz.func117, Tryz.ntmps117
      have cB1_0 := B1.c0; have cB1_1 := B1.c1; have cB1_2 := B1.c2; have cB1_3 := B1.c3; have fB1 := B1.frozen
      go_wp2
      go_ret
      exact ⟨by simp [e1, e2, e3, e4, e5], hb0⟩
    · cases e4 : (a == t)
      · have e5 : True := trivial
        go_enter Tryz.func117, Tryz.ntmps117
        have cB1_0 := B1.c0; have cB1_1 := B1.c1; have cB1_2 := B1.c2; have cB1_3 := B1.c3; have fB1 := B1.frozen
        go_wp2
        go_ret
        exact ⟨by simp [e1, e2, e3, e4, e5], hb0⟩
      · cases e5 : (b == f)
        · go_enter Tryz.func117, Tryz.ntmps117
          have cB1_0 := B1.c0; have cB1_1 := B1.c1; have cB1_2 := B1.c2; have cB1_3 := B1.c3; have fB1 := B1.frozen
          go_wp2
          go_ret
          exact ⟨by simp [e1, e2, e3, e4, e5], hb0⟩
        · go_enter Tryz.func117, Tryz.ntmps117
          have cB1_0 := B1.c0; have cB1_1 := B1.c1; have cB1_2 := B1.c2; have cB1_3 := B1.c3; have fB1 := B1.frozen
          go_wp2
          go_ret
          exact ⟨by simp [e1, e2, e3, e4, e5], hb0⟩
  · cases e2 : (b == t)
    · cases e3 : (k == (3 : Int))
      · have e4 : True := trivial
        have e5 : True := trivial
        go_enter Tryz.func117, Tryz.ntmps117
        have cB1_0 := B1.c0; have cB1_1 := B1.c1; have cB1_2 := B1.c2; have cB1_3 := B1.c3; have fB1 := B1.frozen
        go_wp2
        go_ret
        exact ⟨by simp [e1, e2, e3, e4, e5], hb0⟩
      · cases e4 : (a == t)
        · have e5 : True := trivial
          go_enter Tryz.func117, Tryz.ntmps117
          have cB1_0 := B1.c0; have cB1_1 := B1.c1; have cB1_2 := B1.c2; have cB1_3 := B1.c3; have fB1 := B1.frozen
          go_wp2
          go_ret
          exact ⟨by simp [e1, e2, e3, e4, e5], hb0⟩
        · cases e5 : (b == f)
          · go_enter Tryz.func117, Tryz.ntmps117
            have cB1_0 := B1.c0; have cB1_1 := B1.c1; have cB1_2 := B1.c2; have cB1_3 := B1.c3; have fB1 := B1.frozen
            go_wp2
            go_ret
            exact ⟨by simp [e1, e2, e3, e4, e5], hb0⟩
          · go_enter Tryz.func117, Tryz.ntmps117
            have cB1_0 := B1.c0; have cB1_1 := B1.c1; have cB1_2 := B1.c2; have cB1_3 := B1.c3; have fB1 := B1.frozen
            go_wp2
            go_ret
            exact ⟨by simp [e1, e2, e3, e4, e5], hb0⟩
    · have e3 : True := trivial
      have e4 : True := trivial
      have e5 : True := trivial
      go_enter Tryz.func117, Tryz.ntmps117
      have cB1_0 := B1.c0; have cB1_1 := B1.c1; have cB1_2 := B1.c2; have cB1_3 := B1.c3; have fB1 := B1.frozen
      go_wp2
      go_ret
      exact ⟨by simp [e1, e2, e3, e4, e5], hb0⟩
theorem enters_dir (args : Array Value) (w : World) : (callFunc 117 args).run Tryz.prog w = .ok (.enter 117 args) w := enters_of Tryz.func117 (by kernel_rfl) rfl args w
theorem direct_any (A : Option Addr) (n c : Nat) (xs : List (Int × Int × Int × Int)) (f t : Int) (w : World) (hs : Sl w 4 eC A n c xs) :
    Calls Tryz.prog 83 #[.slice A n c, .int .i64 f, .int .i64 t] w fun e w' => .returned (.bool (directB xs f t)) = e ∧ Below w.heap.size w w' := by
  unfold directB
  have hb0 := alo (alo (Below.refl w.heap.size w) (.cells #[.int .i64 f] 3)) (.cells #[.int .i64 t] 3)
  cases e1 : (f == t)
  · have hidx : Calls Tryz.prog 116 #[.slice A n c, .func (.func 117) #[] #[.pointer (some ⟨w.heap.size, 0, none⟩), .pointer (some ⟨w.heap.size + 1, 0, none⟩)]] ((w.alloc (.cells #[.int .i64 f] 3)).alloc (.cells #[.int .i64 t] 3)) fun e w' => .returned (.bool (xs.any fun x => dirP f t x)) = e ∧ Below ((w.alloc (.cells #[.int .i64 f] 3)).alloc (.cells #[.int .i64 t] 3)).heap.size ((w.alloc (.cells #[.int .i64 f] 3)).alloc (.cells #[.int .i64 t] 3)) w' := by
      refine containsChan (fun x => dirP f t x) _ _ enters_dir A n c xs _ (fun _ => True) (fun _ _ => trivial) ?_ (hs.below hb0)
      intro V x _ hV
      have hz := hV.size
      simp at hz
      refine dirP_any x f t w.heap.size (w.heap.size + 1) V ?_ ?_ (by omega) (by omega)
      · rw [hV.cell (p := ⟨w.heap.size, 0, none⟩) (by simp; omega)]; exact ((Blk.new w 3 #[.int .i64 f]).alloc _).c0
      · rw [hV.cell (p := ⟨w.heap.size + 1, 0, none⟩) (by simp)]; exact (Blk.new2 w (.cells #[.int .i64 f] 3) 3 #[.int .i64 t]).c0
    have heta : (xs.any fun x => dirP f t x) = xs.any (dirP f t) := rfl
    rw [heta] at hidx
    clear heta
    generalize xs.any (dirP f t) = v at hidx ⊢
    clear hs
    have hmf : ∀ (fn : Fn) (first cap : Array Value) (w : World), (Instr.makeFunc fn first cap).run Tryz.prog w = .ok (.func fn first cap) w := fun _ _ _ _ => rfl
    have B4 := (Blk.new w 3 #[.int .i64 f]).alloc (.cells #[.int .i64 t] 3)
    have B5 := Blk.new2 w (.cells #[.int .i64 f] 3) 3 #[.int .i64 t]
    skip
    skip
    have cB4_0 := B4.c0; have fB4 := B4.frozen; have cB5_0 := B5.c0; have fB5 := B5.frozen
    go_enter Tryz.func83, Tryz.ntmps83
    go_wp2_with fail
    refine hidx.mono ?_
    rintro e w2 ⟨rfl, hb2⟩
    go_wp2
    go_ret
    exact ⟨rfl, thn hb0 hb2⟩
  · have B4 := (Blk.new w 3 #[.int .i64 f]).alloc (.cells #[.int .i64 t] 3)
    have B5 := Blk.new2 w (.cells #[.int .i64 f] 3) 3 #[.int .i64 t]
    skip
    have cB4_0 := B4.c0; have fB4 := B4.frozen; have cB5_0 := B5.c0; have fB5 := B5.frozen
    clear hs
    go_enter Tryz.func83, Tryz.ntmps83
    go_wp2
    go_ret
    exact ⟨rfl, hb0⟩
theorem any_take {α : Type} {p : α → Bool} {xs : List α} {kk : Nat} {y : α} (h : xs[kk]? = some y) : (xs.take (kk + 1)).any p = ((xs.take kk).any p || p y) := by
  rw [List.take_add_one, h]
  simp
set_option maxHeartbeats 4000000 in
theorem specFlowDirect_any (A : Option Addr) (n c : Nat) (xs : List (Int × Int × Int × Int)) (parts f t : Int) (hp : -1000 ≤ parts ∧ parts ≤ 1000) (w : World) (hs : Sl w 4 eC A n c xs) :
    Calls Tryz.prog 72 #[.slice A n c, .int .i64 parts, .int .i64 f, .int .i64 t] w fun e w' => .returned (.bool (flowD xs parts f t)) = e ∧ Below w.heap.size w w' := by
  have hle := hs.le
  have hmax := hs.max
  have hl := hs.len
  have HF := Lib.hid (show flowD xs parts f t = (chansOk xs parts && (inB f 0 (parts - 1) && (inB t 0 (parts - 1) && directB xs f t))) from rfl)
  have h1 := specChannelsValid_any A n c xs parts hp w hs
  obtain ⟨hp0, hp1⟩ := hp
  have h2 := fun W => l1In_any f 0 (parts - 1) W
  have h3 := fun W => l1In_any t 0 (parts - 1) W
  generalize flowD xs parts f t = o at *
  generalize chansOk xs parts = v1 at *
  generalize inB f 0 (parts - 1) = v2 at *
  generalize inB t 0 (parts - 1) = v3 at *
  cases v1
  · have HQ := Lib.hid (show false = o from HF.out.symm)
    clear hs HF
    go_enter Tryz.func72, Tryz.ntmps72
    go_wp2_with fail
    refine h1.mono ?_; rintro e w1 ⟨rfl, hb1⟩
    go_wp2
    go_ret
    exact ⟨congrArg (fun o => Ending.returned (.bool o)) HQ.out.symm, hb1⟩
  · cases v2
    · have HQ := Lib.hid (show false = o from HF.out.symm)
      clear hs HF
      go_enter Tryz.func72, Tryz.ntmps72
      go_wp2_with fail
      refine h1.mono ?_; rintro e w1 ⟨rfl, hb1⟩
      go_wp2_with fail; refine (h2 _).mono ?_; rintro e w' ⟨rfl, rfl⟩
      go_wp2
      go_ret
      exact ⟨congrArg (fun o => Ending.returned (.bool o)) HQ.out.symm, hb1⟩
    · cases v3
      · have HQ := Lib.hid (show false = o from HF.out.symm)
        clear hs HF
        go_enter Tryz.func72, Tryz.ntmps72
        go_wp2_with fail
        refine h1.mono ?_; rintro e w1 ⟨rfl, hb1⟩
        go_wp2_with fail; refine (h2 _).mono ?_; rintro e w' ⟨rfl, rfl⟩
        go_wp2_with fail; refine (h3 _).mono ?_; rintro e w' ⟨rfl, rfl⟩
        go_wp2
        go_ret
        exact ⟨congrArg (fun o => Ending.returned (.bool o)) HQ.out.symm, hb1⟩
      · have HQ := Lib.hid (show directB xs f t = o from HF.out.symm)
        clear HF
        go_enter Tryz.func72, Tryz.ntmps72
        go_wp2_with fail
        refine h1.mono ?_; rintro e w1 ⟨rfl, hb1⟩
        go_wp2_with fail; refine (h2 _).mono ?_; rintro e w' ⟨rfl, rfl⟩
        go_wp2_with fail; refine (h3 _).mono ?_; rintro e w' ⟨rfl, rfl⟩
        clear h1 h2 h3
        obtain ⟨b0, hb0⟩ : ∃ b0, (f == t) = b0 := ⟨_, rfl⟩
        go_wp2
        go_loopg [9, 10] n (fun gg s9 s10 wr => ∃ (kk : Nat) (fd : Bool), kk ≤ n ∧ n - kk ≤ gg ∧ s9 = .bool fd ∧ s10 = .int .i64 kk ∧ Aside (Below w.heap.size w wr) ∧ Aside (fd = (b0 || (xs.take kk).any (dirP f t))))
        case atStart => exact ⟨0, b0, Nat.zero_le _, by omega, rfl, rfl, (show Aside _ from hb1), (show Aside _ from (show b0 = (b0 || (xs.take 0).any (dirP f t)) by simp))⟩
        case round =>
          have HB0 := Lib.hid hb0
          clear hb0 hb1
          obtain ⟨kk, fd, hkk, hg, rfl, rfl, BW, FE⟩ := hrel
          by_cases hlt : kk < n
          · have hltz : (kk : Int) < (n : Int) := by omega
            obtain ⟨g, o', rfl, y, hyk, hc⟩ := hs.nth hlt BW.out
            have HT := Lib.hid (any_take (p := dirP f t) hyk)
            obtain ⟨k, a, b, d⟩ := y
            have hc0 := hc 0 _ rfl
            have hc1 := hc 1 _ rfl
            have hc2 := hc 2 _ rfl
            have hc3 := hc 3 _ rfl
            simp only [eC, Nat.add_zero] at hc0 hc1 hc2 hc3
            have hB2 := alo BW.out (.cells #[.int .i64 k, .int .i64 a, .int .i64 b, .int .i64 d] 78)
            have B1 := Blk.new wr 78 #[.int .i64 k, .int .i64 a, .int .i64 b, .int .i64 d]
            clear hc hyk
            cases fd
            · cases e1 : (a == f)
              · have e2 : True := trivial
                cases e3 : (k == (3 : Int))
                · have e4 : True := trivial
                  have e5 : True := trivial
                  skip
                  skip
                  have cB1_0 := B1.c0; have cB1_1 := B1.c1; have cB1_2 := B1.c2; have cB1_3 := B1.c3; have fB1 := B1.frozen
                  go_wp2
                  go_roundg (n - (kk + 1))
                  case measure => omega
                  case rel => exact ⟨kk + 1, false, by omega, by omega, rfl, by go_num, (show Aside _ from hB2), (show Aside _ from (show (false : Bool) = (b0 || (xs.take (kk + 1)).any (dirP f t)) by rw [HT.out, ← Bool.or_assoc, ← FE.out]; simp [dirP, e1, e2, e3, e4, e5]))⟩
                · cases e4 : (a == t)
                  · have e5 : True := trivial
                    skip
                    skip
                    have cB1_0 := B1.c0; have cB1_1 := B1.c1; have cB1_2 := B1.c2; have cB1_3 := B1.c3; have fB1 := B1.frozen
                    go_wp2
                    go_roundg (n - (kk + 1))
                    case measure => omega
                    case rel => exact ⟨kk + 1, false, by omega, by omega, rfl, by go_num, (show Aside _ from hB2), (show Aside _ from (show (false : Bool) = (b0 || (xs.take (kk + 1)).any (dirP f t)) by rw [HT.out, ← Bool.or_assoc, ← FE.out]; simp [dirP, e1, e2, e3, e4, e5]))⟩
                  · cases e5 : (b == f)
                    · skip
                      skip
                      have cB1_0 := B1.c0; have cB1_1 := B1.c1; have cB1_2 := B1.c2; have cB1_3 := B1.c3; have fB1 := B1.frozen
                      go_wp2
                      go_roundg (n - (kk + 1))
                      case measure => omega
                      case rel => exact ⟨kk + 1, false, by omega, by omega, rfl, by go_num, (show Aside _ from hB2), (show Aside _ from (show (false : Bool) = (b0 || (xs.take (kk + 1)).any (dirP f t)) by rw [HT.out, ← Bool.or_assoc, ← FE.out]; simp [dirP, e1, e2, e3, e4, e5]))⟩
                    · skip
                      skip
                      have cB1_0 := B1.c0; have cB1_1 := B1.c1; have cB1_2 := B1.c2; have cB1_3 := B1.c3; have fB1 := B1.frozen
                      go_wp2
                      go_roundg (n - (kk + 1))
                      case measure => omega
                      case rel => exact ⟨kk + 1, true, by omega, by omega, rfl, by go_num, (show Aside _ from hB2), (show Aside _ from (show (true : Bool) = (b0 || (xs.take (kk + 1)).any (dirP f t)) by rw [HT.out, ← Bool.or_assoc, ← FE.out]; simp [dirP, e1, e2, e3, e4, e5]))⟩
              · cases e2 : (b == t)
                · cases e3 : (k == (3 : Int))
                  · have e4 : True := trivial
                    have e5 : True := trivial
                    skip
                    skip
                    have cB1_0 := B1.c0; have cB1_1 := B1.c1; have cB1_2 := B1.c2; have cB1_3 := B1.c3; have fB1 := B1.frozen
                    go_wp2
                    go_roundg (n - (kk + 1))
                    case measure => omega
                    case rel => exact ⟨kk + 1, false, by omega, by omega, rfl, by go_num, (show Aside _ from hB2), (show Aside _ from (show (false : Bool) = (b0 || (xs.take (kk + 1)).any (dirP f t)) by rw [HT.out, ← Bool.or_assoc, ← FE.out]; simp [dirP, e1, e2, e3, e4, e5]))⟩
                  · cases e4 : (a == t)
                    · have e5 : True := trivial
                      skip
                      skip
                      have cB1_0 := B1.c0; have cB1_1 := B1.c1; have cB1_2 := B1.c2; have cB1_3 := B1.c3; have fB1 := B1.frozen
                      go_wp2
                      go_roundg (n - (kk + 1))
                      case measure => omega
                      case rel => exact ⟨kk + 1, false, by omega, by omega, rfl, by go_num, (show Aside _ from hB2), (show Aside _ from (show (false : Bool) = (b0 || (xs.take (kk + 1)).any (dirP f t)) by rw [HT.out, ← Bool.or_assoc, ← FE.out]; simp [dirP, e1, e2, e3, e4, e5]))⟩
                    · cases e5 : (b == f)
                      · skip
                        skip
                        have cB1_0 := B1.c0; have cB1_1 := B1.c1; have cB1_2 := B1.c2; have cB1_3 := B1.c3; have fB1 := B1.frozen
                        go_wp2
                        go_roundg (n - (kk + 1))
                        case measure => omega
                        case rel => exact ⟨kk + 1, false, by omega, by omega, rfl, by go_num, (show Aside _ from hB2), (show Aside _ from (show (false : Bool) = (b0 || (xs.take (kk + 1)).any (dirP f t)) by rw [HT.out, ← Bool.or_assoc, ← FE.out]; simp [dirP, e1, e2, e3, e4, e5]))⟩
                      · skip
                        skip
                        have cB1_0 := B1.c0; have cB1_1 := B1.c1; have cB1_2 := B1.c2; have cB1_3 := B1.c3; have fB1 := B1.frozen
                        go_wp2
                        go_roundg (n - (kk + 1))
                        case measure => omega
                        case rel => exact ⟨kk + 1, true, by omega, by omega, rfl, by go_num, (show Aside _ from hB2), (show Aside _ from (show (true : Bool) = (b0 || (xs.take (kk + 1)).any (dirP f t)) by rw [HT.out, ← Bool.or_assoc, ← FE.out]; simp [dirP, e1, e2, e3, e4, e5]))⟩
                · have e3 : True := trivial
                  have e4 : True := trivial
                  have e5 : True := trivial
                  skip
                  skip
                  have cB1_0 := B1.c0; have cB1_1 := B1.c1; have cB1_2 := B1.c2; have cB1_3 := B1.c3; have fB1 := B1.frozen
                  go_wp2
                  go_roundg (n - (kk + 1))
                  case measure => omega
                  case rel => exact ⟨kk + 1, true, by omega, by omega, rfl, by go_num, (show Aside _ from hB2), (show Aside _ from (show (true : Bool) = (b0 || (xs.take (kk + 1)).any (dirP f t)) by rw [HT.out, ← Bool.or_assoc, ← FE.out]; simp [dirP, e1, e2, e3, e4, e5]))⟩
            · have e1 : True := trivial
              have e2 : True := trivial
              have e3 : True := trivial
              have e4 : True := trivial
              have e5 : True := trivial
              skip
              skip
              have cB1_0 := B1.c0; have cB1_1 := B1.c1; have cB1_2 := B1.c2; have cB1_3 := B1.c3; have fB1 := B1.frozen
              go_wp2
              go_roundg (n - (kk + 1))
              case measure => omega
              case rel => exact ⟨kk + 1, true, by omega, by omega, rfl, by go_num, (show Aside _ from hB2), (show Aside _ from (show (true : Bool) = (b0 || (xs.take (kk + 1)).any (dirP f t)) by rw [HT.out, ← Bool.or_assoc, ← FE.out]; simp [dirP, e1, e2, e3, e4, e5]))⟩
          · have hltz : ¬ (kk : Int) < (n : Int) := by omega
            obtain rfl : n = kk := by omega
            have HR := Lib.hid (show fd = o by rw [FE.out, List.take_of_length_le (by omega), ← HQ.out, ← HB0.out]; rfl)
            clear FE
            go_wp2
            go_ret
            exact ⟨congrArg (fun o => Ending.returned (.bool o)) HR.out.symm, BW.out⟩
end Go.Proofs.YtckgdlgdipfgmaaGreat

namespace Go.Proofs.YtckgdlgdipfgmaaGreat
set_option linter.unusedVariables false
set_option linter.unusedSimpArgs false
open Go.RowKit

def eB (x : Bool) : List Value := [.bool x]
theorem encB : Enc eB 1 := ⟨fun _ => rfl, fun x u h => by simp [eB] at h; subst h; rfl⟩
theorem zeroBool : ZeroT Tryz.prog 71 4 1 eB false := ZeroT.mk' (z := .bool false) (by kernel_rfl) (by kernel_rfl) rfl (by decide) (bytes := 1) (by decide)
/-- Flags in a block. -/
def flagA (out : List Bool) : Array Value := (out.map Value.bool).toArray
theorem flag_flat (out : List Bool) : (out.flatMap eB).toArray = flagA out := by
  unfold flagA
  congr 1
  induction out with
  | nil => rfl
  | cons x l ih => simp [List.flatMap_cons, eB, ih]
theorem Own.full {α : Type} {w : World} {base E k g n : Nat} {enc : α → List Value} {xs : List α} (hk : Enc enc k) (h : Own w base E k enc (.slice (some ⟨g, 0, none⟩) n n) xs) : Blk w g E (xs.flatMap enc).toArray ∧ base ≤ g := by
  rcases h.2 with ⟨h1, _⟩ | ⟨g', cap, cur, h1, hb, hg, hnc, hm, hs, ht⟩
  · cases h1
  · injection h1 with h2 h3 h4
    injection h2 with h2
    injection h2 with h2 _
    subst h2 h4
    refine ⟨?_, hb⟩
    have : cur = (xs.flatMap enc).toArray := by
      rw [← ht]
      have hx : xs.length = n := h3.symm
      rw [hx, ← hs, List.take_of_length_le (by simp)]
    rw [← this]
    exact hg
def flowStep (D : Nat → Nat → Bool) (out : List Bool) (a b : Nat) : List Bool := out.set a (out.getD a false || (out.getD b false && D a b))
def flowB (D : Nat → Nat → Bool) (a : Nat) : Nat → List Bool → List Bool
  | 0, out => out
  | b + 1, out => flowStep D (flowB D a b out) a b
def flowA (D : Nat → Nat → Bool) (P : Nat) : Nat → List Bool → List Bool
  | 0, out => out
  | a + 1, out => flowB D a P (flowA D P a out)
def flowR (D : Nat → Nat → Bool) (P : Nat) : Nat → List Bool → List Bool
  | 0, out => out
  | r + 1, out => flowA D P P (flowR D P r out)
def flowsL (D : Nat → Nat → Bool) (P N : Nat) : List Bool := flowR D P P ((List.replicate P false).set N true)
theorem flowB_len (D : Nat → Nat → Bool) (a : Nat) : ∀ (b : Nat) (out : List Bool), (flowB D a b out).length = out.length
  | 0, _ => rfl
  | b + 1, out => by simp [flowB, flowStep, flowB_len D a b out]
theorem flowA_len (D : Nat → Nat → Bool) (P : Nat) : ∀ (a : Nat) (out : List Bool), (flowA D P a out).length = out.length
  | 0, _ => rfl
  | a + 1, out => by simp [flowA, flowB_len, flowA_len D P a out]
theorem flowR_len (D : Nat → Nat → Bool) (P : Nat) : ∀ (r : Nat) (out : List Bool), (flowR D P r out).length = out.length
  | 0, _ => rfl
  | r + 1, out => by simp [flowR, flowA_len, flowR_len D P r out]
theorem flowsL_len (D : Nat → Nat → Bool) (P N : Nat) : (flowsL D P N).length = P := by simp [flowsL, flowR_len]
theorem flag_cell {w : World} {g t : Nat} {out : List Bool} (h : Blk w g t (flagA out)) {i : Nat} (hi : i < out.length) : w.cell? ⟨g, i, none⟩ = some (.bool (out.getD i false)) := by
  rw [h.cell]
  unfold flagA
  simp [hi]
theorem flag_set {w : World} {g t : Nat} {out : List Bool} (h : Blk w g t (flagA out)) (i : Nat) (v : Bool) : Blk (w.setCell ⟨g, i, none⟩ (.bool v)) g t (flagA (out.set i v)) := by
  have := h.set_ i (.bool v)
  unfold flagA at this ⊢
  simpa [List.map_set] using this
set_option maxRecDepth 100000 in
set_option maxHeartbeats 4000000 in
theorem flows_any (A : Option Addr) (n c : Nat) (xs : List (Int × Int × Int × Int)) (P N : Nat) (hP : P ≤ 100) (hN : N < P) (w : World) (hs : Sl w 4 eC A n c xs) :
    Calls Tryz.prog 42 #[.slice A n c, .int .i64 P, .int .i64 N] w (Post (fun g => .slice (some ⟨g, 0, none⟩) P P) fun g w' => Blk w' g 4 (flagA (flowsL (fun a b => directB xs a b) P N)) ∧ w.heap.size ≤ g ∧ Below w.heap.size w w') := by
  obtain ⟨D, hD⟩ : ∃ D : Nat → Nat → Bool, ∀ a b : Nat, D a b = directB xs a b := ⟨_, fun _ _ => rfl⟩
  rw [show (fun (a b : Nat) => directB xs a b) = D from funext fun a => funext fun b => (hD a b).symm]
  have hDR := fun W hW (a b : Nat) => direct_any A n c xs (a : Int) (b : Int) W (hs.below hW)
  replace hD := Lib.hid hD
  have hN2 : (N : Int) < (P : Int) := by omega
  have hP2 : (0 : Int) ≤ (P : Int) := by omega
  go_enter Tryz.func42, Tryz.ntmps42
  go_wp2_with (at_make; refine make_own rfl _ _ zeroBool rfl encB w.heap.size _ _ P rfl rfl (by omega) (by omega) (by omega) (Nat.le_refl _) ?_; intro w1 own1 hg1; have hb1 := below_of_grown hg1; obtain ⟨B0, -⟩ := own1.full encB; rw [flag_flat] at B0; have q0 := flag_cell B0 (i := N) (by simpa using hN); have f0 := B0.frozen)
  have hgw := Nat.le_refl w.heap.size
  have B1 := flag_set B0 N true
  have hb2 := hb1.setCell (p := ⟨w.heap.size, N, none⟩) (Nat.le_refl _) (.bool true)
  have hl0 : ((List.replicate P false).set N true).length = P := by simp
  have hres := Lib.hid (show flowsL D P N = flowR D P P ((List.replicate P false).set N true) from rfl)
  generalize (List.replicate P false).set N true = out0 at *
  clear B0 q0 f0 own1 hg1 hb1
  go_loopg [16] P (fun gg s16 wr => ∃ r : Nat, r ≤ P ∧ P - r ≤ gg ∧ s16 = .int .i64 r ∧ Aside (Below w.heap.size w wr) ∧ Aside (Blk wr w.heap.size 4 (flagA (flowR D P r out0))))
  case atStart => exact ⟨0, Nat.zero_le _, by omega, rfl, (show Aside _ from hb2), (show Aside _ from B1)⟩
  case round =>
    obtain ⟨r, hr, hgr, rfl, BW, BB⟩ := hrel
    by_cases hltr : r < P
    · have hltrz : (r : Int) < (P : Int) := by omega
      obtain ⟨out1, h1⟩ : ∃ out1, flowR D P r out0 = out1 := ⟨_, rfl⟩
      have hl1 : out1.length = P := by rw [← h1, flowR_len, hl0]
      rw [h1] at BB
      have hbw1 := BW.out
      have B1 := BB.out
      replace h1 := Lib.hid h1
      clear BW BB
      go_wp2_with fail
      go_loopg [19] P (fun gg s19 wr => ∃ a : Nat, a ≤ P ∧ P - a ≤ gg ∧ s19 = .int .i64 a ∧ Aside (Below w.heap.size w wr) ∧ Aside (Blk wr w.heap.size 4 (flagA (flowA D P a out1))))
      case atStart => exact ⟨0, Nat.zero_le _, by omega, rfl, (show Aside _ from hbw1), (show Aside _ from B1)⟩
      case round =>
        obtain ⟨a, ha, hga, rfl, BW2, BB2⟩ := hrel
        by_cases hlta : a < P
        · have hltaz : (a : Int) < (P : Int) := by omega
          obtain ⟨out2, h2⟩ : ∃ out2, flowA D P a out1 = out2 := ⟨_, rfl⟩
          have hl2 : out2.length = P := by rw [← h2, flowA_len, hl1]
          rw [h2] at BB2
          have hbw2 := BW2.out
          have B2 := BB2.out
          replace h2 := Lib.hid h2
          clear BW2 BB2
          go_wp2_with fail
          go_loopg [23] P (fun gg s23 wr => ∃ b : Nat, b ≤ P ∧ P - b ≤ gg ∧ s23 = .int .i64 b ∧ Aside (Below w.heap.size w wr) ∧ Aside (Blk wr w.heap.size 4 (flagA (flowB D a b out2))))
          case atStart => exact ⟨0, Nat.zero_le _, by omega, rfl, (show Aside _ from hbw2), (show Aside _ from B2)⟩
          case round =>
            obtain ⟨b, hb, hgb, rfl, BW3, BB3⟩ := hrel
            by_cases hltb : b < P
            · have hltbz : (b : Int) < (P : Int) := by omega
              have HS := Lib.hid (show flowB D a (b + 1) out2 = (flowB D a b out2).set a ((flowB D a b out2).getD a false || ((flowB D a b out2).getD b false && D a b)) from rfl)
              have B3 := BB3.out
              have hbw3 := BW3.out
              have hl3 := flowB_len D a b out2
              generalize flowB D a b out2 = out3 at *
              have qa := flag_cell B3 (i := a) (by omega)
              have qb := flag_cell B3 (i := b) (by omega)
              have fB := B3.frozen
              have hdr := hDR _ hbw3 a b
              rw [← hD.out] at hdr
              generalize out3.getD a false = xa at *
              generalize out3.getD b false = xb at *
              generalize D a b = xd at *
              cases xa
              · cases xb
                · go_wp2
                  go_roundg (P - (b + 1))
                  case measure => omega
                  case rel => exact ⟨b + 1, by omega, by omega, by go_num, (show Aside _ from hbw3.setCell (p := ⟨w.heap.size, a, none⟩) hgw _), (show Aside _ from by rw [HS.out]; exact flag_set B3 a false)⟩
                · go_wp2_with fail
                  refine hdr.mono ?_
                  rintro e w4 ⟨rfl, hb4⟩
                  have hbw4 := thn hbw3 hb4
                  have B4 := B3.below hb4
                  have qa4 := flag_cell B4 (i := a) (by omega)
                  have fB4 := B4.frozen
                  go_wp2
                  go_roundg (P - (b + 1))
                  case measure => omega
                  case rel => exact ⟨b + 1, by omega, by omega, by go_num, (show Aside _ from hbw4.setCell (p := ⟨w.heap.size, a, none⟩) hgw _), (show Aside _ from by rw [HS.out]; exact flag_set B4 a xd)⟩
              · go_wp2
                go_roundg (P - (b + 1))
                case measure => omega
                case rel => exact ⟨b + 1, by omega, by omega, by go_num, (show Aside _ from hbw3.setCell (p := ⟨w.heap.size, a, none⟩) hgw _), (show Aside _ from by rw [HS.out]; exact flag_set B3 a true)⟩
            · have hltbz : ¬ (b : Int) < (P : Int) := by omega
              obtain rfl : b = P := by omega
              go_wp2
              go_roundg (b - (a + 1))
              case measure => omega
              case rel => exact ⟨a + 1, by omega, by omega, by go_num, (show Aside _ from BW3.out), (show Aside _ from by rw [show flowA D b (a + 1) out1 = flowB D a b (flowA D b a out1) from rfl, h2.out]; exact BB3.out)⟩
        · have hltaz : ¬ (a : Int) < (P : Int) := by omega
          obtain rfl : a = P := by omega
          go_wp2
          go_roundg (a - (r + 1))
          case measure => omega
          case rel => exact ⟨r + 1, by omega, by omega, by go_num, (show Aside _ from BW2.out), (show Aside _ from by rw [show flowR D a (r + 1) out0 = flowA D a a (flowR D a r out0) from rfl, h1.out]; exact BB2.out)⟩
    · have hltrz : ¬ (r : Int) < (P : Int) := by omega
      obtain rfl : r = P := by omega
      go_wp2
      go_ret
      exact ⟨w.heap.size, rfl, by rw [hres.out]; exact BB.out, hgw, BW.out⟩
set_option maxRecDepth 100000 in
set_option maxHeartbeats 4000000 in
theorem specFlowsTo_any (A : Option Addr) (n c : Nat) (xs : List (Int × Int × Int × Int)) (P N : Nat) (hok : chansOk xs P = true) (hN : N < P) (w : World) (hs : Sl w 4 eC A n c xs) :
    Calls Tryz.prog 33 #[.slice A n c, .int .i64 P, .int .i64 N] w (Post (fun g => .slice (some ⟨g, 0, none⟩) P P) fun g w' => Blk w' g 4 (flagA (flowsL (fun a b => directB xs a b) P N)) ∧ w.heap.size ≤ g ∧ Below w.heap.size w w') := by
  have hP : P ≤ 5 := by
    have := hok
    unfold chansOk at this
    simp only [Bool.and_eq_true, inB_true] at this
    omega
  obtain ⟨D, hD⟩ : ∃ D : Nat → Nat → Bool, ∀ a b : Nat, D a b = directB xs a b := ⟨_, fun _ _ => rfl⟩
  rw [show (fun (a b : Nat) => directB xs a b) = D from funext fun a => funext fun b => (hD a b).symm]
  have hDR := fun W hW (a b : Nat) (ha : a < P) (hb : b < P) => show Calls Tryz.prog 72 #[.slice A n c, .int .i64 P, .int .i64 a, .int .i64 b] W fun e w' => .returned (.bool (directB xs a b)) = e ∧ Below W.heap.size W w' by
    have := specFlowDirect_any A n c xs P (a : Int) (b : Int) (by omega) W (hs.below hW)
    unfold flowD at this
    rw [hok, inB_true.2 (show 0 ≤ (a : Int) ∧ (a : Int) ≤ (P : Int) - 1 by omega), inB_true.2 (show 0 ≤ (b : Int) ∧ (b : Int) ≤ (P : Int) - 1 by omega)] at this
    exact this
  replace hD := Lib.hid hD
  have h1 := specChannelsValid_any A n c xs P (by omega) w hs
  rw [hok] at h1
  have h2 := fun W => l1In_any N 0 ((P : Int) - 1) W
  rw [inB_true.2 (show 0 ≤ (N : Int) ∧ (N : Int) ≤ (P : Int) - 1 by omega)] at h2
  have hN2 : (N : Int) < (P : Int) := by omega
  have hP2 : (0 : Int) ≤ (P : Int) := by omega
  clear hs hok
  go_enter Tryz.func33, Tryz.ntmps33
  go_wp2_with fail
  refine h1.mono ?_; rintro e w0 ⟨rfl, hb0⟩
  go_wp2_with fail
  refine (h2 _).mono ?_; rintro e w' ⟨rfl, rfl⟩
  have hgw := hb0.size
  go_wp2_with (at_make; refine make_own rfl _ _ zeroBool rfl encB w0.heap.size _ _ P rfl rfl (by omega) (by omega) (by omega) (Nat.le_refl _) ?_; intro w1 own1 hg1; have hb1 := thn hb0 (below_of_grown hg1); obtain ⟨B0, -⟩ := own1.full encB; rw [flag_flat] at B0; have q0 := flag_cell B0 (i := N) (by simpa using hN); have f0 := B0.frozen)
  have B1 := flag_set B0 N true
  have hb2 := hb1.setCell (p := ⟨w0.heap.size, N, none⟩) hgw (.bool true)
  have hl0 : ((List.replicate P false).set N true).length = P := by simp
  have hres := Lib.hid (show flowsL D P N = flowR D P P ((List.replicate P false).set N true) from rfl)
  generalize (List.replicate P false).set N true = out0 at *
  clear B0 q0 f0 own1 hg1 hb1 h1 h2
  go_loopg [8] P (fun gg s16 wr => ∃ r : Nat, r ≤ P ∧ P - r ≤ gg ∧ s16 = .int .i64 r ∧ Aside (Below w.heap.size w wr) ∧ Aside (Blk wr w0.heap.size 4 (flagA (flowR D P r out0))))
  case atStart => exact ⟨0, Nat.zero_le _, by omega, rfl, (show Aside _ from hb2), (show Aside _ from B1)⟩
  case round =>
    obtain ⟨r, hr, hgr, rfl, BW, BB⟩ := hrel
    by_cases hltr : r < P
    · have hltrz : (r : Int) < (P : Int) := by omega
      obtain ⟨out1, h1⟩ : ∃ out1, flowR D P r out0 = out1 := ⟨_, rfl⟩
      have hl1 : out1.length = P := by rw [← h1, flowR_len, hl0]
      rw [h1] at BB
      have hbw1 := BW.out
      have B1 := BB.out
      replace h1 := Lib.hid h1
      clear BW BB
      go_wp2_with fail
      go_loopg [9] P (fun gg s19 wr => ∃ a : Nat, a ≤ P ∧ P - a ≤ gg ∧ s19 = .int .i64 a ∧ Aside (Below w.heap.size w wr) ∧ Aside (Blk wr w0.heap.size 4 (flagA (flowA D P a out1))))
      case atStart => exact ⟨0, Nat.zero_le _, by omega, rfl, (show Aside _ from hbw1), (show Aside _ from B1)⟩
      case round =>
        obtain ⟨a, ha, hga, rfl, BW2, BB2⟩ := hrel
        by_cases hlta : a < P
        · have hltaz : (a : Int) < (P : Int) := by omega
          obtain ⟨out2, h2⟩ : ∃ out2, flowA D P a out1 = out2 := ⟨_, rfl⟩
          have hl2 : out2.length = P := by rw [← h2, flowA_len, hl1]
          rw [h2] at BB2
          have hbw2 := BW2.out
          have B2 := BB2.out
          replace h2 := Lib.hid h2
          clear BW2 BB2
          go_wp2_with fail
          go_loopg [10] P (fun gg s23 wr => ∃ b : Nat, b ≤ P ∧ P - b ≤ gg ∧ s23 = .int .i64 b ∧ Aside (Below w.heap.size w wr) ∧ Aside (Blk wr w0.heap.size 4 (flagA (flowB D a b out2))))
          case atStart => exact ⟨0, Nat.zero_le _, by omega, rfl, (show Aside _ from hbw2), (show Aside _ from B2)⟩
          case round =>
            obtain ⟨b, hb, hgb, rfl, BW3, BB3⟩ := hrel
            by_cases hltb : b < P
            · have hltbz : (b : Int) < (P : Int) := by omega
              have HS := Lib.hid (show flowB D a (b + 1) out2 = (flowB D a b out2).set a ((flowB D a b out2).getD a false || ((flowB D a b out2).getD b false && D a b)) from rfl)
              have B3 := BB3.out
              have hbw3 := BW3.out
              have hl3 := flowB_len D a b out2
              generalize flowB D a b out2 = out3 at *
              have qa := flag_cell B3 (i := a) (by omega)
              have qb := flag_cell B3 (i := b) (by omega)
              have fB := B3.frozen
              have hdr := hDR _ hbw3 a b hlta hltb
              rw [← hD.out] at hdr
              generalize out3.getD a false = xa at *
              generalize out3.getD b false = xb at *
              generalize D a b = xd at *
              cases xa
              · cases xb
                · go_wp2
                  go_roundg (P - (b + 1))
                  case measure => omega
                  case rel => exact ⟨b + 1, by omega, by omega, by go_num, (show Aside _ from hbw3.setCell (p := ⟨w0.heap.size, a, none⟩) hgw _), (show Aside _ from by rw [HS.out]; exact flag_set B3 a false)⟩
                · go_wp2_with fail
                  refine hdr.mono ?_
                  rintro e w4 ⟨rfl, hb4⟩
                  have hbw4 := thn hbw3 hb4
                  have B4 := B3.below hb4
                  have qa4 := flag_cell B4 (i := a) (by omega)
                  have fB4 := B4.frozen
                  go_wp2
                  go_roundg (P - (b + 1))
                  case measure => omega
                  case rel => exact ⟨b + 1, by omega, by omega, by go_num, (show Aside _ from hbw4.setCell (p := ⟨w0.heap.size, a, none⟩) hgw _), (show Aside _ from by rw [HS.out]; exact flag_set B4 a xd)⟩
              · go_wp2
                go_roundg (P - (b + 1))
                case measure => omega
                case rel => exact ⟨b + 1, by omega, by omega, by go_num, (show Aside _ from hbw3.setCell (p := ⟨w0.heap.size, a, none⟩) hgw _), (show Aside _ from by rw [HS.out]; exact flag_set B3 a true)⟩
            · have hltbz : ¬ (b : Int) < (P : Int) := by omega
              obtain rfl : b = P := by omega
              go_wp2
              go_roundg (b - (a + 1))
              case measure => omega
              case rel => exact ⟨a + 1, by omega, by omega, by go_num, (show Aside _ from BW3.out), (show Aside _ from by rw [show flowA D b (a + 1) out1 = flowB D a b (flowA D b a out1) from rfl, h2.out]; exact BB3.out)⟩
        · have hltaz : ¬ (a : Int) < (P : Int) := by omega
          obtain rfl : a = P := by omega
          go_wp2
          go_roundg (a - (r + 1))
          case measure => omega
          case rel => exact ⟨r + 1, by omega, by omega, by go_num, (show Aside _ from BW2.out), (show Aside _ from by rw [show flowR D a (r + 1) out0 = flowA D a a (flowR D a r out0) from rfl, h1.out]; exact BB2.out)⟩
    · have hltrz : ¬ (r : Int) < (P : Int) := by omega
      obtain rfl : r = P := by omega
      go_wp2
      go_ret
      exact ⟨w0.heap.size, rfl, by rw [hres.out]; exact BB.out, hgw, BW.out⟩
end Go.Proofs.YtckgdlgdipfgmaaGreat

namespace Go.Proofs.YtckgdlgdipfgmaaGreat
set_option linter.unusedVariables false
set_option linter.unusedSimpArgs false
open Go.RowKit

theorem mul64_any (t : Nat) (ht : t ≤ 20) (w : World) : Calls Tryz.prog 159 #[.int .u64 1, .int .u64 t] w fun e w' => .returned (.tuple #[.int .u64 0, .int .u64 t]) = e ∧ w = w' := by
  have h : t = 0 ∨ t = 1 ∨ t = 2 ∨ t = 3 ∨ t = 4 ∨ t = 5 ∨ t = 6 ∨ t = 7 ∨ t = 8 ∨ t = 9 ∨ t = 10 ∨ t = 11 ∨ t = 12 ∨ t = 13 ∨ t = 14 ∨ t = 15 ∨ t = 16 ∨ t = 17 ∨ t = 18 ∨ t = 19 ∨ t = 20 := by omega
  clear ht
  rcases h with rfl | rfl | rfl | rfl | rfl | rfl | rfl | rfl | rfl | rfl | rfl | rfl | rfl | rfl | rfl | rfl | rfl | rfl | rfl | rfl | rfl
  all_goals
    go_enter Tryz.func159, Tryz.ntmps159
    go_wp2
    go_ret2
    exact ⟨rfl, rfl⟩
theorem mul_any (t : Nat) (ht : t ≤ 20) (w : World) : Calls Tryz.prog 155 #[.int .u64 1, .int .u64 t] w fun e w' => .returned (.tuple #[.int .u64 0, .int .u64 t]) = e ∧ w = w' := by
  have hm := mul64_any t ht
  have hw : IntKind.u64.wrap (t : Int) = (t : Int) := by rw [IntKind.wrap_u64]; omega
  go_enter Tryz.func155, Tryz.ntmps155
  go_wp2_with fail
  refine (hm _).mono ?_
  rintro e w' ⟨rfl, rfl⟩
  go_wp2
  go_ret2
  exact ⟨rfl, rfl⟩
theorem rep_head (v : Int) (j : Nat) (hj : j < 1) : ([Value.int .i64 v] : List Value)[j]? = some (.int .i64 v) := by
  cases j with
  | zero => rfl
  | succ j => omega
/-- As many cells of v, the rest 0. -/
def repA (v : Int) (k t : Nat) : List Value := List.replicate k (.int .i64 v) ++ List.replicate (t - k) (.int .i64 0)
theorem repA_len {v : Int} {k t : Nat} (h : k ≤ t) : (repA v k t).length = t := by simp [repA]; omega
theorem repA_zero (v : Int) (t : Nat) : repA v 0 t = List.replicate t (.int .i64 0) := by simp [repA]
theorem repA_full (v : Int) (t : Nat) : repA v t t = (List.replicate t v).flatMap eI := by
  unfold repA
  rw [Nat.sub_self, List.replicate_zero, List.append_nil]
  induction t with
  | zero => rfl
  | succ t ih => rw [List.replicate_succ, List.replicate_succ, List.flatMap_cons, ← ih]; rfl
theorem repA_made (v : Int) (t : Nat) : (List.replicate t (0 : Int)).flatMap eI = repA v 0 t := by rw [← repA_full]; simp [repA]
theorem repA_splice {v : Int} {k m t : Nat} (h : k + m ≤ t) : splice (repA v k t) k (List.replicate m (.int .i64 v)) = repA v (k + m) t := by
  unfold splice repA
  rw [List.take_append_of_le_length (by simp), List.take_of_length_le (by simp), List.length_replicate, List.drop_append, List.length_replicate]
  rw [List.drop_of_length_le (by simp), List.nil_append, List.drop_replicate, ← List.append_assoc, List.replicate_append_replicate]
  congr 2
  omega
theorem repA_get {v : Int} {k t j : Nat} (h : j < k) : (repA v k t)[j]? = some (.int .i64 v) := by
  unfold repA
  rw [List.getElem?_append_left (by simpa using h), List.getElem?_replicate, if_pos h]
theorem rep_one {m : Nat} {v : Int} : ∀ x ∈ List.replicate m (Value.int .i64 v), x.oneCell' = true := fun x hx => by rw [List.eq_of_mem_replicate hx]; rfl
theorem rep_src {w : World} {g E m : Nat} {v : Int} {cs : List Value} (h : Blk w g E cs.toArray) (hc : ∀ j, j < m → cs[j]? = some (.int .i64 v)) : ∀ j u, (List.replicate m (Value.int .i64 v))[j]? = some u → w.cell? ((⟨g, 0, none⟩ : Addr).add j) = some u := fun j u hj => by
  obtain ⟨hj1, hj2⟩ := List.getElem?_eq_some_iff.1 hj
  rw [List.length_replicate] at hj1
  rw [List.getElem_replicate] at hj2
  rw [← hj2, Addr.add_lit, h.cell, Nat.zero_add]
  simpa using hc j hj1
set_option maxRecDepth 100000 in
set_option maxHeartbeats 4000000 in
theorem repI_any (v : Int) (t : Nat) (ht : 1 ≤ t ∧ t ≤ 20) (w : World) (g : Nat) (hB : Blk w g 3 #[.int .i64 v]) :
    Calls Tryz.prog 142 #[.slice (some ⟨g, 0, none⟩) 1 1, .int .i64 t] w (Post (fun g' => .slice (some ⟨g', 0, none⟩) t t) fun g' w' => Blk w' g' 3 ((List.replicate t v).flatMap eI).toArray ∧ w.heap.size ≤ g' ∧ Below w.heap.size w w') := by
  obtain ⟨ht0, ht1⟩ := ht
  have hm := fun W => mul_any t ht1 W
  have hw : IntKind.u64.wrap (t : Int) = (t : Int) := by rw [IntKind.wrap_u64]; omega
  have hw2 : IntKind.i64.wrap (t : Int) = (t : Int) := IntWalk.i64_in _ (by omega)
  have hlt := hB.lt
  have k1 : (List.replicate 1 (Value.int .i64 v)).length = Nat.min 1 t := by show 1 = min 1 t; omega
  have k2 := rep_head v
  have k3 : 0 + (List.replicate 1 (Value.int .i64 v)).length ≤ (repA v 0 t).length := by rw [repA_len (k := 0) (Nat.zero_le _), List.length_replicate]; omega
  go_enter Tryz.func142, Tryz.ntmps142
  go_wp2_with fail
  refine (hm _).mono ?_
  rintro e w' ⟨rfl, rfl⟩
  clear hm
  go_wp2_with (first
    | (at_make; refine make_own rfl _ _ zeroInt rfl encI w.heap.size _ _ t rfl rfl (by omega) (by omega) (by omega) (Nat.le_refl _) ?_; intro w1 own1 hg1; have hb1 := below_of_grown hg1; obtain ⟨B1, -⟩ := own1.full encI; rw [repA_made v t] at B1; clear own1 hg1; have hB1 := hB.below hb1)
    | (refine wpList_copy_splice rfl (.tmp 31) (.tmp 32) 47 47 rfl 3 (by kernel_rfl) (by kernel_rfl) (some ⟨w.heap.size, 0, none⟩) (some ⟨g, 0, none⟩) t t 1 1 rfl rfl w.heap.size 0 (repA v 0 t) 3 B1 (List.replicate 1 (.int .i64 v)) k1 (fun _ => ⟨rfl, _, rfl, rep_src (cs := [.int .i64 v]) hB1 k2⟩) k3 rep_one w.heap.size w hb1 (Nat.le_refl _) ?_; intro w2 HG2 hb2; have B2 : Blk w2 w.heap.size 3 (repA v (0 + 1) t).toArray := (by have h9 := HG2.out; rw [repA_splice (by omega)] at h9; exact h9); clear HG2 hb1 B1 hB1))
  clear k1 k2 k3
  go_loopg [8] t (fun gg s8 wr => ∃ kk : Nat, (1 ≤ kk ∧ kk ≤ t) ∧ t - kk ≤ gg ∧ s8 = .int .i64 kk ∧ Aside (Below w.heap.size w wr) ∧ Aside (Blk wr w.heap.size 3 (repA v kk t).toArray))
  case atStart => exact ⟨1, ⟨Nat.le_refl _, ht0⟩, by omega, rfl, (show Aside _ from hb2), (show Aside _ from B2)⟩
  case round =>
    obtain ⟨kk, ⟨hk0, hk1⟩, hg, rfl, BW, BB⟩ := hrel
    clear B2 hb2
    have B := BB.out
    have hbw := BW.out
    clear BB BW
    by_cases hl : kk < t
    · have hlz : (kk : Int) < (t : Int) := by omega
      have hlz2 : (kk : Int) ≤ (t : Int) := by omega
      have hkz : (0 : Int) ≤ (kk : Int) := by omega
      obtain ⟨m, hm0⟩ : ∃ m, Nat.min kk (t - kk) = m := ⟨_, rfl⟩
      have hm1 : 1 ≤ m ∧ m ≤ kk ∧ m ≤ t - kk := by
        have : min kk (t - kk) = m := hm0
        omega
      have hne : ¬ t = kk := by omega
      have hw3 := IntWalk.i64_in ((kk : Int) + (m : Int)) (by omega)
      have K1 := Lib.hid (show (List.replicate m (Value.int .i64 v)).length = Nat.min kk (t - kk) from by rw [List.length_replicate, hm0])
      have k2 : ∀ j, j < m → (repA v kk t)[j]? = some (.int .i64 v) := fun j hj => repA_get (by omega)
      have k3 : kk + (List.replicate m (Value.int .i64 v)).length ≤ (repA v kk t).length := by rw [repA_len hk1, List.length_replicate]; omega
      have k4 : splice (repA v kk t) kk (List.replicate m (Value.int .i64 v)) = repA v (kk + m) t := repA_splice (by omega)
      clear hm0
      go_wp2_with fail
      go_region_law (refine step_copy_splice rfl (.tmp 41) (.tmp 44) 47 47 rfl 3 (by kernel_rfl) (by kernel_rfl) (some ⟨w.heap.size, kk, none⟩) (some ⟨w.heap.size, 0, none⟩) (t - kk) (t - kk) kk t (by simp [Act.eval, Act.put, hne]) (by simp [Act.eval, Act.put]) w.heap.size kk (repA v kk t) 3 B.drew (List.replicate m (.int .i64 v)) K1.out (fun _ => ⟨rfl, _, rfl, rep_src B.drew k2⟩) k3 rep_one w.heap.size w hbw.drew (Nat.le_refl _) ?_; intro w3 HG3 hb3; have B3 : Blk w3 w.heap.size 3 (repA v (kk + m) t).toArray := (by have h9 := HG3.out; rw [k4] at h9; exact h9); clear HG3)
      all_goals
        go_wp2
        go_roundg (t - (kk + m))
        case measure => omega
        case rel => exact ⟨kk + m, ⟨by omega, by omega⟩, by omega, by go_num, (show Aside _ from hb3), (show Aside _ from B3)⟩
    · have hlz : ¬ (kk : Int) < (t : Int) := by omega
      obtain rfl : kk = t := by omega
      go_wp2
      go_ret
      exact ⟨w.heap.size, rfl, by rw [← repA_full]; exact B, Nat.le_refl _, hbw⟩
end Go.Proofs.YtckgdlgdipfgmaaGreat
