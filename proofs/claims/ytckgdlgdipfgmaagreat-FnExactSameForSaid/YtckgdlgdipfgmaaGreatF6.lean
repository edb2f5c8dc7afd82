/- slices.IndexFunc, slices.ContainsFunc at Part. PartsValid of impl and spec. slices.IndexFunc, slices.ContainsFunc at Channel. slices.IndexFunc, slices.ContainsFunc at int. HoldValid of impl and spec. ChannelsValid of impl and spec. slices.IndexFunc, slices.ContainsFunc at Slot. SlotsValid of impl and spec. -/
import Derived.Test.YtckgdlgdipfgmaaGreatF1
import Derived.Test.YtckgdlgdipfgmaaGreatF2
import Derived.Test.YtckgdlgdipfgmaaGreatChecked
import Derived.Shelf.Abstract

namespace Go.Proofs.YtckgdlgdipfgmaaGreat
set_option linter.unusedVariables false
set_option linter.unusedSimpArgs false
open Go.RowKit Go.Shelf

set_option maxHeartbeats 400000 in
theorem indexPart (p : PartV → Bool) (g : Nat) (lb : Array Value) (eg : ∀ args w, (callFunc g args).run Tryz.prog w = .ok (.enter g args) w) (A : Option Addr) (n c : Nat) (xs : List PartV) (w : World) (ok : PartV → Prop) (hok : ∀ x ∈ xs, ok x)
    (hp : Pred Tryz.prog g lb (fun x => .agg (eP x).toArray) ok p w) (hs : Sl w 2 eP A n c xs) :
    Calls Tryz.prog 149 #[.slice A n c, .func (.func g) #[] lb] w fun e w' => .returned (.int .i64 (idxP p xs)) = e ∧ Below w.heap.size w w' := by
  have hle := hs.le
  have hmax := hs.max
  go_enter Tryz.func149, Tryz.ntmps149
  go_wp2
  go_loopg [5, 8] n (fun gg _ s8 wr => ∃ kk : Nat, kk ≤ n ∧ n - kk ≤ gg ∧ s8 = .int .i64 kk ∧ Aside (Below w.heap.size w wr) ∧ Aside (∀ j y, j < kk → xs[j]? = some y → p y = false))
  case atStart => exact ⟨0, Nat.zero_le _, by omega, rfl, Below.refl _ w, fun j _ hj => absurd hj (Nat.not_lt_zero _)⟩
  case round =>
    obtain ⟨kk, hkk, hg, rfl, BW, AA⟩ := hrel
    by_cases hlt : kk < n
    · have hltz : (kk : Int) < (n : Int) := by omega
      obtain ⟨b, o, rfl, hb, hc⟩ := hs.cells (by omega)
      have hlx : kk < xs.length := by have := hs.len; omega
      have hx : xs[kk]? = some xs[kk] := List.getElem?_eq_getElem hlx
      have hcall := hp wr xs[kk] (hok _ (List.getElem_mem hlx)) BW.out
      have hc0 := (BW.out.cell (p := ⟨b, o + kk * 2 + 0, none⟩) hb).trans (hc kk _ hx 0 _ rfl)
      have hc1 := (BW.out.cell (p := ⟨b, o + kk * 2 + 1, none⟩) hb).trans (hc kk _ hx 1 _ rfl)
      clear hc hp hok
      have HX := Lib.hid hx
      clear hx
      generalize xs[kk] = y at hcall hc0 hc1 HX
      simp only [eP, Nat.add_zero, Nat.mul_one] at hcall hc0 hc1
      cases hq : p y with
      | true =>
        rw [hq] at hcall
        have HQ := Lib.hid hq
        clear hq
        go_wp2_with fail
        refine hcall.mono ?_
        rintro e w' ⟨rfl, hb'⟩
        go_wp2
        go_ret
        refine ⟨?_, BW.out.trans (hb'.mono BW.out.size)⟩
        rw [idxP_hit p xs kk y HX.out HQ.out AA.out]; rfl
      | false =>
        rw [hq] at hcall
        have HQ := Lib.hid hq
        clear hq
        go_wp2_with fail
        refine hcall.mono ?_
        rintro e w' ⟨rfl, hb'⟩
        go_wp2
        go_roundg (n - (kk + 1))
        case measure => omega
        case rel =>
          refine ⟨kk + 1, by omega, by omega, by go_num, BW.out.trans (hb'.mono BW.out.size), (show Aside _ from fun j z hj hz => ?_)⟩
          by_cases e : j = kk
          · subst e
            have := HX.out
            rw [this] at hz
            injection hz with hz
            rw [← hz]; exact HQ.out
          · exact AA.out j z (by omega) hz
    · have hltz : ¬ (kk : Int) < (n : Int) := by omega
      have : kk = n := by omega
      subst this
      go_wp2
      go_ret
      refine ⟨?_, BW.out⟩
      rw [idxP_miss p xs (fun j y hj hy => AA.out j y (by have := hs.len; omega) hy)]; rfl

theorem containsPart (p : PartV → Bool) (g : Nat) (lb : Array Value) (eg : ∀ args w, (callFunc g args).run Tryz.prog w = .ok (.enter g args) w) (A : Option Addr) (n c : Nat) (xs : List PartV) (w : World) (ok : PartV → Prop) (hok : ∀ x ∈ xs, ok x)
    (hp : Pred Tryz.prog g lb (fun x => .agg (eP x).toArray) ok p w) (hs : Sl w 2 eP A n c xs) :
    Calls Tryz.prog 134 #[.slice A n c, .func (.func g) #[] lb] w fun e w' => .returned (.bool (xs.any p)) = e ∧ Below w.heap.size w w' := by
  rw [← idxP_nonneg p xs]
  have hcall : ∀ W : World, W = w → Calls Tryz.prog 149 #[.slice A n c, .func (.func g) #[] lb] W fun e w' => .returned (.int .i64 (idxP p xs)) = e ∧ Below W.heap.size W w' := by
    rintro W rfl
    exact indexPart p g lb eg A n c xs _ ok hok hp hs
  have hc := hcall w rfl
  clear hcall hp hs
  generalize idxP p xs = i at hc ⊢
  go_enter Tryz.func134, Tryz.ntmps134
  go_wp2_with fail
  refine hc.mono ?_
  rintro e w' ⟨rfl, hb⟩
  go_wp2
  go_ret
  exact ⟨rfl, hb⟩
end Go.Proofs.YtckgdlgdipfgmaaGreat

namespace Go.Proofs.YtckgdlgdipfgmaaGreat
set_option linter.unusedVariables false
set_option linter.unusedSimpArgs false
open Go.RowKit

def partOk (x : PartV) : Bool := winsOk x.1.xs && inB x.2 1 8
def partsOk (xs : List PartV) : Bool := decide (xs.length ≤ 5) && xs.all partOk
theorem any_notP (p : PartV → Bool) (xs : List PartV) : (xs.any fun x => !p x) = !xs.all p := by
  induction xs with
  | nil => rfl
  | cons a l ih => simp [ih]
theorem partBad_any (x : PartV) (w : World) (hs : Sl w 3 Win.cells x.1.A x.1.n x.1.c x.1.xs) :
    Calls Tryz.prog 135 #[.agg (eP x).toArray] w fun e w' => .returned (.bool (!partOk x)) = e ∧ Below w.heap.size w w' := by
  obtain ⟨⟨A, n, c, xs⟩, m⟩ := x
  have hb0 := alo (Below.refl w.heap.size w) (.cells #[.slice A n c, .int .i64 m] 118)
  have h1 := windowsValid_any A n c xs _ (hs.below hb0)
  have h2 := fun W => in_any m 1 8 W
  skip
  have B1 := Blk.new w 118 #[.slice A n c, .int .i64 m]
  unfold partOk
  simp only [eP, SV.v]
  generalize winsOk xs = v1 at *
  generalize inB m 1 8 = v2 at *
  clear hs
  have cB1_0 := B1.c0; have cB1_1 := B1.c1; have fB1 := B1.frozen
  cases v1
  · go_enter Tryz.func135, Tryz.ntmps135
    go_wp2_with fail; refine (h1).mono ?_; rintro e w1 ⟨rfl, hbw1⟩; replace B1 := Blk.belowOf B1 hbw1 (by repeat (first | exact B1 | apply Blk.alloc | apply Blk.drew | (apply Blk.far; rotate_left; (first | assumption | exact Ne.symm (by assumption))) | apply Blk.set_))
    go_wp2
    go_ret
    exact ⟨rfl, thn hb0 hbw1⟩
  · go_enter Tryz.func135, Tryz.ntmps135
    go_wp2_with fail; refine (h1).mono ?_; rintro e w1 ⟨rfl, hbw1⟩; replace B1 := Blk.belowOf B1 hbw1 (by repeat (first | exact B1 | apply Blk.alloc | apply Blk.drew | (apply Blk.far; rotate_left; (first | assumption | exact Ne.symm (by assumption))) | apply Blk.set_))
    clear cB1_0 cB1_1 fB1
    have cB1_0 := B1.c0; have cB1_1 := B1.c1; have fB1 := B1.frozen
    go_wp2_with fail; refine (h2 _).mono ?_; rintro e w' ⟨rfl, rfl⟩
    go_wp2
    go_ret
    exact ⟨by cases v2 <;> rfl, thn hb0 hbw1⟩
theorem enters_part (args : Array Value) (w : World) : (callFunc 135 args).run Tryz.prog w = .ok (.enter 135 args) w := enters_of Tryz.func135 (by kernel_rfl) rfl args w
theorem partsValid_any (A : Option Addr) (n c : Nat) (xs : List PartV) (w : World) (hs : Sl w 2 eP A n c xs) (hp : PtOk w xs) :
    Calls Tryz.prog 113 #[.slice A n c] w fun e w' => .returned (.bool (partsOk xs)) = e ∧ Below w.heap.size w w' := by
  have hl := hs.len
  have hle := hs.le
  have hmax := hs.max
  have hc := containsPart (fun x => !partOk x) _ #[] enters_part A n c xs w (fun x => Sl w 3 Win.cells x.1.A x.1.n x.1.c x.1.xs) hp (fun W x hx hW => by have := partBad_any x W (hx.below hW); simpa using this) hs
  rw [any_notP] at hc
  unfold partsOk
  rw [hl]
  generalize xs.all partOk = v at *
  clear hs hp hl
  by_cases hn : (n : Int) ≤ 5
  · have hn' : decide (n ≤ 5) = true := decide_eq_true (by omega)
    go_enter Tryz.func113, Tryz.ntmps113
    go_wp2_with fail
    refine hc.mono ?_
    rintro e w1 ⟨rfl, hb⟩
    go_wp2
    go_ret
    exact ⟨by rw [hn']; cases v <;> rfl, hb⟩
  · have hn' : decide (n ≤ 5) = false := decide_eq_false (by omega)
    have hn2 : decide ((n : Int) ≤ 5) = false := decide_eq_false hn
    go_enter Tryz.func113, Tryz.ntmps113
    go_wp2
    go_ret
    exact ⟨by first | (rw [hn']; rfl) | rfl, Below.refl _ _⟩
set_option maxHeartbeats 1000000 in
theorem specPartsValid_any (A : Option Addr) (n c : Nat) (xs : List PartV) (w : World) (hs : Sl w 2 eP A n c xs) (hp : PtOk w xs) :
    Calls Tryz.prog 106 #[.slice A n c] w fun e w' => .returned (.bool (partsOk xs)) = e ∧ Below w.heap.size w w' := by
  have hl := hs.len
  have hle := hs.le
  have hmax := hs.max
  have hP := Lib.hid (show partsOk xs = (decide (n ≤ 5) && xs.all partOk) by unfold partsOk; rw [hl])
  have HL := Lib.hid hl
  clear hl
  go_enter Tryz.func106, Tryz.ntmps106
  go_wp2
  go_loopg [3] n (fun gg s3 wr => ∃ kk : Nat, kk ≤ n ∧ n - kk ≤ gg ∧ s3 = .int .i64 kk ∧ Aside (Below w.heap.size w wr) ∧ Aside (∀ j y, j < kk → xs[j]? = some y → partOk y = true))
  case atStart => exact ⟨0, Nat.zero_le _, by omega, rfl, (show Aside _ from Below.refl _ _), (show Aside _ from fun j _ hj => absurd hj (Nat.not_lt_zero _))⟩
  case round =>
    obtain ⟨kk, hkk, hg, rfl, BW, AA⟩ := hrel
    by_cases hlt : kk < n
    · have hltz : (kk : Int) < (n : Int) := by omega
      obtain ⟨bb, oo, rfl, y, hx, hc⟩ := hs.nth hlt BW.out
      have q0 := hc 0 _ rfl
      have q1 := hc 1 _ rfl
      have HX := Lib.hid hx
      have hy := (hp y (List.mem_of_getElem? hx)).below BW.out
      clear hc hx
      obtain ⟨⟨A1, n1, c1, x1⟩, m⟩ := y
      simp only [eP, SV.v, Nat.add_zero] at q0 q1 hy
      have h1 := specWindowsValid_any A1 n1 c1 x1 wr hy
      have h2 := fun W => l1In_any m 1 8 W
      have hbl := World.block_lt_of_cell? _ _ q1
      have HO := Lib.hid (show partOk (⟨A1, n1, c1, x1⟩, m) = (winsOk x1 && inB m 1 8) from rfl)
      generalize winsOk x1 = v1 at *
      generalize inB m 1 8 = v2 at *
      cases v1
      · go_wp2_with fail
        refine h1.mono ?_
        rintro e w1 ⟨rfl, hb1⟩
        go_wp2
        go_ret
        exact ⟨by rw [hP.out, all_fails HX.out (by rw [HO.out]; rfl), Bool.and_false]; rfl, thn BW.out hb1⟩
      · go_wp2_with fail
        refine h1.mono ?_
        rintro e w1 ⟨rfl, hb1⟩
        have q1z := (hb1.cell (p := ⟨bb, oo + kk * 2 + 1, none⟩) hbl).trans q1
        go_wp2_with fail; refine (h2 _).mono ?_; rintro e w' ⟨rfl, rfl⟩
        cases v2
        · go_wp2
          go_ret
          exact ⟨by rw [hP.out, all_fails HX.out (by rw [HO.out]; rfl), Bool.and_false]; rfl, thn BW.out hb1⟩
        · go_wp2
          go_roundg (n - (kk + 1))
          case measure => omega
          case rel => exact ⟨kk + 1, by omega, by omega, by go_num, (show Aside _ from thn BW.out hb1), (show Aside _ from all_step AA.out HX.out (by rw [HO.out]; rfl))⟩
    · have hltz : ¬ (kk : Int) < (n : Int) := by omega
      obtain rfl : kk = n := by omega
      have hq := Lib.hid (show partsOk xs = decide ((kk : Int) ≤ 5) by rw [hP.out, all_holds HL.out AA.out, Bool.and_true]; exact decide_eq_decide.2 (by omega))
      clear AA
      go_wp2
      go_ret
      exact ⟨by rw [hq.out]; rfl, BW.out⟩
end Go.Proofs.YtckgdlgdipfgmaaGreat

namespace Go.Proofs.YtckgdlgdipfgmaaGreat
set_option linter.unusedVariables false
set_option linter.unusedSimpArgs false
open Go.RowKit Go.Shelf

set_option maxHeartbeats 400000 in
theorem indexChan (p : (Int × Int × Int × Int) → Bool) (g : Nat) (lb : Array Value) (eg : ∀ args w, (callFunc g args).run Tryz.prog w = .ok (.enter g args) w) (A : Option Addr) (n c : Nat) (xs : List (Int × Int × Int × Int)) (w : World) (ok : (Int × Int × Int × Int) → Prop) (hok : ∀ x ∈ xs, ok x)
    (hp : Pred Tryz.prog g lb (fun x => .agg (eC x).toArray) ok p w) (hs : Sl w 4 eC A n c xs) :
    Calls Tryz.prog 140 #[.slice A n c, .func (.func g) #[] lb] w fun e w' => .returned (.int .i64 (idxP p xs)) = e ∧ Below w.heap.size w w' := by
  have hle := hs.le
  have hmax := hs.max
  go_enter Tryz.func140, Tryz.ntmps140
  go_wp2
  go_loopg [5, 8] n (fun gg _ s8 wr => ∃ kk : Nat, kk ≤ n ∧ n - kk ≤ gg ∧ s8 = .int .i64 kk ∧ Aside (Below w.heap.size w wr) ∧ Aside (∀ j y, j < kk → xs[j]? = some y → p y = false))
  case atStart => exact ⟨0, Nat.zero_le _, by omega, rfl, Below.refl _ w, fun j _ hj => absurd hj (Nat.not_lt_zero _)⟩
  case round =>
    obtain ⟨kk, hkk, hg, rfl, BW, AA⟩ := hrel
    by_cases hlt : kk < n
    · have hltz : (kk : Int) < (n : Int) := by omega
      obtain ⟨b, o, rfl, hb, hc⟩ := hs.cells (by omega)
      have hlx : kk < xs.length := by have := hs.len; omega
      have hx : xs[kk]? = some xs[kk] := List.getElem?_eq_getElem hlx
      have hcall := hp wr xs[kk] (hok _ (List.getElem_mem hlx)) BW.out
      have hc0 := (BW.out.cell (p := ⟨b, o + kk * 4 + 0, none⟩) hb).trans (hc kk _ hx 0 _ rfl)
      have hc1 := (BW.out.cell (p := ⟨b, o + kk * 4 + 1, none⟩) hb).trans (hc kk _ hx 1 _ rfl)
      have hc2 := (BW.out.cell (p := ⟨b, o + kk * 4 + 2, none⟩) hb).trans (hc kk _ hx 2 _ rfl)
      have hc3 := (BW.out.cell (p := ⟨b, o + kk * 4 + 3, none⟩) hb).trans (hc kk _ hx 3 _ rfl)
      clear hc hp hok
      have HX := Lib.hid hx
      clear hx
      generalize xs[kk] = y at hcall hc0 hc1 hc2 hc3 HX
      simp only [eC, Nat.add_zero, Nat.mul_one] at hcall hc0 hc1 hc2 hc3
      cases hq : p y with
      | true =>
        rw [hq] at hcall
        have HQ := Lib.hid hq
        clear hq
        go_wp2_with fail
        refine hcall.mono ?_
        rintro e w' ⟨rfl, hb'⟩
        go_wp2
        go_ret
        refine ⟨?_, BW.out.trans (hb'.mono BW.out.size)⟩
        rw [idxP_hit p xs kk y HX.out HQ.out AA.out]; rfl
      | false =>
        rw [hq] at hcall
        have HQ := Lib.hid hq
        clear hq
        go_wp2_with fail
        refine hcall.mono ?_
        rintro e w' ⟨rfl, hb'⟩
        go_wp2
        go_roundg (n - (kk + 1))
        case measure => omega
        case rel =>
          refine ⟨kk + 1, by omega, by omega, by go_num, BW.out.trans (hb'.mono BW.out.size), (show Aside _ from fun j z hj hz => ?_)⟩
          by_cases e : j = kk
          · subst e
            have := HX.out
            rw [this] at hz
            injection hz with hz
            rw [← hz]; exact HQ.out
          · exact AA.out j z (by omega) hz
    · have hltz : ¬ (kk : Int) < (n : Int) := by omega
      have : kk = n := by omega
      subst this
      go_wp2
      go_ret
      refine ⟨?_, BW.out⟩
      rw [idxP_miss p xs (fun j y hj hy => AA.out j y (by have := hs.len; omega) hy)]; rfl

theorem containsChan (p : (Int × Int × Int × Int) → Bool) (g : Nat) (lb : Array Value) (eg : ∀ args w, (callFunc g args).run Tryz.prog w = .ok (.enter g args) w) (A : Option Addr) (n c : Nat) (xs : List (Int × Int × Int × Int)) (w : World) (ok : (Int × Int × Int × Int) → Prop) (hok : ∀ x ∈ xs, ok x)
    (hp : Pred Tryz.prog g lb (fun x => .agg (eC x).toArray) ok p w) (hs : Sl w 4 eC A n c xs) :
    Calls Tryz.prog 116 #[.slice A n c, .func (.func g) #[] lb] w fun e w' => .returned (.bool (xs.any p)) = e ∧ Below w.heap.size w w' := by
  rw [← idxP_nonneg p xs]
  have hcall : ∀ W : World, W = w → Calls Tryz.prog 140 #[.slice A n c, .func (.func g) #[] lb] W fun e w' => .returned (.int .i64 (idxP p xs)) = e ∧ Below W.heap.size W w' := by
    rintro W rfl
    exact indexChan p g lb eg A n c xs _ ok hok hp hs
  have hc := hcall w rfl
  clear hcall hp hs
  generalize idxP p xs = i at hc ⊢
  go_enter Tryz.func116, Tryz.ntmps116
  go_wp2_with fail
  refine hc.mono ?_
  rintro e w' ⟨rfl, hb⟩
  go_wp2
  go_ret
  exact ⟨rfl, hb⟩
end Go.Proofs.YtckgdlgdipfgmaaGreat

namespace Go.Proofs.YtckgdlgdipfgmaaGreat
set_option linter.unusedVariables false
set_option linter.unusedSimpArgs false
open Go.RowKit Go.Shelf

set_option maxHeartbeats 400000 in
theorem indexInt (p : Int → Bool) (g : Nat) (lb : Array Value) (eg : ∀ args w, (callFunc g args).run Tryz.prog w = .ok (.enter g args) w) (A : Option Addr) (n c : Nat) (xs : List Int) (w : World) (ok : Int → Prop) (hok : ∀ x ∈ xs, ok x)
    (hp : Pred Tryz.prog g lb (fun x => .int .i64 x) ok p w) (hs : Sl w 1 eI A n c xs) :
    Calls Tryz.prog 146 #[.slice A n c, .func (.func g) #[] lb] w fun e w' => .returned (.int .i64 (idxP p xs)) = e ∧ Below w.heap.size w w' := by
  have hle := hs.le
  have hmax := hs.max
  go_enter Tryz.func146, Tryz.ntmps146
  go_wp2
  go_loopg [5, 8] n (fun gg _ s8 wr => ∃ kk : Nat, kk ≤ n ∧ n - kk ≤ gg ∧ s8 = .int .i64 kk ∧ Aside (Below w.heap.size w wr) ∧ Aside (∀ j y, j < kk → xs[j]? = some y → p y = false))
  case atStart => exact ⟨0, Nat.zero_le _, by omega, rfl, Below.refl _ w, fun j _ hj => absurd hj (Nat.not_lt_zero _)⟩
  case round =>
    obtain ⟨kk, hkk, hg, rfl, BW, AA⟩ := hrel
    by_cases hlt : kk < n
    · have hltz : (kk : Int) < (n : Int) := by omega
      obtain ⟨b, o, rfl, hb, hc⟩ := hs.cells (by omega)
      have hlx : kk < xs.length := by have := hs.len; omega
      have hx : xs[kk]? = some xs[kk] := List.getElem?_eq_getElem hlx
      have hcall := hp wr xs[kk] (hok _ (List.getElem_mem hlx)) BW.out
      have hc0 := (BW.out.cell (p := ⟨b, o + kk * 1 + 0, none⟩) hb).trans (hc kk _ hx 0 _ rfl)
      clear hc hp hok
      have HX := Lib.hid hx
      clear hx
      generalize xs[kk] = y at hcall hc0 HX
      simp only [eI, Nat.add_zero, Nat.mul_one] at hcall hc0
      cases hq : p y with
      | true =>
        rw [hq] at hcall
        have HQ := Lib.hid hq
        clear hq
        go_wp2_with fail
        refine hcall.mono ?_
        rintro e w' ⟨rfl, hb'⟩
        go_wp2
        go_ret
        refine ⟨?_, BW.out.trans (hb'.mono BW.out.size)⟩
        rw [idxP_hit p xs kk y HX.out HQ.out AA.out]; rfl
      | false =>
        rw [hq] at hcall
        have HQ := Lib.hid hq
        clear hq
        go_wp2_with fail
        refine hcall.mono ?_
        rintro e w' ⟨rfl, hb'⟩
        go_wp2
        go_roundg (n - (kk + 1))
        case measure => omega
        case rel =>
          refine ⟨kk + 1, by omega, by omega, by go_num, BW.out.trans (hb'.mono BW.out.size), (show Aside _ from fun j z hj hz => ?_)⟩
          by_cases e : j = kk
          · subst e
            have := HX.out
            rw [this] at hz
            injection hz with hz
            rw [← hz]; exact HQ.out
          · exact AA.out j z (by omega) hz
    · have hltz : ¬ (kk : Int) < (n : Int) := by omega
      have : kk = n := by omega
      subst this
      go_wp2
      go_ret
      refine ⟨?_, BW.out⟩
      rw [idxP_miss p xs (fun j y hj hy => AA.out j y (by have := hs.len; omega) hy)]; rfl

theorem containsInt (p : Int → Bool) (g : Nat) (lb : Array Value) (eg : ∀ args w, (callFunc g args).run Tryz.prog w = .ok (.enter g args) w) (A : Option Addr) (n c : Nat) (xs : List Int) (w : World) (ok : Int → Prop) (hok : ∀ x ∈ xs, ok x)
    (hp : Pred Tryz.prog g lb (fun x => .int .i64 x) ok p w) (hs : Sl w 1 eI A n c xs) :
    Calls Tryz.prog 126 #[.slice A n c, .func (.func g) #[] lb] w fun e w' => .returned (.bool (xs.any p)) = e ∧ Below w.heap.size w w' := by
  rw [← idxP_nonneg p xs]
  have hcall : ∀ W : World, W = w → Calls Tryz.prog 146 #[.slice A n c, .func (.func g) #[] lb] W fun e w' => .returned (.int .i64 (idxP p xs)) = e ∧ Below W.heap.size W w' := by
    rintro W rfl
    exact indexInt p g lb eg A n c xs _ ok hok hp hs
  have hc := hcall w rfl
  clear hcall hp hs
  generalize idxP p xs = i at hc ⊢
  go_enter Tryz.func126, Tryz.ntmps126
  go_wp2_with fail
  refine hc.mono ?_
  rintro e w' ⟨rfl, hb⟩
  go_wp2
  go_ret
  exact ⟨rfl, hb⟩
end Go.Proofs.YtckgdlgdipfgmaaGreat

namespace Go.Proofs.YtckgdlgdipfgmaaGreat
set_option linter.unusedVariables false
set_option linter.unusedSimpArgs false
open Go.RowKit Go.Shelf

def sizedOk (kind size : Int) : Bool := (kind == 1 && size == 1) || ((kind == 2 || kind == 3) && inB size 1 4)
def holdOk (xs : List Int) (kind size : Int) : Bool := sizedOk kind size && (decide ((xs.length : Int) ≤ size) && xs.all fun x => inB x 0 255)
theorem any_notH (p : Int → Bool) (xs : List Int) : (!xs.any fun x => !p x) = xs.all p := by
  induction xs with
  | nil => rfl
  | cons a l ih => simp [← ih]

theorem sized_any (kind size : Int) (w : World) : Calls Tryz.prog 129 #[.int .i64 kind, .int .i64 size] w fun e w' => .returned (.bool (sizedOk kind size)) = e ∧ w = w' := by
  unfold sizedOk
  by_cases h1 : kind = 1
  · subst h1
    by_cases h2 : size = 1
    · subst h2
      go_enter Tryz.func129, Tryz.ntmps129
      go_wp2
      go_ret
      exact ⟨rfl, rfl⟩
    · have h3 : (size == (1 : Int)) = false := by simpa using h2
      rw [h3]
      clear h2
      go_enter Tryz.func129, Tryz.ntmps129
      go_wp2
      go_ret
      exact ⟨by simp, rfl⟩
  · have h3 : (kind == (1 : Int)) = false := by simpa using h1
    rw [h3]
    clear h1
    have hc := fun W => in_any size 1 4 W
    generalize inB size 1 4 = v at *
    by_cases h1 : kind = 2
    · subst h1
      go_enter Tryz.func129, Tryz.ntmps129
      go_wp2_with fail
      refine (hc _).mono ?_; rintro e w' ⟨rfl, rfl⟩
      go_wp2
      go_ret
      exact ⟨by simp, rfl⟩
    · have h4 : (kind == (2 : Int)) = false := by simpa using h1
      rw [h4]
      clear h1
      by_cases h1 : kind = 3
      · subst h1
        go_enter Tryz.func129, Tryz.ntmps129
        go_wp2_with fail
        refine (hc _).mono ?_; rintro e w' ⟨rfl, rfl⟩
        go_wp2
        go_ret
        exact ⟨by simp, rfl⟩
      · have h5 : (kind == (3 : Int)) = false := by simpa using h1
        rw [h5]
        clear h1 hc
        go_enter Tryz.func129, Tryz.ntmps129
        go_wp2
        go_ret
        exact ⟨by simp, rfl⟩

theorem isValue_any (n : Int) (w : World) : Calls Tryz.prog 128 #[.int .i64 n] w fun e w' => .returned (.bool (inB n 0 255)) = e ∧ w = w' := by
  go_enter Tryz.func128, Tryz.ntmps128
  go_wp2_with (go_at_call 79; refine (in_any _ _ _ _).mono ?_; rintro e w1 ⟨rfl, rfl⟩)
  go_ret
  exact ⟨rfl, rfl⟩
theorem holdBad_any (n : Int) (w : World) : Calls Tryz.prog 130 #[.int .i64 n] w fun e w' => .returned (.bool (!inB n 0 255)) = e ∧ Below w.heap.size w w' := by
  go_enter Tryz.func130, Tryz.ntmps130
  go_wp2_with (go_at_call 128; refine (isValue_any _ _).mono ?_; rintro e w1 ⟨rfl, rfl⟩)
  go_ret
  exact ⟨rfl, Below.refl _ _⟩
theorem enters_hold (args : Array Value) (w : World) : (callFunc 130 args).run Tryz.prog w = .ok (.enter 130 args) w := enters_of Tryz.func130 (by kernel_rfl) rfl args w

theorem holdValid_any (A : Option Addr) (n c : Nat) (xs : List Int) (kind size : Int) (w : World) (hs : Sl w 1 eI A n c xs) :
    Calls Tryz.prog 101 #[.agg #[.slice A n c], .int .i64 kind, .int .i64 size] w fun e w' => .returned (.bool (holdOk xs kind size)) = e ∧ Below w.heap.size w w' := by
  have hl := hs.len
  have hle := hs.le
  have hmax := hs.max
  have hB1 := (Below.refl w.heap.size w).alloc (Nat.le_refl _) (.cells #[.slice A n c] 80)
  unfold holdOk
  rw [hl, ← any_notH]
  have hc1 := fun W => sized_any kind size W
  have hc2 := containsInt (fun x => !inB x 0 255) _ #[] enters_hold A n c xs _ (fun _ => True) (fun _ _ => trivial) (fun W x _ _ => holdBad_any x W) (hs.below hB1)
  generalize sizedOk kind size = v1 at *
  generalize (xs.any fun x => !inB x 0 255) = v2 at *
  clear hs hl
  cases v1
  · clear hc2
    go_enter Tryz.func101, Tryz.ntmps101
    go_wp2_with fail
    refine (hc1 _).mono ?_; rintro e w' ⟨rfl, rfl⟩
    go_wp2
    go_ret
    exact ⟨rfl, hB1⟩
  · by_cases h : (n : Int) ≤ size
    · go_enter Tryz.func101, Tryz.ntmps101
      go_wp2_with fail
      refine (hc1 _).mono ?_; rintro e w' ⟨rfl, rfl⟩
      go_wp2_with fail
      refine hc2.mono ?_; rintro e w2 ⟨rfl, hb2⟩
      go_wp2
      go_ret
      exact ⟨by rw [decide_eq_true h]; cases v2 <;> rfl, thn hB1 hb2⟩
    · clear hc2
      have h' : decide ((n : Int) ≤ size) = false := by simpa using h
      go_enter Tryz.func101, Tryz.ntmps101
      go_wp2_with fail
      refine (hc1 _).mono ?_; rintro e w' ⟨rfl, rfl⟩
      go_wp2
      go_ret
      exact ⟨by rw [h']; rfl, hB1⟩

theorem specHoldValid_any (A : Option Addr) (n c : Nat) (xs : List Int) (kind size : Int) (w : World) (hs : Sl w 1 eI A n c xs) :
    Calls Tryz.prog 70 #[.agg #[.slice A n c], .int .i64 kind, .int .i64 size] w fun e w' => .returned (.bool (holdOk xs kind size)) = e ∧ Below w.heap.size w w' := by
  have hle := hs.le
  have hmax := hs.max
  have hB1 := (Below.refl w.heap.size w).alloc (Nat.le_refl _) (.cells #[.slice A n c] 80)
  go_enter Tryz.func70, Tryz.ntmps70
  go_wp2
  go_loopg [7] n (fun gg s3 wr => ∃ kk : Nat, kk ≤ n ∧ n - kk ≤ gg ∧ s3 = .int .i64 kk ∧ Aside (w.alloc (.cells #[.slice A n c] 80) = wr) ∧ Aside (∀ j y, j < kk → xs[j]? = some y → (fun x => inB x 0 255) y = true))
  case atStart => exact ⟨0, Nat.zero_le _, by omega, rfl, (show Aside _ from rfl), fun j _ hj => absurd hj (Nat.not_lt_zero _)⟩
  case round =>
    obtain ⟨kk, hkk, hg, rfl, BW, AA⟩ := hrel
    have hw := BW.out
    clear BW
    subst hw
    have BW : Aside (Below w.heap.size w (w.alloc (.cells #[.slice A n c] 80))) := hB1
    clear hB1
    by_cases hlt : kk < n
    · have hltz : (kk : Int) < (n : Int) := by omega
      obtain ⟨b, o, rfl, hb, hc⟩ := hs.cells (by omega)
      have hlx : kk < xs.length := by have := hs.len; omega
      have hx : xs[kk]? = some xs[kk] := List.getElem?_eq_getElem hlx
      have hc0 := (BW.out.cell (p := ⟨b, o + kk * 1 + 0, none⟩) hb).trans (hc kk _ hx 0 _ rfl)
      clear hc
      have HX := Lib.hid hx
      clear hx
      generalize xs[kk] = y at hc0 HX
      simp only [eI, Nat.add_zero, Nat.mul_one] at hc0
      have hc1 := fun W => l1In_any y 0 255 W
      cases hq : inB y 0 255
      all_goals
        simp only [hq] at hc1
        have HQ := Lib.hid hq
        clear hq
        go_wp2_with fail
        refine (hc1 _).mono ?_
        rintro e w' ⟨rfl, rfl⟩
        go_wp2
      · go_ret
        exact ⟨by rw [holdOk, all_fails HX.out HQ.out, Bool.and_false, Bool.and_false]; rfl, BW.out⟩
      · go_roundg (n - (kk + 1))
        case measure => omega
        case rel => exact ⟨kk + 1, by omega, by omega, by go_num, (show Aside _ from rfl), (show Aside _ from all_step AA.out HX.out HQ.out)⟩
    · have hltz : ¬ (kk : Int) < (n : Int) := by omega
      obtain rfl : kk = n := by omega
      have hl := Lib.hid hs.len
      have hc1 := fun W => l1In_any kind 1 3 W
      have hc2 := fun W => l1In_any size 1 4 W
      have hq := Lib.hid (show holdOk xs kind size = (inB kind 1 3 && (inB size 1 4 && ((!(kind == 1) || size == 1) && decide ((kk : Int) ≤ size)))) by
        rw [holdOk, all_holds hl.out AA.out, hl.out, Bool.and_true, Bool.eq_iff_iff]
        simp only [sizedOk, Bool.and_eq_true, Bool.or_eq_true, beq_iff_eq, inB_true, Bool.not_eq_true', decide_eq_true_eq, beq_eq_false_iff_ne]
        omega)
      generalize inB kind 1 3 = v1 at *
      generalize inB size 1 4 = v2 at *
      cases v1
      · go_wp2_with fail
        refine (hc1 _).mono ?_; rintro e w' ⟨rfl, rfl⟩
        go_wp2
        go_ret
        exact ⟨by rw [hq.out]; rfl, BW.out⟩
      · cases v2
        · go_wp2_with fail
          refine (hc1 _).mono ?_; rintro e w' ⟨rfl, rfl⟩
          go_wp2_with fail
          refine (hc2 _).mono ?_; rintro e w' ⟨rfl, rfl⟩
          go_wp2
          go_ret
          exact ⟨by rw [hq.out]; rfl, BW.out⟩
        · by_cases h1 : kind = 1
          · subst h1
            by_cases h2 : size = 1
            · subst h2
              go_wp2_with fail
              refine (hc1 _).mono ?_; rintro e w' ⟨rfl, rfl⟩
              go_wp2_with fail
              refine (hc2 _).mono ?_; rintro e w' ⟨rfl, rfl⟩
              go_wp2
              go_ret
              exact ⟨by rw [hq.out]; simp, BW.out⟩
            · have h3 : (size == (1 : Int)) = false := by simpa using h2
              go_wp2_with fail
              refine (hc1 _).mono ?_; rintro e w' ⟨rfl, rfl⟩
              go_wp2_with fail
              refine (hc2 _).mono ?_; rintro e w' ⟨rfl, rfl⟩
              go_wp2
              go_ret
              exact ⟨by rw [hq.out]; simp [h2], BW.out⟩
          · have h3 : (kind == (1 : Int)) = false := by simpa using h1
            have h4 : (kind != (1 : Int)) = true := by simpa using h1
            go_wp2_with fail
            refine (hc1 _).mono ?_; rintro e w' ⟨rfl, rfl⟩
            go_wp2_with fail
            refine (hc2 _).mono ?_; rintro e w' ⟨rfl, rfl⟩
            go_wp2
            go_ret
            exact ⟨by rw [hq.out]; simp [h1], BW.out⟩
end Go.Proofs.YtckgdlgdipfgmaaGreat

namespace Go.Proofs.YtckgdlgdipfgmaaGreat
set_option linter.unusedVariables false
set_option linter.unusedSimpArgs false
open Go.RowKit Go.Shelf

def chanOk (parts : Int) (x : Int × Int × Int × Int) : Bool := sizedOk x.1 x.2.2.2 && (inB x.2.1 0 (parts - 1) && (inB x.2.2.1 0 (parts - 1) && !(x.2.1 == x.2.2.1)))
def chansOk (xs : List (Int × Int × Int × Int)) (parts : Int) : Bool := inB parts 0 5 && (decide ((xs.length : Int) ≤ 8) && xs.all (chanOk parts))
theorem any_notC (p : Int × Int × Int × Int → Bool) (xs : List (Int × Int × Int × Int)) : (!xs.any fun x => !p x) = xs.all p := by
  induction xs with
  | nil => rfl
  | cons a l ih => simp [← ih]

/-- The closure of ChannelsValid: its captured variable lies in block q. -/
theorem chanBad_any (x : Int × Int × Int × Int) (parts : Int) (hp : 0 ≤ parts ∧ parts ≤ 5) (q : Nat) (w : World) (h1 : w.cell? ⟨q, 0, none⟩ = some (.int .i64 parts)) (hq : q < w.heap.size) :
    Calls Tryz.prog 137 #[.agg (eC x).toArray, .pointer (some ⟨q, 0, none⟩)] w fun e w' => .returned (.bool (!chanOk parts x)) = e ∧ Below w.heap.size w w' := by
  obtain ⟨a, b, c, d⟩ := x
  obtain ⟨hp0, hp1⟩ := hp
  unfold chanOk
  have hc1 := fun W => sized_any a d W
  have hc2 := fun W => in_any b 0 (parts - 1) W
  have hc3 := fun W => in_any c 0 (parts - 1) W
  have g1 : (w.alloc (.cells #[.int .i64 a, .int .i64 b, .int .i64 c, .int .i64 d] 78)).cell? ⟨q, 0, none⟩ = some (.int .i64 parts) := (World.cell?_alloc_lt w _ ⟨q, 0, none⟩ hq).trans h1
  simp only [eC]
  generalize sizedOk a d = v1 at *
  generalize inB b 0 (parts - 1) = v2 at *
  generalize inB c 0 (parts - 1) = v3 at *
  clear h1
  cases v1
  · go_enter Tryz.func137, Tryz.ntmps137
    go_wp2_with fail; refine (hc1 _).mono ?_; rintro e w' ⟨rfl, rfl⟩
    go_wp2
    go_ret
    exact ⟨rfl, (by repeat (first | exact Below.refl _ _ | assumption | apply alo | (apply Below.setCell; rotate_left; (first | assumption | exact Nat.le_refl _ | (simp only []; omega))) | apply Below.drew | apply belowDrewN | (refine thn ?_ (by assumption))))⟩
  · cases v2
    · go_enter Tryz.func137, Tryz.ntmps137
      go_wp2_with fail; refine (hc1 _).mono ?_; rintro e w' ⟨rfl, rfl⟩
      go_wp2_with fail; refine (hc2 _).mono ?_; rintro e w' ⟨rfl, rfl⟩
      go_wp2
      go_ret
      exact ⟨rfl, (by repeat (first | exact Below.refl _ _ | assumption | apply alo | (apply Below.setCell; rotate_left; (first | assumption | exact Nat.le_refl _ | (simp only []; omega))) | apply Below.drew | apply belowDrewN | (refine thn ?_ (by assumption))))⟩
    · cases v3
      · go_enter Tryz.func137, Tryz.ntmps137
        go_wp2_with fail; refine (hc1 _).mono ?_; rintro e w' ⟨rfl, rfl⟩
        go_wp2_with fail; refine (hc2 _).mono ?_; rintro e w' ⟨rfl, rfl⟩
        go_wp2_with fail; refine (hc3 _).mono ?_; rintro e w' ⟨rfl, rfl⟩
        go_wp2
        go_ret
        exact ⟨rfl, (by repeat (first | exact Below.refl _ _ | assumption | apply alo | (apply Below.setCell; rotate_left; (first | assumption | exact Nat.le_refl _ | (simp only []; omega))) | apply Below.drew | apply belowDrewN | (refine thn ?_ (by assumption))))⟩
      · go_enter Tryz.func137, Tryz.ntmps137
        go_wp2_with fail; refine (hc1 _).mono ?_; rintro e w' ⟨rfl, rfl⟩
        go_wp2_with fail; refine (hc2 _).mono ?_; rintro e w' ⟨rfl, rfl⟩
        go_wp2_with fail; refine (hc3 _).mono ?_; rintro e w' ⟨rfl, rfl⟩
        go_wp2
        go_ret
        exact ⟨by simp, (by repeat (first | exact Below.refl _ _ | assumption | apply alo | (apply Below.setCell; rotate_left; (first | assumption | exact Nat.le_refl _ | (simp only []; omega))) | apply Below.drew | apply belowDrewN | (refine thn ?_ (by assumption))))⟩
theorem enters_chan (args : Array Value) (w : World) : (callFunc 137 args).run Tryz.prog w = .ok (.enter 137 args) w := enters_of Tryz.func137 (by kernel_rfl) rfl args w

theorem channelsValid_any (A : Option Addr) (n c : Nat) (xs : List (Int × Int × Int × Int)) (parts : Int) (w : World) (hs : Sl w 4 eC A n c xs) :
    Calls Tryz.prog 114 #[.slice A n c, .int .i64 parts] w fun e w' => .returned (.bool (chansOk xs parts)) = e ∧ Below w.heap.size w w' := by
  have hl := hs.len
  have hle := hs.le
  have hmax := hs.max
  unfold chansOk
  rw [hl]
  have hc1 := fun W => in_any parts 0 5 W
  have hp := @inB_true parts 0 5
  have hB1 := (Below.refl w.heap.size w).alloc (Nat.le_refl _) (.cells #[.int .i64 parts] 3)
  generalize inB parts 0 5 = v1 at *
  clear hl
  cases v1
  · clear hs hp
    go_enter Tryz.func114, Tryz.ntmps114
    go_wp2_with fail; refine (hc1 _).mono ?_; rintro e w' ⟨rfl, rfl⟩
    go_wp2
    go_ret
    exact ⟨rfl, hB1⟩
  · by_cases hn : (n : Int) ≤ 8
    · have hp' := hp.1 rfl
      clear hp
      have hidx : Calls Tryz.prog 116 #[.slice A n c, .func (.func 137) #[] #[.pointer (some ⟨w.heap.size, 0, none⟩)]] (w.alloc (.cells #[.int .i64 parts] 3)) fun e w' => .returned (.bool (xs.any fun x => !chanOk parts x)) = e ∧ Below (w.alloc (.cells #[.int .i64 parts] 3)).heap.size (w.alloc (.cells #[.int .i64 parts] 3)) w' := by
        refine containsChan (fun x => !chanOk parts x) _ _ enters_chan A n c xs _ (fun _ => True) (fun _ _ => trivial) ?_ (hs.below hB1)
        intro V x _ hV
        refine chanBad_any x parts hp' w.heap.size V ?_ (by have := hV.size; simp at this; omega)
        rw [hV.cell (p := ⟨w.heap.size, 0, none⟩) (by simp)]; simp
      rw [← any_notC]
      generalize (xs.any fun x => !chanOk parts x) = v at hidx ⊢
      clear hs hp'
      have hmf : ∀ (fn : Fn) (first cap : Array Value) (w : World), (Instr.makeFunc fn first cap).run Tryz.prog w = .ok (.func fn first cap) w := fun _ _ _ _ => rfl
      go_enter Tryz.func114, Tryz.ntmps114
      go_wp2_with fail; refine (hc1 _).mono ?_; rintro e w' ⟨rfl, rfl⟩
      go_wp2_with fail
      refine hidx.mono ?_
      rintro e w2 ⟨rfl, hb2⟩
      go_wp2
      go_ret
      exact ⟨by rw [decide_eq_true hn]; cases v <;> rfl, thn hB1 hb2⟩
    · have hn' : decide ((n : Int) ≤ 8) = false := by simpa using hn
      clear hp hs
      go_enter Tryz.func114, Tryz.ntmps114
      go_wp2_with fail; refine (hc1 _).mono ?_; rintro e w' ⟨rfl, rfl⟩
      go_wp2
      go_ret
      exact ⟨by rw [hn']; rfl, hB1⟩

theorem chanOk_spec (parts a b c d : Int) : chanOk parts (a, b, c, d) = (inB a 1 3 && (inB b 0 (parts - 1) && (inB c 0 (parts - 1) && (!(b == c) && (inB d 1 4 && (!(a == 1) || d == 1)))))) := by
  rw [Bool.eq_iff_iff]
  simp only [chanOk, sizedOk, Bool.and_eq_true, Bool.or_eq_true, beq_iff_eq, inB_true, Bool.not_eq_true', decide_eq_true_eq, beq_eq_false_iff_ne, ne_eq]
  omega

set_option maxHeartbeats 2000000 in
theorem specChannelsValid_any (A : Option Addr) (n c : Nat) (xs : List (Int × Int × Int × Int)) (parts : Int) (hp : -1000 ≤ parts ∧ parts ≤ 1000) (w : World) (hs : Sl w 4 eC A n c xs) :
    Calls Tryz.prog 71 #[.slice A n c, .int .i64 parts] w fun e w' => .returned (.bool (chansOk xs parts)) = e ∧ Below w.heap.size w w' := by
  have hle := hs.le
  have hmax := hs.max
  obtain ⟨hp0, hp1⟩ := hp
  skip
  go_enter Tryz.func71, Tryz.ntmps71
  go_wp2
  go_loopg [5] n (fun gg s3 wr => ∃ kk : Nat, kk ≤ n ∧ n - kk ≤ gg ∧ s3 = .int .i64 kk ∧ Aside (Below w.heap.size w wr) ∧ Aside (∀ j y, j < kk → xs[j]? = some y → (chanOk parts) y = true))
  case atStart => exact ⟨0, Nat.zero_le _, by omega, rfl, (show Aside _ from (by repeat (first | exact Below.refl _ _ | assumption | apply alo | (apply Below.setCell; rotate_left; (first | assumption | exact Nat.le_refl _ | (simp only []; omega))) | apply Below.drew | apply belowDrewN | (refine thn ?_ (by assumption))))), fun j _ hj => absurd hj (Nat.not_lt_zero _)⟩
  case round =>
    obtain ⟨kk, hkk, hg, rfl, BW, AA⟩ := hrel
    by_cases hlt : kk < n
    · have hltz : (kk : Int) < (n : Int) := by omega
      obtain ⟨b, o, rfl, hb, hc⟩ := hs.cells (by omega)
      have hlx : kk < xs.length := by have := hs.len; omega
      have hx : xs[kk]? = some xs[kk] := List.getElem?_eq_getElem hlx
      have hc0 := (BW.out.cell (p := ⟨b, o + kk * 4 + 0, none⟩) hb).trans (hc kk _ hx 0 _ rfl)
      have hc1 := (BW.out.cell (p := ⟨b, o + kk * 4 + 1, none⟩) hb).trans (hc kk _ hx 1 _ rfl)
      have hc2 := (BW.out.cell (p := ⟨b, o + kk * 4 + 2, none⟩) hb).trans (hc kk _ hx 2 _ rfl)
      have hc3 := (BW.out.cell (p := ⟨b, o + kk * 4 + 3, none⟩) hb).trans (hc kk _ hx 3 _ rfl)
      clear hc
      have HX := Lib.hid hx
      clear hx
      generalize xs[kk] = y at hc0 hc1 hc2 hc3 HX
      simp only [eC, Nat.add_zero, Nat.mul_one] at hc0 hc1 hc2 hc3
      obtain ⟨ka, kb, kc, kd⟩ := y
      have HQ := Lib.hid (chanOk_spec parts ka kb kc kd)
      have hq1 := fun W => l1In_any ka 1 3 W
      have hq2 := fun W => l1In_any kb 0 (parts - 1) W
      have hq3 := fun W => l1In_any kc 0 (parts - 1) W
      have hq5 := fun W => l1In_any kd 1 4 W
      generalize inB ka 1 3 = v1 at *
      generalize inB kb 0 (parts - 1) = v2 at *
      generalize inB kc 0 (parts - 1) = v3 at *
      generalize inB kd 1 4 = v5 at *
      simp only [] at hc0 hc1 hc2 hc3
      cases v1
      · go_wp2_with fail; refine (hq1 _).mono ?_; rintro e w' ⟨rfl, rfl⟩
        go_wp2
        go_ret
        exact ⟨by rw [chansOk, all_fails HX.out (by rw [HQ.out]; rfl), Bool.and_false, Bool.and_false]; rfl, alo BW.out _⟩
      · cases v2
        · go_wp2_with fail; refine (hq1 _).mono ?_; rintro e w' ⟨rfl, rfl⟩
          go_wp2_with fail; refine (hq2 _).mono ?_; rintro e w' ⟨rfl, rfl⟩
          go_wp2
          go_ret
          exact ⟨by rw [chansOk, all_fails HX.out (by rw [HQ.out]; rfl), Bool.and_false, Bool.and_false]; rfl, alo BW.out _⟩
        · cases v3
          · go_wp2_with fail; refine (hq1 _).mono ?_; rintro e w' ⟨rfl, rfl⟩
            go_wp2_with fail; refine (hq2 _).mono ?_; rintro e w' ⟨rfl, rfl⟩
            go_wp2_with fail; refine (hq3 _).mono ?_; rintro e w' ⟨rfl, rfl⟩
            go_wp2
            go_ret
            exact ⟨by rw [chansOk, all_fails HX.out (by rw [HQ.out]; rfl), Bool.and_false, Bool.and_false]; rfl, alo BW.out _⟩
          · by_cases hbc : kb = kc
            · subst hbc
              go_wp2_with fail; refine (hq1 _).mono ?_; rintro e w' ⟨rfl, rfl⟩
              go_wp2_with fail; refine (hq2 _).mono ?_; rintro e w' ⟨rfl, rfl⟩
              go_wp2_with fail; refine (hq3 _).mono ?_; rintro e w' ⟨rfl, rfl⟩
              go_wp2
              go_ret
              exact ⟨by rw [chansOk, all_fails HX.out (by rw [HQ.out]; simp), Bool.and_false, Bool.and_false]; rfl, alo BW.out _⟩
            · have hbc' : (kb == kc) = false := by simpa using hbc
              cases v5
              · go_wp2_with fail; refine (hq1 _).mono ?_; rintro e w' ⟨rfl, rfl⟩
                go_wp2_with fail; refine (hq2 _).mono ?_; rintro e w' ⟨rfl, rfl⟩
                go_wp2_with fail; refine (hq3 _).mono ?_; rintro e w' ⟨rfl, rfl⟩
                go_wp2_with fail; refine (hq5 _).mono ?_; rintro e w' ⟨rfl, rfl⟩
                go_wp2
                go_ret
                exact ⟨by rw [chansOk, all_fails HX.out (by rw [HQ.out]; simp), Bool.and_false, Bool.and_false]; rfl, alo BW.out _⟩
              · by_cases ha : ka = 1
                · subst ha
                  by_cases hd : kd = 1
                  · subst hd
                    go_wp2_with fail; refine (hq1 _).mono ?_; rintro e w' ⟨rfl, rfl⟩
                    go_wp2_with fail; refine (hq2 _).mono ?_; rintro e w' ⟨rfl, rfl⟩
                    go_wp2_with fail; refine (hq3 _).mono ?_; rintro e w' ⟨rfl, rfl⟩
                    go_wp2_with fail; refine (hq5 _).mono ?_; rintro e w' ⟨rfl, rfl⟩
                    go_wp2
                    go_roundg (n - (kk + 1))
                    case measure => omega
                    case rel => exact ⟨kk + 1, by omega, by omega, by go_num, (show Aside _ from alo BW.out _), (show Aside _ from all_step AA.out HX.out (by rw [HQ.out]; simp [hbc]))⟩
                  · have hd' : (kd == (1 : Int)) = false := by simpa using hd
                    have hd2 : (kd != (1 : Int)) = true := by simpa using hd
                    go_wp2_with fail; refine (hq1 _).mono ?_; rintro e w' ⟨rfl, rfl⟩
                    go_wp2_with fail; refine (hq2 _).mono ?_; rintro e w' ⟨rfl, rfl⟩
                    go_wp2_with fail; refine (hq3 _).mono ?_; rintro e w' ⟨rfl, rfl⟩
                    go_wp2_with fail; refine (hq5 _).mono ?_; rintro e w' ⟨rfl, rfl⟩
                    go_wp2
                    go_ret
                    exact ⟨by rw [chansOk, all_fails HX.out (by rw [HQ.out]; simp [hd]), Bool.and_false, Bool.and_false]; rfl, alo BW.out _⟩
                · have ha' : (ka == (1 : Int)) = false := by simpa using ha
                  go_wp2_with fail; refine (hq1 _).mono ?_; rintro e w' ⟨rfl, rfl⟩
                  go_wp2_with fail; refine (hq2 _).mono ?_; rintro e w' ⟨rfl, rfl⟩
                  go_wp2_with fail; refine (hq3 _).mono ?_; rintro e w' ⟨rfl, rfl⟩
                  go_wp2_with fail; refine (hq5 _).mono ?_; rintro e w' ⟨rfl, rfl⟩
                  go_wp2
                  go_roundg (n - (kk + 1))
                  case measure => omega
                  case rel => exact ⟨kk + 1, by omega, by omega, by go_num, (show Aside _ from alo BW.out _), (show Aside _ from all_step AA.out HX.out (by rw [HQ.out]; simp [hbc, ha]))⟩
    · have hltz : ¬ (kk : Int) < (n : Int) := by omega
      obtain rfl : kk = n := by omega
      have hl := Lib.hid hs.len
      have hq1 := fun W => l1In_any parts 0 5 W
      have hq := Lib.hid (show chansOk xs parts = (inB parts 0 5 && decide ((kk : Int) ≤ 8)) by rw [chansOk, all_holds hl.out AA.out, hl.out, Bool.and_true])
      generalize inB parts 0 5 = v1 at *
      by_cases h8 : (kk : Int) ≤ 8
      · go_wp2_with fail
        refine (hq1 _).mono ?_; rintro e w' ⟨rfl, rfl⟩
        go_wp2
        go_ret
        exact ⟨by rw [hq.out, decide_eq_true h8, Bool.and_true]; rfl, BW.out⟩
      · have h8' : decide ((kk : Int) ≤ 8) = false := by simpa using h8
        go_wp2
        go_ret
        exact ⟨by rw [hq.out, h8', Bool.and_false]; rfl, BW.out⟩
end Go.Proofs.YtckgdlgdipfgmaaGreat

namespace Go.Proofs.YtckgdlgdipfgmaaGreat
set_option linter.unusedVariables false
set_option linter.unusedSimpArgs false
open Go.RowKit Go.Shelf

set_option maxHeartbeats 400000 in
theorem indexSlot (p : (Int × Int) → Bool) (g : Nat) (lb : Array Value) (eg : ∀ args w, (callFunc g args).run Tryz.prog w = .ok (.enter g args) w) (A : Option Addr) (n c : Nat) (xs : List (Int × Int)) (w : World) (ok : (Int × Int) → Prop) (hok : ∀ x ∈ xs, ok x)
    (hp : Pred Tryz.prog g lb (fun x => .agg (eS x).toArray) ok p w) (hs : Sl w 2 eS A n c xs) :
    Calls Tryz.prog 153 #[.slice A n c, .func (.func g) #[] lb] w fun e w' => .returned (.int .i64 (idxP p xs)) = e ∧ Below w.heap.size w w' := by
  have hle := hs.le
  have hmax := hs.max
  go_enter Tryz.func153, Tryz.ntmps153
  go_wp2
  go_loopg [5, 8] n (fun gg _ s8 wr => ∃ kk : Nat, kk ≤ n ∧ n - kk ≤ gg ∧ s8 = .int .i64 kk ∧ Aside (Below w.heap.size w wr) ∧ Aside (∀ j y, j < kk → xs[j]? = some y → p y = false))
  case atStart => exact ⟨0, Nat.zero_le _, by omega, rfl, Below.refl _ w, fun j _ hj => absurd hj (Nat.not_lt_zero _)⟩
  case round =>
    obtain ⟨kk, hkk, hg, rfl, BW, AA⟩ := hrel
    by_cases hlt : kk < n
    · have hltz : (kk : Int) < (n : Int) := by omega
      obtain ⟨b, o, rfl, hb, hc⟩ := hs.cells (by omega)
      have hlx : kk < xs.length := by have := hs.len; omega
      have hx : xs[kk]? = some xs[kk] := List.getElem?_eq_getElem hlx
      have hcall := hp wr xs[kk] (hok _ (List.getElem_mem hlx)) BW.out
      have hc0 := (BW.out.cell (p := ⟨b, o + kk * 2 + 0, none⟩) hb).trans (hc kk _ hx 0 _ rfl)
      have hc1 := (BW.out.cell (p := ⟨b, o + kk * 2 + 1, none⟩) hb).trans (hc kk _ hx 1 _ rfl)
      clear hc hp hok
      have HX := Lib.hid hx
      clear hx
      generalize xs[kk] = y at hcall hc0 hc1 HX
      simp only [eS, Nat.add_zero, Nat.mul_one] at hcall hc0 hc1
      cases hq : p y with
      | true =>
        rw [hq] at hcall
        have HQ := Lib.hid hq
        clear hq
        go_wp2_with fail
        refine hcall.mono ?_
        rintro e w' ⟨rfl, hb'⟩
        go_wp2
        go_ret
        refine ⟨?_, BW.out.trans (hb'.mono BW.out.size)⟩
        rw [idxP_hit p xs kk y HX.out HQ.out AA.out]; rfl
      | false =>
        rw [hq] at hcall
        have HQ := Lib.hid hq
        clear hq
        go_wp2_with fail
        refine hcall.mono ?_
        rintro e w' ⟨rfl, hb'⟩
        go_wp2
        go_roundg (n - (kk + 1))
        case measure => omega
        case rel =>
          refine ⟨kk + 1, by omega, by omega, by go_num, BW.out.trans (hb'.mono BW.out.size), (show Aside _ from fun j z hj hz => ?_)⟩
          by_cases e : j = kk
          · subst e
            have := HX.out
            rw [this] at hz
            injection hz with hz
            rw [← hz]; exact HQ.out
          · exact AA.out j z (by omega) hz
    · have hltz : ¬ (kk : Int) < (n : Int) := by omega
      have : kk = n := by omega
      subst this
      go_wp2
      go_ret
      refine ⟨?_, BW.out⟩
      rw [idxP_miss p xs (fun j y hj hy => AA.out j y (by have := hs.len; omega) hy)]; rfl

theorem containsSlot (p : (Int × Int) → Bool) (g : Nat) (lb : Array Value) (eg : ∀ args w, (callFunc g args).run Tryz.prog w = .ok (.enter g args) w) (A : Option Addr) (n c : Nat) (xs : List (Int × Int)) (w : World) (ok : (Int × Int) → Prop) (hok : ∀ x ∈ xs, ok x)
    (hp : Pred Tryz.prog g lb (fun x => .agg (eS x).toArray) ok p w) (hs : Sl w 2 eS A n c xs) :
    Calls Tryz.prog 138 #[.slice A n c, .func (.func g) #[] lb] w fun e w' => .returned (.bool (xs.any p)) = e ∧ Below w.heap.size w w' := by
  rw [← idxP_nonneg p xs]
  have hcall : ∀ W : World, W = w → Calls Tryz.prog 153 #[.slice A n c, .func (.func g) #[] lb] W fun e w' => .returned (.int .i64 (idxP p xs)) = e ∧ Below W.heap.size W w' := by
    rintro W rfl
    exact indexSlot p g lb eg A n c xs _ ok hok hp hs
  have hc := hcall w rfl
  clear hcall hp hs
  generalize idxP p xs = i at hc ⊢
  go_enter Tryz.func138, Tryz.ntmps138
  go_wp2_with fail
  refine hc.mono ?_
  rintro e w' ⟨rfl, hb⟩
  go_wp2
  go_ret
  exact ⟨rfl, hb⟩
end Go.Proofs.YtckgdlgdipfgmaaGreat

namespace Go.Proofs.YtckgdlgdipfgmaaGreat
set_option linter.unusedVariables false
set_option linter.unusedSimpArgs false
open Go.RowKit Go.Shelf

def slotOk (parts : Int) (x : Int × Int) : Bool := inB x.2 1 20 && inB x.1 (-1) (parts - 1)
def slotsOk (xs : List (Int × Int)) (parts : Int) : Bool := inB parts 0 5 && (inB xs.length 1 12 && xs.all (slotOk parts))
theorem any_notS (p : Int × Int → Bool) (xs : List (Int × Int)) : (!xs.any fun x => !p x) = xs.all p := by
  induction xs with
  | nil => rfl
  | cons a l ih => simp [← ih]

/-- The closure of SlotsValid: its captured variable lies in block q. -/
theorem slotBad_any (x : Int × Int) (parts : Int) (hp : 0 ≤ parts ∧ parts ≤ 5) (q : Nat) (w : World) (h1 : w.cell? ⟨q, 0, none⟩ = some (.int .i64 parts)) (hq : q < w.heap.size) :
    Calls Tryz.prog 139 #[.agg #[.int .i64 x.1, .int .i64 x.2], .pointer (some ⟨q, 0, none⟩)] w fun e w' => .returned (.bool (!slotOk parts x)) = e ∧ Below w.heap.size w w' := by
  obtain ⟨a, b⟩ := x
  obtain ⟨hp0, hp1⟩ := hp
  unfold slotOk
  have hc1 := fun W => in_any b 1 20 W
  have hc2 := fun W => in_any a (-1) (parts - 1) W
  have g1 : (w.alloc (.cells #[.int .i64 a, .int .i64 b] 123)).cell? ⟨q, 0, none⟩ = some (.int .i64 parts) := (World.cell?_alloc_lt w _ ⟨q, 0, none⟩ hq).trans h1
  simp only []
  generalize inB b 1 20 = v1 at *
  generalize inB a (-1) (parts - 1) = v2 at *
  clear h1
  cases v1 <;> cases v2
  all_goals
    go_enter Tryz.func139, Tryz.ntmps139
    go_wp2_with fail
    refine (hc1 _).mono ?_; rintro e w' ⟨rfl, rfl⟩
    go_wp2_with fail
    try (refine (hc2 _).mono ?_; rintro e w' ⟨rfl, rfl⟩; go_wp2)
    go_ret
    exact ⟨rfl, (Below.refl _ _).alloc (Nat.le_refl _) _⟩
theorem enters_slot (args : Array Value) (w : World) : (callFunc 139 args).run Tryz.prog w = .ok (.enter 139 args) w := enters_of Tryz.func139 (by kernel_rfl) rfl args w

theorem slotsValid_any (A : Option Addr) (n c : Nat) (xs : List (Int × Int)) (parts : Int) (w : World) (hs : Sl w 2 eS A n c xs) :
    Calls Tryz.prog 115 #[.slice A n c, .int .i64 parts] w fun e w' => .returned (.bool (slotsOk xs parts)) = e ∧ Below w.heap.size w w' := by
  have hl := hs.len
  have hle := hs.le
  have hmax := hs.max
  unfold slotsOk
  rw [hl]
  have hc1 := fun W => in_any parts 0 5 W
  have hc2 := fun W => in_any n 1 12 W
  have hp := @inB_true parts 0 5
  have hB1 := (Below.refl w.heap.size w).alloc (Nat.le_refl _) (.cells #[.int .i64 parts] 3)
  generalize inB parts 0 5 = v1 at *
  generalize inB n 1 12 = v2 at *
  clear hl
  cases v1
  · clear hs hp
    go_enter Tryz.func115, Tryz.ntmps115
    go_wp2_with fail
    refine (hc1 _).mono ?_; rintro e w' ⟨rfl, rfl⟩
    go_wp2
    go_ret
    exact ⟨rfl, hB1⟩
  · cases v2
    · clear hs hp
      go_enter Tryz.func115, Tryz.ntmps115
      go_wp2_with fail
      refine (hc1 _).mono ?_; rintro e w' ⟨rfl, rfl⟩
      go_wp2_with fail
      refine (hc2 _).mono ?_; rintro e w' ⟨rfl, rfl⟩
      go_wp2
      go_ret
      exact ⟨rfl, hB1⟩
    · have hp' := hp.1 rfl
      clear hp
      have hidx : Calls Tryz.prog 138 #[.slice A n c, .func (.func 139) #[] #[.pointer (some ⟨w.heap.size, 0, none⟩)]] (w.alloc (.cells #[.int .i64 parts] 3)) fun e w' => .returned (.bool (xs.any fun x => !slotOk parts x)) = e ∧ Below (w.alloc (.cells #[.int .i64 parts] 3)).heap.size (w.alloc (.cells #[.int .i64 parts] 3)) w' := by
        refine containsSlot (fun x => !slotOk parts x) _ _ enters_slot A n c xs _ (fun _ => True) (fun _ _ => trivial) ?_ (hs.below hB1)
        intro V x _ hV
        refine slotBad_any x parts hp' w.heap.size V ?_ (by have := hV.size; simp at this; omega)
        rw [hV.cell (p := ⟨w.heap.size, 0, none⟩) (by simp)]; simp
      rw [← any_notS]
      generalize (xs.any fun x => !slotOk parts x) = v at hidx ⊢
      clear hs hp'
      have hmf : ∀ (fn : Fn) (first cap : Array Value) (w : World), (Instr.makeFunc fn first cap).run Tryz.prog w = .ok (.func fn first cap) w := fun _ _ _ _ => rfl
      go_enter Tryz.func115, Tryz.ntmps115
      go_wp2_with fail
      refine (hc1 _).mono ?_; rintro e w' ⟨rfl, rfl⟩
      go_wp2_with fail
      refine (hc2 _).mono ?_; rintro e w' ⟨rfl, rfl⟩
      go_wp2_with fail
      refine hidx.mono ?_
      rintro e w2 ⟨rfl, hb2⟩
      go_wp2
      go_ret
      exact ⟨by simp, thn hB1 hb2⟩

theorem specSlotsValid_any (A : Option Addr) (n c : Nat) (xs : List (Int × Int)) (parts : Int) (w : World) (hp : -1000 ≤ parts ∧ parts ≤ 10000000) (hs : Sl w 2 eS A n c xs) :
    Calls Tryz.prog 92 #[.slice A n c, .int .i64 parts] w fun e w' => .returned (.bool (slotsOk xs parts)) = e ∧ Below w.heap.size w w' := by
  have hle := hs.le
  have hmax := hs.max
  obtain ⟨hp0, hp1⟩ := hp
  go_enter Tryz.func92, Tryz.ntmps92
  go_wp2
  go_loopg [5] n (fun gg s3 wr => ∃ kk : Nat, kk ≤ n ∧ n - kk ≤ gg ∧ s3 = .int .i64 kk ∧ Aside (Below w.heap.size w wr) ∧ Aside (∀ j y, j < kk → xs[j]? = some y → (slotOk parts) y = true))
  case atStart => exact ⟨0, Nat.zero_le _, by omega, rfl, (show Aside _ from (by repeat (first | exact Below.refl _ _ | assumption | apply alo | (apply Below.setCell; rotate_left; (first | assumption | exact Nat.le_refl _ | (simp only []; omega))) | apply Below.drew | apply belowDrewN | (refine thn ?_ (by assumption))))), fun j _ hj => absurd hj (Nat.not_lt_zero _)⟩
  case round =>
    obtain ⟨kk, hkk, hg, rfl, BW, AA⟩ := hrel
    by_cases hlt : kk < n
    · have hltz : (kk : Int) < (n : Int) := by omega
      obtain ⟨b, o, rfl, hb, hc⟩ := hs.cells (by omega)
      have hlx : kk < xs.length := by have := hs.len; omega
      have hx : xs[kk]? = some xs[kk] := List.getElem?_eq_getElem hlx
      have hc0 := (BW.out.cell (p := ⟨b, o + kk * 2 + 0, none⟩) hb).trans (hc kk _ hx 0 _ rfl)
      have hc1 := (BW.out.cell (p := ⟨b, o + kk * 2 + 1, none⟩) hb).trans (hc kk _ hx 1 _ rfl)
      clear hc
      have HX := Lib.hid hx
      clear hx
      generalize xs[kk] = y at hc0 hc1 HX
      simp only [eS, Nat.add_zero, Nat.mul_one] at hc0 hc1
      have hc1 := fun W => l1In_any y.2 1 20 W
      have hc2 := fun W => l1In_any y.1 (-1) (parts - 1) W
      have hq := Lib.hid (show slotOk parts y = (inB y.2 1 20 && inB y.1 (-1) (parts - 1)) from rfl)
      generalize inB y.2 1 20 = v1 at *
      generalize inB y.1 (-1) (parts - 1) = v2 at *
      cases v1
      · go_wp2_with fail
        refine (hc1 _).mono ?_; rintro e w' ⟨rfl, rfl⟩
        go_wp2
        go_ret
        exact ⟨by rw [slotsOk, all_fails HX.out (by rw [hq.out]; rfl), Bool.and_false, Bool.and_false]; rfl, (by have hBW := BW.out; repeat (first | exact Below.refl _ _ | assumption | apply alo | (apply Below.setCell; rotate_left; (first | assumption | exact Nat.le_refl _ | (simp only []; omega))) | apply Below.drew | apply belowDrewN | (refine thn ?_ (by assumption))))⟩
      · cases v2
        all_goals
          go_wp2_with fail
          refine (hc1 _).mono ?_; rintro e w' ⟨rfl, rfl⟩
          go_wp2_with fail
          refine (hc2 _).mono ?_; rintro e w' ⟨rfl, rfl⟩
          go_wp2
        · go_ret
          exact ⟨by rw [slotsOk, all_fails HX.out (by rw [hq.out]; rfl), Bool.and_false, Bool.and_false]; rfl, (by have hBW := BW.out; repeat (first | exact Below.refl _ _ | assumption | apply alo | (apply Below.setCell; rotate_left; (first | assumption | exact Nat.le_refl _ | (simp only []; omega))) | apply Below.drew | apply belowDrewN | (refine thn ?_ (by assumption))))⟩
        · go_roundg (n - (kk + 1))
          case measure => omega
          case rel => exact ⟨kk + 1, by omega, by omega, by go_num, (show Aside _ from (by have hBW := BW.out; repeat (first | exact Below.refl _ _ | assumption | apply alo | (apply Below.setCell; rotate_left; (first | assumption | exact Nat.le_refl _ | (simp only []; omega))) | apply Below.drew | apply belowDrewN | (refine thn ?_ (by assumption))))), (show Aside _ from all_step AA.out HX.out (by rw [hq.out]; rfl))⟩
    · have hltz : ¬ (kk : Int) < (n : Int) := by omega
      obtain rfl : kk = n := by omega
      have hl := Lib.hid hs.len
      have hc1 := fun W => l1In_any kk 1 12 W
      have hc2 := fun W => l1In_any parts 0 5 W
      have hq := Lib.hid (show slotsOk xs parts = (inB parts 0 5 && inB kk 1 12) by rw [slotsOk, all_holds hl.out AA.out, hl.out, Bool.and_true])
      generalize inB parts 0 5 = v1 at *
      generalize inB kk 1 12 = v2 at *
      cases v2
      · go_wp2_with fail
        refine (hc1 _).mono ?_; rintro e w' ⟨rfl, rfl⟩
        go_wp2
        go_ret
        exact ⟨by rw [hq.out, Bool.and_false]; rfl, BW.out⟩
      · go_wp2_with fail
        refine (hc1 _).mono ?_; rintro e w' ⟨rfl, rfl⟩
        go_wp2_with fail
        refine (hc2 _).mono ?_; rintro e w' ⟨rfl, rfl⟩
        go_wp2
        go_ret
        exact ⟨by rw [hq.out, Bool.and_true]; rfl, BW.out⟩
end Go.Proofs.YtckgdlgdipfgmaaGreat
