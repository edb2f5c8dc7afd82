/- Own ticks: the frame as a list of who runs, against sums over the slots. No program in sight. slices.IndexFunc, slices.ContainsFunc at Slot. SlotsValid of impl and spec. FrameTicks of the reference. OwnTicks of the reference. frame and own of the program. own of the program: how many ticks before one a partition has run. slices.Grow of nothing, slices.Concat of two lists of numbers. A made block filled element by element. Partitions in memory: a slice of windows and a number. A region that draws its order, whose own operations only read and whose callees write nothing that was there: one walk in the text's order. The class of worlds: those in which nothing below the heap's size has turned. -/
import Derived.Test.YtckgdlgdipfgmaaGreatO1
import Derived.Test.YtckgdlgdipfgmaaGreatO2
import Derived.Test.YtckgdlgdipfgmaaGreatO3
import Derived.Test.YtckgdlgdipfgmaaGreatChecked
import Derived.Shelf.Abstract
import Derived.BigQuiet
import Derived.Deep.QuietTactic
import Derived.Lib.AppendZeros
import Derived.Deep.Quiet

namespace Go.Proofs.YtckgdlgdipfgmaaGreat
set_option linter.unusedVariables false
set_option linter.unusedSimpArgs false

/-- Who runs in each tick of a frame. -/
def frameL (xs : List (Int × Int)) : List Int := xs.flatMap fun x => List.replicate x.2.toNat x.1
/-- The ticks of all slots, of those of one. -/
def sumT : List (Int × Int) → Int
  | [] => 0
  | x :: xs => x.2 + sumT xs
def sumO (n : Int) : List (Int × Int) → Int
  | [] => 0
  | x :: xs => (if x.1 = n then x.2 else 0) + sumO n xs
/-- The ticks of one before t, the slots beginning at u. -/
def restO (n t : Int) : Int → List (Int × Int) → Int
  | _, [] => 0
  | u, x :: xs => (if x.1 = n then max 0 (min x.2 (t - u)) else 0) + restO n t (u + x.2) xs
theorem frameL_cons (x : Int × Int) (xs : List (Int × Int)) : frameL (x :: xs) = List.replicate x.2.toNat x.1 ++ frameL xs := rfl
theorem frameL_len {xs : List (Int × Int)} (h : ∀ x ∈ xs, 0 ≤ x.2) : ((frameL xs).length : Int) = sumT xs := by
  induction xs with
  | nil => rfl
  | cons x xs ih =>
    rw [frameL_cons, List.length_append, List.length_replicate]
    have h1 := h x List.mem_cons_self
    have h2 := ih fun y hy => h y (List.mem_cons_of_mem _ hy)
    simp only [sumT]
    omega
theorem frameL_count (n : Int) {xs : List (Int × Int)} (h : ∀ x ∈ xs, 0 ≤ x.2) : ((frameL xs).count n : Int) = sumO n xs := by
  induction xs with
  | nil => rfl
  | cons x xs ih =>
    rw [frameL_cons, List.count_append, List.count_replicate]
    have h1 := h x List.mem_cons_self
    have h2 := ih fun y hy => h y (List.mem_cons_of_mem _ hy)
    simp only [sumO, beq_iff_eq]
    by_cases e : x.1 = n
    · rw [if_pos e, if_pos e]; omega
    · rw [if_neg e, if_neg e]; omega
theorem restO_zero (n t : Int) {xs : List (Int × Int)} : ∀ (u : Int), t ≤ u → (∀ x ∈ xs, 0 ≤ x.2) → restO n t u xs = 0 := by
  induction xs with
  | nil => intro u _ _; rfl
  | cons x xs ih =>
    intro u hu h
    have h1 := h x List.mem_cons_self
    have h2 := ih (u + x.2) (by omega) fun y hy => h y (List.mem_cons_of_mem _ hy)
    simp only [restO, h2]
    split <;> omega
theorem frameL_take (n : Int) {xs : List (Int × Int)} : ∀ (k : Nat) (u : Int), (∀ x ∈ xs, 0 ≤ x.2) → (((frameL xs).take k).count n : Int) = restO n (u + k) u xs := by
  induction xs with
  | nil => intro k u _; simp [frameL, restO]
  | cons x xs ih =>
    intro k u h
    have h1 := h x List.mem_cons_self
    have hx : ∀ y ∈ xs, 0 ≤ y.2 := fun y hy => h y (List.mem_cons_of_mem _ hy)
    rw [frameL_cons, List.take_append, List.count_append, List.take_replicate, List.count_replicate, List.length_replicate]
    simp only [restO, beq_iff_eq]
    by_cases hk : x.2.toNat ≤ k
    · have h2 := ih (k - x.2.toNat) (u + x.2) hx
      rw [show u + x.2 + ((k - x.2.toNat : Nat) : Int) = u + k from by omega] at h2
      rw [← h2]
      by_cases e : x.1 = n
      · rw [if_pos e, if_pos e]; omega
      · rw [if_neg e, if_neg e]; omega
    · have h2 := restO_zero n (u + k) (xs := xs) (u + x.2) (by omega) hx
      rw [h2, show k - x.2.toNat = 0 from by omega]
      simp only [List.take_zero, List.count_nil]
      by_cases e : x.1 = n
      · rw [if_pos e, if_pos e]; omega
      · rw [if_neg e, if_neg e]; omega
end Go.Proofs.YtckgdlgdipfgmaaGreat

namespace Go.Proofs.YtckgdlgdipfgmaaGreat
set_option linter.unusedVariables false
set_option linter.unusedSimpArgs false
open Go.RowKit Go.Shelf

set_option maxHeartbeats 400000 in
theorem indexSlot (p : (Int × Int) → Bool) (g : Nat) (lb : Array Value) (eg : ∀ args w, (callFunc g args).run Tryz.prog w = .ok (.enter g args) w) (A : Option Addr) (n c : Nat) (xs : List (Int × Int)) (w : World) (ok : (Int × Int) → Prop) (hok : ∀ x ∈ xs, ok x)
    (hp : Pred Tryz.prog g lb (fun x => .agg (eS x).toArray) ok p w) (hs : Sl w 2 eS A n c xs) :
    Calls Tryz.prog 153 #[.slice A n c, .func (.func g) #[] lb] w fun e w' => .returned (.int .i64 (idxP p xs)) = e ∧ Below w.heap.size w w' := by
  have hle := hs.le
  have hmax := hs.max
  go_enter Tryz.func153, Tryz.ntmps153
  go_wp2
  go_loopg [5, 8] n (fun gg _ s8 wr => ∃ kk : Nat, kk ≤ n ∧ n - kk ≤ gg ∧ s8 = .int .i64 kk ∧ Aside (Below w.heap.size w wr) ∧ Aside (∀ j y, j < kk → xs[j]? = some y → p y = false))
  case atStart => exact ⟨0, Nat.zero_le _, by omega, rfl, Below.refl _ w, fun j _ hj => absurd hj (Nat.not_lt_zero _)⟩
  case round =>
    obtain ⟨kk, hkk, hg, rfl, BW, AA⟩ := hrel
    by_cases hlt : kk < n
    · have hltz : (kk : Int) < (n : Int) := by omega
      obtain ⟨b, o, rfl, hb, hc⟩ := hs.cells (by omega)
      have hlx : kk < xs.length := by have := hs.len; omega
      have hx : xs[kk]? = some xs[kk] := List.getElem?_eq_getElem hlx
      have hcall := hp wr xs[kk] (hok _ (List.getElem_mem hlx)) BW.out
      have hc0 := (BW.out.cell (p := ⟨b, o + kk * 2 + 0, none⟩) hb).trans (hc kk _ hx 0 _ rfl)
      have hc1 := (BW.out.cell (p := ⟨b, o + kk * 2 + 1, none⟩) hb).trans (hc kk _ hx 1 _ rfl)
      clear hc hp hok
      have HX := Lib.hid hx
      clear hx
      generalize xs[kk] = y at hcall hc0 hc1 HX
      simp only [eS, Nat.add_zero, Nat.mul_one] at hcall hc0 hc1
      cases hq : p y with
      | true =>
        rw [hq] at hcall
        have HQ := Lib.hid hq
        clear hq
        go_wp2_with fail
        refine hcall.mono ?_
        rintro e w' ⟨rfl, hb'⟩
        go_wp2
        go_ret
        refine ⟨?_, BW.out.trans (hb'.mono BW.out.size)⟩
        rw [idxP_hit p xs kk y HX.out HQ.out AA.out]; rfl
      | false =>
        rw [hq] at hcall
        have HQ := Lib.hid hq
        clear hq
        go_wp2_with fail
        refine hcall.mono ?_
        rintro e w' ⟨rfl, hb'⟩
        go_wp2
        go_roundg (n - (kk + 1))
        case measure => omega
        case rel =>
          refine ⟨kk + 1, by omega, by omega, by go_num, BW.out.trans (hb'.mono BW.out.size), (show Aside _ from fun j z hj hz => ?_)⟩
          by_cases e : j = kk
          · subst e
            have := HX.out
            rw [this] at hz
            injection hz with hz
            rw [← hz]; exact HQ.out
          · exact AA.out j z (by omega) hz
    · have hltz : ¬ (kk : Int) < (n : Int) := by omega
      have : kk = n := by omega
      subst this
      go_wp2
      go_ret
      refine ⟨?_, BW.out⟩
      rw [idxP_miss p xs (fun j y hj hy => AA.out j y (by have := hs.len; omega) hy)]; rfl

theorem containsSlot (p : (Int × Int) → Bool) (g : Nat) (lb : Array Value) (eg : ∀ args w, (callFunc g args).run Tryz.prog w = .ok (.enter g args) w) (A : Option Addr) (n c : Nat) (xs : List (Int × Int)) (w : World) (ok : (Int × Int) → Prop) (hok : ∀ x ∈ xs, ok x)
    (hp : Pred Tryz.prog g lb (fun x => .agg (eS x).toArray) ok p w) (hs : Sl w 2 eS A n c xs) :
    Calls Tryz.prog 138 #[.slice A n c, .func (.func g) #[] lb] w fun e w' => .returned (.bool (xs.any p)) = e ∧ Below w.heap.size w w' := by
  rw [← idxP_nonneg p xs]
  have hcall : ∀ W : World, W = w → Calls Tryz.prog 153 #[.slice A n c, .func (.func g) #[] lb] W fun e w' => .returned (.int .i64 (idxP p xs)) = e ∧ Below W.heap.size W w' := by
    rintro W rfl
    exact indexSlot p g lb eg A n c xs _ ok hok hp hs
  have hc := hcall w rfl
  clear hcall hp hs
  generalize idxP p xs = i at hc ⊢
  go_enter Tryz.func138, Tryz.ntmps138
  go_wp2_with fail
  refine hc.mono ?_
  rintro e w' ⟨rfl, hb⟩
  go_wp2
  go_ret
  exact ⟨rfl, hb⟩
end Go.Proofs.YtckgdlgdipfgmaaGreat

namespace Go.Proofs.YtckgdlgdipfgmaaGreat
set_option linter.unusedVariables false
set_option linter.unusedSimpArgs false
open Go.RowKit Go.Shelf

def slotOk (parts : Int) (x : Int × Int) : Bool := inB x.2 1 20 && inB x.1 (-1) (parts - 1)
def slotsOk (xs : List (Int × Int)) (parts : Int) : Bool := inB parts 0 5 && (inB xs.length 1 12 && xs.all (slotOk parts))
theorem any_notS (p : Int × Int → Bool) (xs : List (Int × Int)) : (!xs.any fun x => !p x) = xs.all p := by
  induction xs with
  | nil => rfl
  | cons a l ih => simp [← ih]

/-- The closure of SlotsValid: its captured variable lies in block q. -/
theorem slotBad_any (x : Int × Int) (parts : Int) (hp : 0 ≤ parts ∧ parts ≤ 5) (q : Nat) (w : World) (h1 : w.cell? ⟨q, 0, none⟩ = some (.int .i64 parts)) (hq : q < w.heap.size) :
    Calls Tryz.prog 139 #[.agg #[.int .i64 x.1, .int .i64 x.2], .pointer (some ⟨q, 0, none⟩)] w fun e w' => .returned (.bool (!slotOk parts x)) = e ∧ Below w.heap.size w w' := by
  obtain ⟨a, b⟩ := x
  obtain ⟨hp0, hp1⟩ := hp
  unfold slotOk
  have hc1 := fun W => in_any b 1 20 W
  have hc2 := fun W => in_any a (-1) (parts - 1) W
  have g1 : (w.alloc (.cells #[.int .i64 a, .int .i64 b] 123)).cell? ⟨q, 0, none⟩ = some (.int .i64 parts) := (World.cell?_alloc_lt w _ ⟨q, 0, none⟩ hq).trans h1
  simp only []
  generalize inB b 1 20 = v1 at *
  generalize inB a (-1) (parts - 1) = v2 at *
  clear h1
  cases v1 <;> cases v2
  all_goals
    go_enter Tryz.func139, Tryz.ntmps139
    go_wp2_with fail
    refine (hc1 _).mono ?_; rintro e w' ⟨rfl, rfl⟩
    go_wp2_with fail
    try (refine (hc2 _).mono ?_; rintro e w' ⟨rfl, rfl⟩; go_wp2)
    go_ret
    exact ⟨rfl, (Below.refl _ _).alloc (Nat.le_refl _) _⟩
theorem enters_slot (args : Array Value) (w : World) : (callFunc 139 args).run Tryz.prog w = .ok (.enter 139 args) w := enters_of Tryz.func139 (by kernel_rfl) rfl args w

theorem slotsValid_any (A : Option Addr) (n c : Nat) (xs : List (Int × Int)) (parts : Int) (w : World) (hs : Sl w 2 eS A n c xs) :
    Calls Tryz.prog 115 #[.slice A n c, .int .i64 parts] w fun e w' => .returned (.bool (slotsOk xs parts)) = e ∧ Below w.heap.size w w' := by
  have hl := hs.len
  have hle := hs.le
  have hmax := hs.max
  unfold slotsOk
  rw [hl]
  have hc1 := fun W => in_any parts 0 5 W
  have hc2 := fun W => in_any n 1 12 W
  have hp := @inB_true parts 0 5
  have hB1 := (Below.refl w.heap.size w).alloc (Nat.le_refl _) (.cells #[.int .i64 parts] 3)
  generalize inB parts 0 5 = v1 at *
  generalize inB n 1 12 = v2 at *
  clear hl
  cases v1
  · clear hs hp
    go_enter Tryz.func115, Tryz.ntmps115
    go_wp2_with fail
    refine (hc1 _).mono ?_; rintro e w' ⟨rfl, rfl⟩
    go_wp2
    go_ret
    exact ⟨rfl, hB1⟩
  · cases v2
    · clear hs hp
      go_enter Tryz.func115, Tryz.ntmps115
      go_wp2_with fail
      refine (hc1 _).mono ?_; rintro e w' ⟨rfl, rfl⟩
      go_wp2_with fail
      refine (hc2 _).mono ?_; rintro e w' ⟨rfl, rfl⟩
      go_wp2
      go_ret
      exact ⟨rfl, hB1⟩
    · have hp' := hp.1 rfl
      clear hp
      have hidx : Calls Tryz.prog 138 #[.slice A n c, .func (.func 139) #[] #[.pointer (some ⟨w.heap.size, 0, none⟩)]] (w.alloc (.cells #[.int .i64 parts] 3)) fun e w' => .returned (.bool (xs.any fun x => !slotOk parts x)) = e ∧ Below (w.alloc (.cells #[.int .i64 parts] 3)).heap.size (w.alloc (.cells #[.int .i64 parts] 3)) w' := by
        refine containsSlot (fun x => !slotOk parts x) _ _ enters_slot A n c xs _ (fun _ => True) (fun _ _ => trivial) ?_ (hs.below hB1)
        intro V x _ hV
        refine slotBad_any x parts hp' w.heap.size V ?_ (by have := hV.size; simp at this; omega)
        rw [hV.cell (p := ⟨w.heap.size, 0, none⟩) (by simp)]; simp
      rw [← any_notS]
      generalize (xs.any fun x => !slotOk parts x) = v at hidx ⊢
      clear hs hp'
      have hmf : ∀ (fn : Fn) (first cap : Array Value) (w : World), (Instr.makeFunc fn first cap).run Tryz.prog w = .ok (.func fn first cap) w := fun _ _ _ _ => rfl
      go_enter Tryz.func115, Tryz.ntmps115
      go_wp2_with fail
      refine (hc1 _).mono ?_; rintro e w' ⟨rfl, rfl⟩
      go_wp2_with fail
      refine (hc2 _).mono ?_; rintro e w' ⟨rfl, rfl⟩
      go_wp2_with fail
      refine hidx.mono ?_
      rintro e w2 ⟨rfl, hb2⟩
      go_wp2
      go_ret
      exact ⟨by simp, thn hB1 hb2⟩

theorem specSlotsValid_any (A : Option Addr) (n c : Nat) (xs : List (Int × Int)) (parts : Int) (w : World) (hp : -1000 ≤ parts ∧ parts ≤ 10000000) (hs : Sl w 2 eS A n c xs) :
    Calls Tryz.prog 92 #[.slice A n c, .int .i64 parts] w fun e w' => .returned (.bool (slotsOk xs parts)) = e ∧ Below w.heap.size w w' := by
  have hle := hs.le
  have hmax := hs.max
  obtain ⟨hp0, hp1⟩ := hp
  go_enter Tryz.func92, Tryz.ntmps92
  go_wp2
  go_loopg [5] n (fun gg s3 wr => ∃ kk : Nat, kk ≤ n ∧ n - kk ≤ gg ∧ s3 = .int .i64 kk ∧ Aside (Below w.heap.size w wr) ∧ Aside (∀ j y, j < kk → xs[j]? = some y → (slotOk parts) y = true))
  case atStart => exact ⟨0, Nat.zero_le _, by omega, rfl, (show Aside _ from (by repeat (first | exact Below.refl _ _ | assumption | apply alo | (apply Below.setCell; rotate_left; (first | assumption | exact Nat.le_refl _ | (simp only []; omega))) | apply Below.drew | apply belowDrewN | (refine thn ?_ (by assumption))))), fun j _ hj => absurd hj (Nat.not_lt_zero _)⟩
  case round =>
    obtain ⟨kk, hkk, hg, rfl, BW, AA⟩ := hrel
    by_cases hlt : kk < n
    · have hltz : (kk : Int) < (n : Int) := by omega
      obtain ⟨b, o, rfl, hb, hc⟩ := hs.cells (by omega)
      have hlx : kk < xs.length := by have := hs.len; omega
      have hx : xs[kk]? = some xs[kk] := List.getElem?_eq_getElem hlx
      have hc0 := (BW.out.cell (p := ⟨b, o + kk * 2 + 0, none⟩) hb).trans (hc kk _ hx 0 _ rfl)
      have hc1 := (BW.out.cell (p := ⟨b, o + kk * 2 + 1, none⟩) hb).trans (hc kk _ hx 1 _ rfl)
      clear hc
      have HX := Lib.hid hx
      clear hx
      generalize xs[kk] = y at hc0 hc1 HX
      simp only [eS, Nat.add_zero, Nat.mul_one] at hc0 hc1
      have hc1 := fun W => l1In_any y.2 1 20 W
      have hc2 := fun W => l1In_any y.1 (-1) (parts - 1) W
      have hq := Lib.hid (show slotOk parts y = (inB y.2 1 20 && inB y.1 (-1) (parts - 1)) from rfl)
      generalize inB y.2 1 20 = v1 at *
      generalize inB y.1 (-1) (parts - 1) = v2 at *
      cases v1
      · go_wp2_with fail
        refine (hc1 _).mono ?_; rintro e w' ⟨rfl, rfl⟩
        go_wp2
        go_ret
        exact ⟨by rw [slotsOk, all_fails HX.out (by rw [hq.out]; rfl), Bool.and_false, Bool.and_false]; rfl, (by have hBW := BW.out; repeat (first | exact Below.refl _ _ | assumption | apply alo | (apply Below.setCell; rotate_left; (first | assumption | exact Nat.le_refl _ | (simp only []; omega))) | apply Below.drew | apply belowDrewN | (refine thn ?_ (by assumption))))⟩
      · cases v2
        all_goals
          go_wp2_with fail
          refine (hc1 _).mono ?_; rintro e w' ⟨rfl, rfl⟩
          go_wp2_with fail
          refine (hc2 _).mono ?_; rintro e w' ⟨rfl, rfl⟩
          go_wp2
        · go_ret
          exact ⟨by rw [slotsOk, all_fails HX.out (by rw [hq.out]; rfl), Bool.and_false, Bool.and_false]; rfl, (by have hBW := BW.out; repeat (first | exact Below.refl _ _ | assumption | apply alo | (apply Below.setCell; rotate_left; (first | assumption | exact Nat.le_refl _ | (simp only []; omega))) | apply Below.drew | apply belowDrewN | (refine thn ?_ (by assumption))))⟩
        · go_roundg (n - (kk + 1))
          case measure => omega
          case rel => exact ⟨kk + 1, by omega, by omega, by go_num, (show Aside _ from (by have hBW := BW.out; repeat (first | exact Below.refl _ _ | assumption | apply alo | (apply Below.setCell; rotate_left; (first | assumption | exact Nat.le_refl _ | (simp only []; omega))) | apply Below.drew | apply belowDrewN | (refine thn ?_ (by assumption))))), (show Aside _ from all_step AA.out HX.out (by rw [hq.out]; rfl))⟩
    · have hltz : ¬ (kk : Int) < (n : Int) := by omega
      obtain rfl : kk = n := by omega
      have hl := Lib.hid hs.len
      have hc1 := fun W => l1In_any kk 1 12 W
      have hc2 := fun W => l1In_any parts 0 5 W
      have hq := Lib.hid (show slotsOk xs parts = (inB parts 0 5 && inB kk 1 12) by rw [slotsOk, all_holds hl.out AA.out, hl.out, Bool.and_true])
      generalize inB parts 0 5 = v1 at *
      generalize inB kk 1 12 = v2 at *
      cases v2
      · go_wp2_with fail
        refine (hc1 _).mono ?_; rintro e w' ⟨rfl, rfl⟩
        go_wp2
        go_ret
        exact ⟨by rw [hq.out, Bool.and_false]; rfl, BW.out⟩
      · go_wp2_with fail
        refine (hc1 _).mono ?_; rintro e w' ⟨rfl, rfl⟩
        go_wp2_with fail
        refine (hc2 _).mono ?_; rintro e w' ⟨rfl, rfl⟩
        go_wp2
        go_ret
        exact ⟨by rw [hq.out, Bool.and_true]; rfl, BW.out⟩
end Go.Proofs.YtckgdlgdipfgmaaGreat

namespace Go.Proofs.YtckgdlgdipfgmaaGreat
set_option linter.unusedVariables false
set_option linter.unusedSimpArgs false
open Go.RowKit

theorem slots_bd {xs : List (Int × Int)} {parts : Int} (h : slotsOk xs parts = true) : (xs.length ≤ 12 ∧ 1 ≤ xs.length) ∧ ∀ x ∈ xs, 1 ≤ x.2 ∧ x.2 ≤ 20 := by
  simp only [slotsOk, Bool.and_eq_true, List.all_eq_true] at h
  refine ⟨by have := inB_true.1 h.2.1; omega, fun x hx => ?_⟩
  have := h.2.2 x hx
  simp only [slotOk, Bool.and_eq_true] at this
  exact inB_true.1 this.1
theorem sumT_take {xs : List (Int × Int)} {k : Nat} {y : Int × Int} (h : xs[k]? = some y) : sumT (xs.take (k + 1)) = sumT (xs.take k) + y.2 := by
  induction xs generalizing k with
  | nil => cases h
  | cons x xs ih =>
    cases k with
    | zero => simp only [List.getElem?_cons_zero] at h; injection h with h; subst h; simp [sumT]
    | succ k =>
      have := ih (k := k) (by simpa using h)
      simp only [List.take_succ_cons, sumT] at this ⊢
      omega
theorem sumT_bd {xs : List (Int × Int)} (h : ∀ x ∈ xs, 1 ≤ x.2 ∧ x.2 ≤ 20) : (xs.length : Int) ≤ sumT xs ∧ sumT xs ≤ 20 * xs.length := by
  induction xs with
  | nil => simp [sumT]
  | cons x xs ih =>
    have h1 := h x List.mem_cons_self
    have h2 := ih fun y hy => h y (List.mem_cons_of_mem _ hy)
    simp only [sumT, List.length_cons]
    omega
set_option maxHeartbeats 1000000 in
theorem specFrameTicks_any (A : Option Addr) (n c : Nat) (xs : List (Int × Int)) (parts : Int) (hp : -1000 ≤ parts ∧ parts ≤ 1000) (hv : slotsOk xs parts = true) (w : World) (hs : Sl w 2 eS A n c xs) :
    Calls Tryz.prog 93 #[.slice A n c, .int .i64 parts] w fun e w' => .returned (.int .i64 (sumT xs)) = e ∧ Below w.heap.size w w' := by
  have hle := hs.le
  have hmax := hs.max
  have HL := Lib.hid hs.len
  have hbd := slots_bd hv
  have hn : n ≤ 12 := by have := hs.len; omega
  have HB := Lib.hid hbd.2
  have hq := specSlotsValid_any A n c xs parts w (by omega) hs
  rw [hv] at hq
  clear hbd hv
  go_enter Tryz.func93, Tryz.ntmps93
  go_wp2_with fail
  refine hq.mono ?_
  rintro e w1 ⟨rfl, hb1⟩
  clear hq
  go_wp2_with fail
  go_loopg [5, 6] n (fun gg s5 s6 wr => ∃ (kk : Nat) (m : Int), kk ≤ n ∧ n - kk ≤ gg ∧ s5 = .int .i64 m ∧ s6 = .int .i64 kk ∧ 0 ≤ m ∧ m ≤ 20 * kk ∧ Aside (Below w.heap.size w wr) ∧ Aside (m = sumT (xs.take kk)))
  case atStart => exact ⟨0, 0, Nat.zero_le _, by omega, rfl, rfl, by omega, by omega, (show Aside _ from hb1), (show Aside _ from rfl)⟩
  case round =>
    clear hb1
    obtain ⟨kk, m, hkk, hg, rfl, rfl, hm0, hm1, BW, ME⟩ := hrel
    by_cases hlt : kk < n
    · have hltz : (kk : Int) < (n : Int) := by omega
      obtain ⟨b, o, rfl, y, hx, hc⟩ := hs.nth hlt BW.out
      have q1 := hc 1 _ rfl
      have HT := Lib.hid (sumT_take hx)
      have hyb := HB.out y (List.mem_of_getElem? hx)
      clear hc hx
      obtain ⟨a, t⟩ := y
      simp only [eS] at q1 hyb
      have hw := IntWalk.i64_in (m + t) (by omega)
      go_wp2
      go_roundg (n - (kk + 1))
      case measure => omega
      case rel => exact ⟨kk + 1, m + t, by omega, by omega, rfl, by go_num, by omega, by omega, (show Aside _ from BW.out), (show Aside _ from by show m + t = sumT _; rw [HT.out, ← ME.out])⟩
    · have hltz : ¬ (kk : Int) < (n : Int) := by omega
      obtain rfl : n = kk := by omega
      have hm := ME.out
      rw [List.take_of_length_le (by have := HL.out; omega)] at hm
      have HM := Lib.hid hm
      clear hm
      go_wp2
      go_ret
      exact ⟨by rw [HM.out]; rfl, BW.out⟩
end Go.Proofs.YtckgdlgdipfgmaaGreat

namespace Go.Proofs.YtckgdlgdipfgmaaGreat
set_option linter.unusedVariables false
set_option linter.unusedSimpArgs false
open Go.RowKit

theorem sumO_take (n : Int) {xs : List (Int × Int)} {k : Nat} {y : Int × Int} (h : xs[k]? = some y) : sumO n (xs.take (k + 1)) = sumO n (xs.take k) + (if y.1 = n then y.2 else 0) := by
  induction xs generalizing k with
  | nil => cases h
  | cons x xs ih =>
    cases k with
    | zero => simp only [List.getElem?_cons_zero] at h; injection h with h; subst h; simp [sumO]
    | succ k =>
      have := ih (k := k) (by simpa using h)
      simp only [List.take_succ_cons, sumO] at this ⊢
      omega
theorem restO_take (n t : Int) {xs : List (Int × Int)} : ∀ {k : Nat} {y : Int × Int} (u : Int), xs[k]? = some y → restO n t u (xs.take (k + 1)) = restO n t u (xs.take k) + (if y.1 = n then max 0 (min y.2 (t - (u + sumT (xs.take k)))) else 0) := by
  induction xs with
  | nil => intro k y u h; cases h
  | cons x xs ih =>
    intro k y u h
    cases k with
    | zero => simp only [List.getElem?_cons_zero] at h; injection h with h; subst h; simp [restO, sumT]
    | succ k =>
      have := ih (k := k) (y := y) (u + x.2) (by simpa using h)
      simp only [List.take_succ_cons, restO, sumT] at this ⊢
      rw [this, show u + x.2 + sumT (xs.take k) = u + (x.2 + sumT (xs.take k)) from by omega]
      omega
def ownL (xs : List (Int × Int)) (n t : Int) : Int := t / sumT xs * sumO n xs + restO n (t % sumT xs) 0 xs
set_option maxHeartbeats 2000000 in
theorem specOwnTicks_any (A : Option Addr) (n c : Nat) (xs : List (Int × Int)) (parts who t : Int) (hp : -1000 ≤ parts ∧ parts ≤ 1000) (hv : slotsOk xs parts = true) (hwho : 0 ≤ who ∧ who ≤ parts - 1) (ht : 0 ≤ t ∧ t ≤ 1000000) (w : World) (hs : Sl w 2 eS A n c xs) :
    Calls Tryz.prog 49 #[.slice A n c, .int .i64 parts, .int .i64 who, .int .i64 t] w fun e w' => .returned (.int .i64 (ownL xs who t)) = e ∧ Below w.heap.size w w' := by
  have hle := hs.le
  have hmax := hs.max
  have HL := Lib.hid hs.len
  have hbd := slots_bd hv
  have hn : n ≤ 12 := by have := hs.len; omega
  have hs0 := sumT_bd hbd.2
  have HB := Lib.hid hbd.2
  have hq := specSlotsValid_any A n c xs parts w (by omega) hs
  rw [hv] at hq
  have hq1 := fun W => l1In_any who 0 (parts - 1) W
  rw [inB_true.2 hwho] at hq1
  have hq2 := fun W => l1In_any t 0 1000000 W
  rw [inB_true.2 ht] at hq2
  have hq3 := fun W hW => specFrameTicks_any A n c xs parts hp hv W (hs.below hW)
  have hwp := IntWalk.i64_in (parts - 1) (by omega)
  obtain ⟨S, hS⟩ : ∃ S, sumT xs = S := ⟨_, rfl⟩
  have HS := Lib.hid hS
  simp only [hS] at hq3 hs0
  have hSb : 1 ≤ S ∧ S ≤ 240 := by have := hbd.1; omega
  clear hbd hv hS hs0 hwho
  go_enter Tryz.func49, Tryz.ntmps49
  go_wp2_with fail
  refine hq.mono ?_
  rintro e w1 ⟨rfl, hb1⟩
  clear hq
  go_wp2_with fail; refine (hq1 _).mono ?_; rintro e w' ⟨rfl, rfl⟩
  go_wp2_with fail; refine (hq2 _).mono ?_; rintro e w' ⟨rfl, rfl⟩
  go_wp2_with fail
  refine (hq3 _ hb1).mono ?_
  rintro e w2 ⟨rfl, hb2⟩
  have hB2 := thn hb1 hb2
  clear hq1 hq2 hq3 hb1 hb2
  go_wp2_with fail
  go_loopg [10, 11, 12, 13] n (fun gg s10 s11 s12 s13 wr => ∃ (kk : Nat) (m1 m2 m3 : Int), kk ≤ n ∧ n - kk ≤ gg ∧ s10 = .int .i64 m1 ∧ s11 = .int .i64 m2 ∧ s12 = .int .i64 m3 ∧ s13 = .int .i64 kk ∧ (0 ≤ m1 ∧ m1 ≤ 20 * kk) ∧ (0 ≤ m2 ∧ m2 ≤ 20 * kk) ∧ (0 ≤ m3 ∧ m3 ≤ 20 * kk) ∧ Aside (Below w.heap.size w wr) ∧ Aside (m1 = sumO who (xs.take kk) ∧ m2 = restO who (t % S) 0 (xs.take kk) ∧ m3 = sumT (xs.take kk)))
  case atStart => exact ⟨0, 0, 0, 0, Nat.zero_le _, by omega, rfl, rfl, rfl, rfl, by omega, by omega, by omega, (show Aside _ from hB2), (show Aside _ from ⟨rfl, rfl, rfl⟩)⟩
  case round =>
    clear hB2
    obtain ⟨kk, m1, m2, m3, hkk, hg, rfl, rfl, rfl, rfl, hm1, hm2, hm3, BW, ME⟩ := hrel
    by_cases hlt : kk < n
    · have hltz : (kk : Int) < (n : Int) := by omega
      obtain ⟨b, o, rfl, y, hx, hc⟩ := hs.nth hlt BW.out
      have q0 := hc 0 _ rfl
      have q1 := hc 1 _ rfl
      have HT := Lib.hid (sumT_take hx)
      have HO := Lib.hid (sumO_take who hx)
      have HR := Lib.hid (restO_take who (t % S) 0 hx)
      have hyb := HB.out y (List.mem_of_getElem? hx)
      clear hc hx
      obtain ⟨a, d⟩ := y
      simp only [eS, Nat.add_zero] at q0 q1 hyb
      have hw1 := IntWalk.i64_in (m1 + d) (by omega)
      have hw3 := IntWalk.i64_in (m3 + d) (by omega)
      by_cases ha : a = who
      · subst ha
        have hr0 : 0 ≤ t % S ∧ t % S < S := ⟨Int.emod_nonneg _ (by omega), Int.emod_lt_of_pos _ (by omega)⟩
        have htm : t.tmod S = t % S := Int.tmod_eq_emod_of_nonneg ht.1
        have hS0 : ¬ S = 0 := by omega
        obtain ⟨r, hr⟩ : ∃ r, t % S = r := ⟨_, rfl⟩
        rw [hr] at htm hr0
        have hwr := IntWalk.i64_in (r - m3) (by omega)
        rw [hr] at HR
        rcases (show (r - m3 ≤ 0 ∧ r - m3 < d) ∨ (0 < r - m3 ∧ r - m3 < d) ∨ (0 < r - m3 ∧ d ≤ r - m3) by omega) with ⟨k0, k1⟩ | ⟨k0, k1⟩ | ⟨k0, k1⟩
        · have k2 : ¬ 0 < r - m3 := by omega
          have k3 : ¬ d < r - m3 := by omega
          have k4 : ¬ d ≤ r - m3 := by omega
          have k5 := IntWalk.i64_in (m2 + 0) (by omega)
          go_wp2_with fail
          go_quiet (fail)
          go_wp2
          go_roundg (n - (kk + 1))
          case measure => omega
          case rel =>
            refine ⟨kk + 1, m1 + d, m2 + 0, m3 + d, by omega, by omega, by go_num, by go_num, by go_num, by go_num, by omega, by omega, by omega, (show Aside _ from by repeat (first | exact BW.out | apply belowDrewN | apply belowDrewN')), (show Aside _ from ⟨?_, ?_, ?_⟩)⟩
            · have h1 := HO.out; have h2 := ME.out.1; simp only [if_true] at h1; omega
            · have h1 := HR.out; have h2 := ME.out.2.1; have h3 := ME.out.2.2; rw [hr] at h2 ⊢; simp only [if_true] at h1; omega
            · rw [HT.out, ← ME.out.2.2]
        · have k3 : ¬ d < r - m3 := by omega
          have k4 : ¬ d ≤ r - m3 := by omega
          have k5 := IntWalk.i64_in (m2 + (r - m3)) (by omega)
          go_wp2_with fail
          go_quiet (fail)
          go_wp2
          go_roundg (n - (kk + 1))
          case measure => omega
          case rel =>
            refine ⟨kk + 1, m1 + d, m2 + (r - m3), m3 + d, by omega, by omega, by go_num, by go_num, by go_num, by go_num, by omega, by omega, by omega, (show Aside _ from by repeat (first | exact BW.out | apply belowDrewN | apply belowDrewN')), (show Aside _ from ⟨?_, ?_, ?_⟩)⟩
            · have h1 := HO.out; have h2 := ME.out.1; simp only [if_true] at h1; omega
            · have h1 := HR.out; have h2 := ME.out.2.1; have h3 := ME.out.2.2; rw [hr] at h2 ⊢; simp only [if_true] at h1; omega
            · rw [HT.out, ← ME.out.2.2]
        · have k3 : ¬ r - m3 < d := by omega
          have k4 : 0 < d := by omega
          have k5 := IntWalk.i64_in (m2 + d) (by omega)
          go_wp2_with fail
          go_quiet (fail)
          go_wp2
          go_roundg (n - (kk + 1))
          case measure => omega
          case rel =>
            refine ⟨kk + 1, m1 + d, m2 + d, m3 + d, by omega, by omega, by go_num, by go_num, by go_num, by go_num, by omega, by omega, by omega, (show Aside _ from by repeat (first | exact BW.out | apply belowDrewN | apply belowDrewN')), (show Aside _ from ⟨?_, ?_, ?_⟩)⟩
            · have h1 := HO.out; have h2 := ME.out.1; simp only [if_true] at h1; omega
            · have h1 := HR.out; have h2 := ME.out.2.1; have h3 := ME.out.2.2; rw [hr] at h2 ⊢; simp only [if_true] at h1; omega
            · rw [HT.out, ← ME.out.2.2]
      · go_wp2
        go_roundg (n - (kk + 1))
        case measure => omega
        case rel =>
          refine ⟨kk + 1, m1, m2, m3 + d, by omega, by omega, rfl, rfl, rfl, by go_num, by omega, by omega, by omega, (show Aside _ from BW.out), (show Aside _ from ⟨?_, ?_, ?_⟩)⟩
          · rw [HO.out, if_neg ha, ← ME.out.1]; omega
          · rw [HR.out, if_neg ha, ← ME.out.2.1]; omega
          · rw [HT.out, ← ME.out.2.2]
    · have hltz : ¬ (kk : Int) < (n : Int) := by omega
      obtain rfl : n = kk := by omega
      have hm := ME.out
      rw [List.take_of_length_le (by have := HL.out; omega)] at hm
      have HO := Lib.hid (show ownL xs who t = t / S * m1 + m2 by unfold ownL; rw [HS.out, hm.1, hm.2.1])
      have hS0 : ¬ S = 0 := by omega
      have htd : t.tdiv S = t / S := Int.tdiv_eq_ediv_of_nonneg ht.1
      obtain ⟨u, hu⟩ : ∃ u, t / S = u := ⟨_, rfl⟩
      rw [hu] at htd HO
      have hu0 : 0 ≤ u ∧ u ≤ 1000000 := by
        rw [← hu]
        exact ⟨Int.ediv_nonneg ht.1 (by omega), Int.le_trans (Int.ediv_le_self _ ht.1) ht.2⟩
      have hum : 0 ≤ u * m1 ∧ u * m1 ≤ 1000000 * 240 := ⟨Int.mul_nonneg hu0.1 hm1.1, Int.le_trans (Int.mul_le_mul_of_nonneg_right hu0.2 hm1.1) (by omega)⟩
      have hw5 := IntWalk.i64_in u (by omega)
      have hw6 := IntWalk.i64_in (u * m1) (by omega)
      have hw7 := IntWalk.i64_in (u * m1 + m2) (by omega)
      clear hm ME
      go_wp2
      go_ret
      exact ⟨by rw [HO.out]; rfl, BW.out⟩
end Go.Proofs.YtckgdlgdipfgmaaGreat

namespace Go.Proofs.YtckgdlgdipfgmaaGreat
set_option linter.unusedVariables false
set_option linter.unusedSimpArgs false
open Go.RowKit

theorem frameL_step {xs : List (Int × Int)} {k : Nat} {y : Int × Int} (h : xs[k]? = some y) : frameL (xs.take (k + 1)) = frameL (xs.take k) ++ List.replicate y.2.toNat y.1 := by
  unfold frameL
  rw [List.take_add_one, h, List.flatMap_append]; simp
theorem frameL_le {xs : List (Int × Int)} (h : ∀ x ∈ xs, x.2 ≤ 20) : (frameL xs).length ≤ 20 * xs.length := by
  induction xs with
  | nil => simp [frameL]
  | cons x xs ih =>
    have h1 := h x List.mem_cons_self
    have h2 := ih fun y hy => h y (List.mem_cons_of_mem _ hy)
    rw [frameL_cons, List.length_append, List.length_replicate, List.length_cons]
    omega
set_option maxRecDepth 100000 in
set_option maxHeartbeats 2000000 in
theorem frame_any (A : Option Addr) (n c : Nat) (xs : List (Int × Int)) (hx : ∀ x ∈ xs, 1 ≤ x.2 ∧ x.2 ≤ 20) (hn : n ≤ 12) (w : World) (hs : Sl w 2 eS A n c xs) :
    Calls Tryz.prog 123 #[.slice A n c] w (Post (fun v => v) fun v w' => Own w' w.heap.size 3 1 eI v (frameL xs) ∧ Below w.heap.size w w') := by
  have hle := hs.le
  have hmax := hs.max
  have HL := Lib.hid hs.len
  have HX := Lib.hid hx
  have HF := Lib.hid (fun k => show (frameL (xs.take k)).length ≤ 240 from by
    have h1 := frameL_le (xs := xs.take k) fun x h => (hx x (List.mem_of_mem_take h)).2
    have h2 := hs.len
    rw [List.length_take] at h1
    omega)
  clear hx
  go_enter Tryz.func123, Tryz.ntmps123
  go_wp2_with fail
  go_loopg [3, 8] n (fun gg s3 s8 wr => ∃ (kk : Nat) (v : Value), kk ≤ n ∧ n - kk ≤ gg ∧ s3 = v ∧ s8 = .int .i64 kk ∧ Aside (Below w.heap.size w wr) ∧ Aside (Own wr w.heap.size 3 1 eI v (frameL (xs.take kk))))
  case atStart => exact ⟨0, _, Nat.zero_le _, by omega, rfl, rfl, (show Aside _ from Below.refl _ _), (show Aside _ from Own.nil)⟩
  case round =>
    obtain ⟨kk, v, hkk, hg, hv3, rfl, BW, OW⟩ := hrel
    subst hv3
    have own3 := OW.out
    have hbw := BW.out
    clear OW BW
    by_cases hlt : kk < n
    · have hltz : (kk : Int) < (n : Int) := by omega
      obtain ⟨b, o, rfl, y, hx, hc⟩ := hs.nth hlt hbw
      have q0 := hc 0 _ rfl
      have q1 := hc 1 _ rfl
      have hyb := HX.out y (List.mem_of_getElem? hx)
      have HS := Lib.hid (frameL_step hx)
      have hln := HF.out kk
      clear hc hx
      obtain ⟨a, d⟩ := y
      simp only [eS, Nat.add_zero] at q0 q1 hyb HS
      obtain ⟨t, rfl⟩ : ∃ t : Nat, d = (t : Int) := ⟨d.toNat, by omega⟩
      simp only [Int.toNat_natCast] at HS
      have B5 := (Blk.new wr 123 #[.int .i64 a, .int .i64 t]).alloc (.cells #[.int .i64 a] 3)
      have B4 := Blk.new wr 123 #[.int .i64 a, .int .i64 t]
      have B6 := Blk.new2 wr (.cells #[.int .i64 a, .int .i64 t] 123) 3 #[.int .i64 a]
      have hb6 := alo (alo (Below.refl wr.heap.size wr) (.cells #[.int .i64 a, .int .i64 t] 123)) (.cells #[.int .i64 a] 3)
      have hrp := repI_any a t (by omega) _ _ B6
      have e0 := B4.c0
      have e1 := B5.c1
      go_wp2_with fail
      refine hrp.mono ?_
      rintro e w2 ⟨g2, rfl, Br, -, hb2⟩
      have hbr := thn hbw (thn hb6 hb2)
      have own5 := own3.below (thn hb6 hb2)
      have src := Sl.of_blk (xs := List.replicate t a) Br encI (by rw [List.length_replicate]; omega)
      rw [List.length_replicate] at src
      have hlen : (frameL (xs.take kk)).length + t ≤ 100000000 := by omega
      clear hrp e0 e1 B4 B5 B6 Br
      go_wp2_with (at_builtin; refine app_own rfl _ _ appInt rfl encI w.heap.size _ _ rfl own5 _ _ _ _ rfl (fun e => by cases e) src hlen hbr.size ?_; intro v7 w7 own7 hg7; have hb7 := belowApp hbr own5 hg7 (Nat.le_refl _) hbr.size)
      rw [← HS.out] at own7
      go_roundg (n - (kk + 1))
      case measure => omega
      case rel => exact ⟨kk + 1, _, by omega, by omega, rfl, by go_num, (show Aside _ from hb7), (show Aside _ from own7)⟩
    · have hltz : ¬ (kk : Int) < (n : Int) := by omega
      obtain rfl : n = kk := by omega
      rw [List.take_of_length_le (by have := HL.out; omega)] at own3
      go_wp2
      go_ret
      exact ⟨_, rfl, own3, hbw⟩
end Go.Proofs.YtckgdlgdipfgmaaGreat

namespace Go.Proofs.YtckgdlgdipfgmaaGreat
set_option linter.unusedVariables false
set_option linter.unusedSimpArgs false
open Go.RowKit

theorem count_step {F : List Int} {who y : Int} {k : Nat} (h : F[k]? = some y) : (F.take (k + 1)).count who = (F.take k).count who + (if y = who then 1 else 0) := by
  rw [List.take_add_one, h, List.count_append]
  simp [List.count_singleton]
theorem count_le (F : List Int) (who : Int) (k : Nat) : (F.take k).count who ≤ k := Nat.le_trans List.count_le_length (by rw [List.length_take]; omega)
set_option maxRecDepth 100000 in
set_option maxHeartbeats 2000000 in
theorem own_any (A : Option Addr) (n c : Nat) (xs : List (Int × Int)) (parts who t : Int) (hv : slotsOk xs parts = true) (ht : 0 ≤ t ∧ t ≤ 1000000) (w : World) (hs : Sl w 2 eS A n c xs) :
    Calls Tryz.prog 91 #[.slice A n c, .int .i64 who, .int .i64 t] w fun e w' => .returned (.int .i64 (ownL xs who t)) = e ∧ Below w.heap.size w w' := by
  have hbd := slots_bd hv
  have hn : n ≤ 12 := by have := hs.len; omega
  have hq := frame_any A n c xs hbd.2 hn w hs
  have hs0 := sumT_bd hbd.2
  have hl := frameL_len (xs := xs) fun x hx => by have := hbd.2 x hx; omega
  have hc := frameL_count who (xs := xs) fun x hx => by have := hbd.2 x hx; omega
  have hk := fun k => frameL_take who (xs := xs) k 0 fun x hx => by have := hbd.2 x hx; omega
  obtain ⟨F, hF⟩ : ∃ F, frameL xs = F := ⟨_, rfl⟩
  rw [hF] at hl hc hq
  simp only [hF, Int.zero_add] at hk
  obtain ⟨T, rfl⟩ : ∃ T : Nat, t = (T : Int) := ⟨t.toNat, by omega⟩
  obtain ⟨L, hL⟩ : ∃ L, F.length = L := ⟨_, rfl⟩
  rw [hL] at hl
  have hL1 : 1 ≤ L ∧ L ≤ 240 := by have := hbd.1; omega
  obtain ⟨R, hR⟩ : ∃ R, T % L = R := ⟨_, rfl⟩
  have hR1 : R < L := by rw [← hR]; exact Nat.mod_lt _ (by omega)
  obtain ⟨Q, hQ⟩ : ∃ Q, T / L = Q := ⟨_, rfl⟩
  have hQ1 : Q ≤ 1000000 := by rw [← hQ]; exact Nat.le_trans (Nat.div_le_self _ _) (by omega)
  have HE := Lib.hid (show ownL xs who T = (Q : Int) * (F.count who : Nat) + ((F.take R).count who : Nat) from by
    unfold ownL
    rw [← hl, hk R, hc, ← hQ, ← hR]
    rfl)
  have hrem : (T : Int).tmod (L : Int) = (R : Int) := by rw [← hR]; rfl
  have hquo : (T : Int).tdiv (L : Int) = (Q : Int) := by rw [← hQ]; rfl
  have hL0 : ¬ (L : Int) = 0 := by omega
  have HFL := Lib.hid hL
  clear hbd hs0 hl hc hk hF hL hR hQ
  rw [HE.out]
  go_enter Tryz.func91, Tryz.ntmps91
  go_wp2_with fail
  refine hq.mono ?_
  rintro e w1 ⟨v, rfl, own1, hb1⟩
  obtain ⟨A7, c7, rfl, -, sl7, -⟩ := own1.sl encI
  rw [HFL.out] at sl7 ⊢
  have hle7 := sl7.le
  have hmax7 := sl7.max
  clear hq own1
  go_wp2_with fail
  go_loopg [8, 9, 16] L (fun gg s8 s9 s16 wr => ∃ (kk m1 m2 : Nat), kk ≤ L ∧ L - kk ≤ gg ∧ s8 = .int .i64 m1 ∧ s9 = .int .i64 m2 ∧ s16 = .int .i64 kk ∧ m1 ≤ kk ∧ m2 ≤ kk ∧ Aside (Below w.heap.size w wr) ∧ Aside (Below w1.heap.size w1 wr) ∧ Aside (m1 = (F.take kk).count who ∧ m2 = (F.take (min kk R)).count who))
  case atStart => exact ⟨0, 0, 0, Nat.zero_le _, by omega, rfl, rfl, rfl, Nat.le_refl _, Nat.le_refl _, (show Aside _ from hb1), (show Aside _ from Below.refl _ _), (show Aside _ from by rw [Nat.zero_min]; exact ⟨rfl, rfl⟩)⟩
  case round =>
    obtain ⟨kk, m1, m2, hkk, hg, rfl, rfl, rfl, hm1, hm2, BW, BX, ME⟩ := hrel
    clear hb1
    by_cases hlt : kk < L
    · have hltz : (kk : Int) < (L : Int) := by omega
      obtain ⟨b, o, rfl, y, hx, hc⟩ := sl7.nth hlt BX.out
      have q0 := hc 0 _ rfl
      have HC := Lib.hid (fun k (hk : k = kk + 1) => show (F.take k).count who = (F.take kk).count who + (if y = who then 1 else 0) from hk ▸ count_step hx)
      clear hc hx
      simp only [eI, Nat.add_zero, Nat.mul_one] at q0
      by_cases hy : y = who
      · subst hy
        have hw1 := IntWalk.i64_in ((m1 : Int) + 1) (by omega)
        have hw2 := IntWalk.i64_in ((m2 : Int) + 1) (by omega)
        by_cases hr : kk < R
        · have hrz : (kk : Int) < (R : Int) := by omega
          go_wp2
          go_roundg (L - (kk + 1))
          case measure => omega
          case rel =>
            refine ⟨kk + 1, m1 + 1, m2 + 1, by omega, by omega, by go_num, by go_num, by go_num, by omega, by omega, (show Aside _ from BW.out), (show Aside _ from BX.out), (show Aside _ from ⟨?_, ?_⟩)⟩
            · rw [HC.out _ rfl, if_pos trivial, ← ME.out.1]
            · have h1 := ME.out.2
              rw [Nat.min_eq_left (by omega)] at h1
              rw [Nat.min_eq_left (by omega), HC.out _ rfl, if_pos trivial, ← h1]
        · have hrz : ¬ (kk : Int) < (R : Int) := by omega
          go_wp2
          go_roundg (L - (kk + 1))
          case measure => omega
          case rel =>
            refine ⟨kk + 1, m1 + 1, m2, by omega, by omega, by go_num, rfl, by go_num, by omega, by omega, (show Aside _ from BW.out), (show Aside _ from BX.out), (show Aside _ from ⟨?_, ?_⟩)⟩
            · rw [HC.out _ rfl, if_pos trivial, ← ME.out.1]
            · have h1 := ME.out.2
              rw [Nat.min_eq_right (by omega)] at h1
              rw [Nat.min_eq_right (by omega), ← h1]
      · go_wp2
        go_roundg (L - (kk + 1))
        case measure => omega
        case rel =>
          refine ⟨kk + 1, m1, m2, by omega, by omega, rfl, rfl, by go_num, by omega, by omega, (show Aside _ from BW.out), (show Aside _ from BX.out), (show Aside _ from ⟨?_, ?_⟩)⟩
          · rw [HC.out _ rfl, if_neg hy, ← ME.out.1]; rfl
          · have h1 := ME.out.2
            by_cases hr : kk < R
            · rw [Nat.min_eq_left (by omega)] at h1
              rw [Nat.min_eq_left (by omega), HC.out _ rfl, if_neg hy, ← h1]; rfl
            · rw [Nat.min_eq_right (by omega)] at h1
              rw [Nat.min_eq_right (by omega), ← h1]
    · have hltz : ¬ (kk : Int) < (L : Int) := by omega
      obtain rfl : L = kk := by omega
      have hm := ME.out
      rw [Nat.min_eq_right (by omega), List.take_of_length_le (by have := HFL.out; omega)] at hm
      have hF1 := Lib.hid hm.1
      have hF2 := Lib.hid hm.2
      clear hm ME HE
      have hum : (0 : Int) ≤ (Q : Int) * (m1 : Int) ∧ (Q : Int) * (m1 : Int) ≤ 1000000 * 240 := ⟨Int.mul_nonneg (by omega) (by omega), Int.mul_le_mul (by omega) (by omega) (by omega) (by omega)⟩
      have hw5 := IntWalk.i64_in (Q : Int) (by omega)
      have hw6 := IntWalk.i64_in ((Q : Int) * (m1 : Int)) (by omega)
      have hw7 := IntWalk.i64_in ((Q : Int) * (m1 : Int) + (m2 : Int)) (by omega)
      go_wp2
      go_ret
      exact ⟨by rw [← hF1.out, ← hF2.out]; rfl, BW.out⟩
end Go.Proofs.YtckgdlgdipfgmaaGreat

namespace Go.Proofs.YtckgdlgdipfgmaaGreat
set_option linter.unusedVariables false
set_option linter.unusedSimpArgs false
open Go.RowKit

set_option maxRecDepth 100000 in
set_option maxHeartbeats 2000000 in
theorem growI_any (n : Nat) (hn : 0 < n ∧ n ≤ 10000) (w : World) :
    Calls Tryz.prog 122 #[.slice none 0 0, .int .i64 n] w (Post (fun v => v) fun v w' => Own w' w.heap.size 3 1 eI v ([] : List Int) ∧ Below w.heap.size w w') := by
  obtain ⟨h0, h1⟩ := hn
  obtain ⟨i, z, hi, hz, hsz, hby, hzs⟩ := appInt.info
  have hrun := fun ty => Lib.run_append_nil_zeros (P := Tryz.prog) w 47 3 ty 3 i z .i64 .i64 (by kernel_rfl) (by kernel_rfl) hi hz n h0 (by rw [hsz]; decide) (by omega) (by rw [hby]; omega)
  generalize z.cells = zc at hrun hzs
  have hG := grownCap_ge w n 0 3
  have hG2 := grownCap_le_maxLen w n 0 3 (by unfold maxLen; omega)
  obtain ⟨G, hg⟩ : ∃ G, grownCap w n 0 3 = G := ⟨_, rfl⟩
  rw [hg] at hG hG2 hrun
  have hG3 : G ≤ 9223372036854775807 := by unfold maxLen at hG2; omega
  have hh1 : ¬ ((n : Int) < 0) := by omega
  have hh2 : (0 : Int) < (n : Int) := by omega
  have hh3 : (0 : Int) ≤ (n : Int) := by omega
  have hh4 : (n : Int) ≤ (G : Int) := by omega
  clear hg
  have hown : Own (w.drew.alloc (.cells (Builtin.zeroCells zc n ++ Builtin.zeroCells zc (G - n)) 3)) w.heap.size 3 1 eI (.slice (some ⟨w.heap.size, 0, none⟩) 0 G) ([] : List Int) :=
    ⟨rfl, .inr ⟨w.heap.size, G, _, rfl, Nat.le_refl _, heap_alloc_new w.drew _, Nat.zero_le _, hG2, (by simp only [Array.size_append, size_zeroCells, hzs]; omega), rfl⟩⟩
  have hbl := alo (Below.refl w.heap.size w).drew (.cells (Builtin.zeroCells zc n ++ Builtin.zeroCells zc (G - n)) 3)
  clear hi hz hsz hby hzs
  go_enter Tryz.func122, Tryz.ntmps122
  go_wp2_with (at_builtin; refine Lib.wpList_append_run _ rfl _ _ _ _ rfl _ _ rfl rfl _ _ (hrun _) ?_)
  go_ret
  exact ⟨_, rfl, hown, hbl⟩
set_option maxRecDepth 100000 in
set_option maxHeartbeats 4000000 in
theorem concatI_any (A : Option Addr) (n c : Nat) (xs : List Int) (m : Int) (gb gm : Nat) (hn : n ≤ 1000) (hnil : A = none → c = 0) (w : World) (hs : Sl w 1 eI A n c xs) (hB : Blk w gb 47 #[.slice A n c, .slice (some ⟨gm, 0, none⟩) 1 1]) (hM : Blk w gm 3 #[.int .i64 m]) :
    Calls Tryz.prog 90 #[.slice (some ⟨gb, 0, none⟩) 2 2] w (Post (fun v => v) fun v w' => Own w' w.heap.size 3 1 eI v (xs ++ [m]) ∧ Below w.heap.size w w') := by
  have hle := hs.le
  have hmax := hs.max
  have HL := Lib.hid hs.len
  have hGr := fun W => growI_any (n + 1) (by omega) W
  simp only [Int.natCast_add, Int.cast_ofNat_Int] at hGr
  have c0 := hB.c0
  have c1 := hB.c1
  have fw : wrap64 ((n : Int) + 1) = (n : Int) + 1 := by unfold wrap64; omega
  clear fw
  have hltB := hB.lt
  have hltM := hM.lt
  go_enter Tryz.func90, Tryz.ntmps90
  go_wp2_with fail
  go_loopg [3, 11] 2 (fun gg s3 s11 wr => ∃ kk : Nat, kk ≤ 2 ∧ 2 - kk ≤ gg ∧ s3 = .int .i64 (if kk = 0 then 0 else if kk = 1 then (n : Int) else (n : Int) + 1) ∧ s11 = .int .i64 kk ∧ Aside (w = wr))
  case atStart => exact ⟨0, by omega, by omega, rfl, rfl, (show Aside _ from rfl)⟩
  case round =>
    obtain ⟨kk, hkk, hg, rfl, rfl, BW⟩ := hrel
    obtain rfl := BW.out
    have hcase : kk = 0 ∨ kk = 1 ∨ kk = 2 := by omega
    rcases hcase with rfl | rfl | rfl
    · simp only [if_true]
      go_wp2
      go_roundg 1
      case measure => omega
      case rel => exact ⟨1, by omega, by omega, by simp, by go_num, (show Aside _ from rfl)⟩
    · simp only [Nat.one_ne_zero, if_false, if_true]
      go_wp2
      go_roundg 0
      case measure => omega
      case rel => exact ⟨2, by omega, by omega, by simp, by go_num, (show Aside _ from rfl)⟩
    · simp only [show ¬ (2 : Nat) = 0 by omega, show ¬ (2 : Nat) = 1 by omega, if_false]
      go_wp2_with fail
      refine (hGr _).mono ?_
      rintro e w1 ⟨v, rfl, own1, hb1⟩
      clear hGr
      have hw1 := hb1.size
      have hB1 := hB.below hb1
      have hM1 := hM.below hb1
      have sl1 := hs.below hb1
      have ltA : 0 < n → ∀ b o, A = some ⟨b, o, none⟩ → b < w.heap.size := fun h b o e => by
        obtain ⟨b', o', e', h', -⟩ := hs.cells h
        rw [e] at e'
        injection e' with e'
        injection e' with e1 _
        omega
      go_wp2_with fail
      go_loopg [6, 27] 2 (fun gg s6 s27 wr => ∃ (kk : Nat) (v : Value), kk ≤ 2 ∧ 2 - kk ≤ gg ∧ s6 = v ∧ s27 = .int .i64 kk ∧ Aside (Below w.heap.size w wr) ∧ Aside (Own wr w.heap.size 3 1 eI v (if kk = 0 then [] else if kk = 1 then xs else xs ++ [m])))
      case atStart => exact ⟨0, _, by omega, by omega, rfl, rfl, (show Aside _ from hb1), (show Aside _ from own1)⟩
      case round =>
        obtain ⟨kk, v6, hkk, hg, hv6, rfl, BW, OW⟩ := hrel
        subst hv6
        have own6 := OW.out
        have hbw := BW.out
        clear OW BW
        have hB1 := hB.below hbw
        have hM1 := hM.below hbw
        have sl1 := hs.below hbw
        have d0 := hB1.c0
        have d1 := hB1.c1
        have hcase : kk = 0 ∨ kk = 1 ∨ kk = 2 := by omega
        rcases hcase with rfl | rfl | rfl
        · simp only [if_true] at own6
          go_wp2_with (at_builtin; refine app_own rfl _ _ appInt rfl encI w.heap.size _ [] rfl own6 _ _ _ xs rfl hnil sl1 (by simp; omega) hbw.size ?_; intro v7 w7 own7 hg7; have hb7 := belowApp hbw own6 hg7 (Nat.le_refl _) hbw.size; simp only [List.nil_append] at own7)
          go_roundg 1
          case measure => omega
          case rel => exact ⟨1, _, by omega, by omega, rfl, by go_num, (show Aside _ from hb7), (show Aside _ from own7)⟩
        · simp only [Nat.one_ne_zero, if_false, if_true] at own6
          have src := Sl.of_blk (xs := [m]) hM1 encI (by simp)
          have hlen : xs.length + 1 ≤ 100000000 := by rw [HL.out]; omega
          go_wp2_with (at_builtin; refine app_own rfl _ _ appInt rfl encI w.heap.size _ xs rfl own6 _ 1 1 [m] rfl (fun e => by cases e) src hlen hbw.size ?_; intro v7 w7 own7 hg7; have hb7 := belowApp hbw own6 hg7 (Nat.le_refl _) hbw.size)
          go_roundg 0
          case measure => omega
          case rel => exact ⟨2, _, by omega, by omega, rfl, by go_num, (show Aside _ from hb7), (show Aside _ from own7)⟩
        · simp only [show ¬ (2 : Nat) = 0 by omega, show ¬ (2 : Nat) = 1 by omega, if_false] at own6
          go_wp2
          go_ret
          exact ⟨_, rfl, own6, hbw⟩
end Go.Proofs.YtckgdlgdipfgmaaGreat

namespace Go.Proofs.YtckgdlgdipfgmaaGreat
set_option linter.unusedVariables false
set_option linter.unusedSimpArgs false
open Go.RowKit

/-- A block whose first o cells are those of a list. -/
def Upto (w : World) (g E o : Nat) (flat : List Value) : Prop := ∃ arr : Array Value, Blk w g E arr ∧ arr.size = flat.length ∧ ∀ i, i < o → arr[i]? = flat[i]?
theorem Upto.below {w w' : World} {g E o : Nat} {flat : List Value} (h : Upto w g E o flat) (hb : Below w.heap.size w w') : Upto w' g E o flat := by
  obtain ⟨arr, hB, h1, h2⟩ := h
  exact ⟨arr, hB.below hb, h1, h2⟩
theorem Upto.frozen {w : World} {g E o : Nat} {flat : List Value} (h : Upto w g E o flat) (i : Nat) : w.frozen? ⟨g, i, none⟩ = false := by
  obtain ⟨arr, hB, _⟩ := h
  exact hB.frozen i
theorem Upto.has {w : World} {g E o : Nat} {flat : List Value} (h : Upto w g E o flat) {i : Nat} {u : Value} (hi : flat[i]? = some u) : ∃ v, w.cell? ⟨g, i, none⟩ = some v := by
  obtain ⟨arr, hB, h1, _⟩ := h
  have : i < arr.size := by rw [h1]; exact (List.getElem?_eq_some_iff.1 hi).1
  exact ⟨_, (hB.cell i).trans (Array.getElem?_eq_getElem this)⟩
theorem Upto.lt {w : World} {g E o : Nat} {flat : List Value} (h : Upto w g E o flat) : g < w.heap.size := by
  obtain ⟨arr, hB, _⟩ := h
  exact hB.lt
theorem Upto.set {w : World} {g E o : Nat} {flat : List Value} {u : Value} (h : Upto w g E o flat) (hu : flat[o]? = some u) : Upto (w.setCell ⟨g, o, none⟩ u) g E (o + 1) flat := by
  obtain ⟨arr, hB, h1, h2⟩ := h
  have ho : o < arr.size := by rw [h1]; exact (List.getElem?_eq_some_iff.1 hu).1
  refine ⟨_, hB.set_ o u, by simpa using h1, fun i hi => ?_⟩
  by_cases e : i = o
  · subst e
    rw [hu, Array.getElem?_setIfInBounds_self_of_lt ho]
  · rw [Array.getElem?_setIfInBounds_ne (Ne.symm e)]
    exact h2 i (by omega)
theorem Upto.full {w : World} {g E o : Nat} {flat : List Value} (h : Upto w g E o flat) (ho : flat.length ≤ o) : Blk w g E flat.toArray := by
  obtain ⟨arr, hB, h1, h2⟩ := h
  have : arr = flat.toArray := by
    apply Array.ext_getElem?
    intro i
    by_cases hi : i < flat.length
    · rw [h2 i (by omega)]; simp
    · rw [Array.getElem?_eq_none (by omega)]; simp; omega
  rw [← this]; exact hB
theorem Upto.made {w : World} {base E k g n c : Nat} {α : Type} {enc : α → List Value} {xs ys : List α} (hk : Enc enc k) (h : Own w base E k enc (.slice (some ⟨g, 0, none⟩) n n) ys) (hx : xs.length = ys.length) : Upto w g E 0 (xs.flatMap enc) := by
  rcases h.2 with ⟨h1, _⟩ | ⟨g', cap, cur, h1, _, hb, _, _, hc, _⟩
  · cases h1
  · injection h1 with h1 h2 h3
    injection h1 with h1
    injection h1 with h1
    subst h1
    refine ⟨cur, hb, ?_, fun i hi => absurd hi (Nat.not_lt_zero _)⟩
    rw [flatMap_len hk.len, hc, ← h3, hx, ← h2]
theorem flat_at {α : Type} {k : Nat} {enc : α → List Value} (hk : Enc enc k) {xs : List α} {j : Nat} {x : α} (hj : xs[j]? = some x) (i o : Nat) (u : Value) (hu : (enc x)[i]? = some u) (ho : o = j * k + i) : (xs.flatMap enc)[o]? = some u := by
  subst ho
  exact flatMap_get hk.len xs j x i u hj hu
/-- A slice of the call's own that is whole: what 'to..S' hands back. -/
def whole (n : Nat) (g : Nat) : Value := .slice (some ⟨g, 0, none⟩) n n
end Go.Proofs.YtckgdlgdipfgmaaGreat

namespace Go.Proofs.YtckgdlgdipfgmaaGreat
set_option linter.unusedVariables false
set_option linter.unusedSimpArgs false
open Go.RowKit

abbrev PartV := SV Win × Int
def eP (x : PartV) : List Value := [x.1.v, .int .i64 x.2]
theorem encP : Enc eP 2 := ⟨fun _ => rfl, fun x u h => by simp [eP] at h; rcases h with rfl | rfl <;> rfl⟩
/-- The windows of all partitions of a list can be read. -/
def PtOk (w : World) (xs : List PartV) : Prop := ∀ x ∈ xs, Sl w 3 Win.cells x.1.A x.1.n x.1.c x.1.xs
theorem PtOk.below {w w' : World} {xs : List PartV} (h : PtOk w xs) (hb : Below w.heap.size w w') : PtOk w' xs := fun x hx => (h x hx).below hb
end Go.Proofs.YtckgdlgdipfgmaaGreat

namespace Go.Proofs.YtckgdlgdipfgmaaGreat
set_option linter.unusedVariables false
set_option linter.unusedSimpArgs false
open Go.RowKit

structure Near (w : World) where
  W : World
  b : Below w.heap.size w W

instance (w : World) : Nonempty (Near w) := ⟨⟨w, Below.refl _ _⟩⟩
theorem Near.drew (w : World) : Below w.heap.size w { w with drawn := w.drawn + 1 } := ⟨rfl, rfl, rfl, Nat.le_refl _, fun _ _ => rfl⟩

theorem wp_region_near {P : Program} {id : Nat} {Q : Exit → Act → World → Prop} {a : Act} {w : World} {l : List Oper} (hm : P.follows .mixedOrders = true) (hB : Region.lexB .any l.toArray = true)
    (h : wpQuiet P l.toArray (fun w' => ∃ n : Near w, w' = n.W) (fun a' => ∀ n : Near w, Q .normal a' n.W) l a) : (Code.region id l.toArray true).wp P Q a w := by
  refine wp_region_quiet (C := fun w' => ∃ n : Near w, w' = n.W) hm hB ⟨⟨_, Near.drew w⟩, rfl⟩ ?_
  have : (fun a' => ∀ w', (∃ n : Near w, w' = n.W) → Q .normal a' w') = (fun a' => ∀ n : Near w, Q .normal a' n.W) := by
    funext a'
    apply propext
    exact ⟨fun h n => h _ ⟨n, rfl⟩, fun h w' ⟨n, e⟩ => by rw [e]; exact h n⟩
  rw [this]
  exact h

theorem near_call {P : Program} {f : FuncId} {args : Array Value} {w : World} {x : Near w} {v : Value} (h : Calls P f args x.W fun e w' => .returned v = e ∧ Below x.W.heap.size x.W w') :
    Calls P f args x.W fun e w'' => e = .returned v ∧ ∃ y : Near w, w'' = y.W := h.mono fun _ _ ⟨a, b⟩ => ⟨a.symm, ⟨_, thn x.b b⟩, rfl⟩
theorem near_same {P : Program} {f : FuncId} {args : Array Value} {w : World} {x : Near w} {v : Value} (h : Calls P f args x.W fun e w' => .returned v = e ∧ x.W = w') :
    Calls P f args x.W fun e w'' => e = .returned v ∧ ∃ y : Near w, w'' = y.W := h.mono fun _ _ ⟨a, b⟩ => ⟨a.symm, x, b.symm⟩
theorem below_set3' {B g : Nat} {a w : World} (h : Below B a w) (hp : B ≤ g) (i j k : Nat) (x y z : Value) : Below B a (((w.setCell ⟨g, i, none⟩ x).setCell ⟨g, j, none⟩ y).setCell ⟨g, k, none⟩ z) :=
  ((h.setCell (p := ⟨g, i, none⟩) hp x).setCell (p := ⟨g, j, none⟩) hp y).setCell (p := ⟨g, k, none⟩) hp z
theorem below_set3 {B g : Nat} {a w : World} (h : Below B a w) (hp : B ≤ g) (x y z : Value) : Below B a (((w.setCell ⟨g, 0, none⟩ x).setCell ⟨g, 1, none⟩ y).setCell ⟨g, 2, none⟩ z) :=
  ((h.setCell (p := ⟨g, 0, none⟩) hp x).setCell (p := ⟨g, 1, none⟩) hp y).setCell (p := ⟨g, 2, none⟩) hp z
theorem Blk.near {w : World} {g : Nat} {t : TypeId} {cs : Array Value} (h : Blk w g t cs) (x : Near w) : Blk x.W g t cs := h.below x.b
end Go.Proofs.YtckgdlgdipfgmaaGreat
