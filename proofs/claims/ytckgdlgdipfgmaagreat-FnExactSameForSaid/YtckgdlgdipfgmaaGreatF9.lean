/- FrameTicks of the reference. OwnTicks of the reference. What a partition sees, as a list: words and bounds. No program in sight. The numbers of a setup, as a list; they tell how many partitions and channels there are. No program in sight. FlowDirect of impl and spec. -/
import Derived.Test.YtckgdlgdipfgmaaGreatF2
import Derived.Test.YtckgdlgdipfgmaaGreatF6
import Derived.Test.YtckgdlgdipfgmaaGreatF8
import Derived.BigQuiet
import Derived.Deep.QuietTactic

namespace Go.Proofs.YtckgdlgdipfgmaaGreat
set_option linter.unusedVariables false
set_option linter.unusedSimpArgs false
open Go.RowKit

theorem slots_bd {xs : List (Int × Int)} {parts : Int} (h : slotsOk xs parts = true) : (xs.length ≤ 12 ∧ 1 ≤ xs.length) ∧ ∀ x ∈ xs, 1 ≤ x.2 ∧ x.2 ≤ 20 := by
  simp only [slotsOk, Bool.and_eq_true, List.all_eq_true] at h
  refine ⟨by have := inB_true.1 h.2.1; omega, fun x hx => ?_⟩
  have := h.2.2 x hx
  simp only [slotOk, Bool.and_eq_true] at this
  exact inB_true.1 this.1
theorem sumT_take {xs : List (Int × Int)} {k : Nat} {y : Int × Int} (h : xs[k]? = some y) : sumT (xs.take (k + 1)) = sumT (xs.take k) + y.2 := by
  induction xs generalizing k with
  | nil => cases h
  | cons x xs ih =>
    cases k with
    | zero => simp only [List.getElem?_cons_zero] at h; injection h with h; subst h; simp [sumT]
    | succ k =>
      have := ih (k := k) (by simpa using h)
      simp only [List.take_succ_cons, sumT] at this ⊢
      omega
theorem sumT_bd {xs : List (Int × Int)} (h : ∀ x ∈ xs, 1 ≤ x.2 ∧ x.2 ≤ 20) : (xs.length : Int) ≤ sumT xs ∧ sumT xs ≤ 20 * xs.length := by
  induction xs with
  | nil => simp [sumT]
  | cons x xs ih =>
    have h1 := h x List.mem_cons_self
    have h2 := ih fun y hy => h y (List.mem_cons_of_mem _ hy)
    simp only [sumT, List.length_cons]
    omega
set_option maxHeartbeats 1000000 in
theorem specFrameTicks_any (A : Option Addr) (n c : Nat) (xs : List (Int × Int)) (parts : Int) (hp : -1000 ≤ parts ∧ parts ≤ 1000) (hv : slotsOk xs parts = true) (w : World) (hs : Sl w 2 eS A n c xs) :
    Calls Tryz.prog 93 #[.slice A n c, .int .i64 parts] w fun e w' => .returned (.int .i64 (sumT xs)) = e ∧ Below w.heap.size w w' := by
  have hle := hs.le
  have hmax := hs.max
  have HL := Lib.hid hs.len
  have hbd := slots_bd hv
  have hn : n ≤ 12 := by have := hs.len; omega
  have HB := Lib.hid hbd.2
  have hq := specSlotsValid_any A n c xs parts w (by omega) hs
  rw [hv] at hq
  clear hbd hv
  go_enter Tryz.func93, Tryz.ntmps93
  go_wp2_with fail
  refine hq.mono ?_
  rintro e w1 ⟨rfl, hb1⟩
  clear hq
  go_wp2_with fail
  go_loopg [5, 6] n (fun gg s5 s6 wr => ∃ (kk : Nat) (m : Int), kk ≤ n ∧ n - kk ≤ gg ∧ s5 = .int .i64 m ∧ s6 = .int .i64 kk ∧ 0 ≤ m ∧ m ≤ 20 * kk ∧ Aside (Below w.heap.size w wr) ∧ Aside (m = sumT (xs.take kk)))
  case atStart => exact ⟨0, 0, Nat.zero_le _, by omega, rfl, rfl, by omega, by omega, (show Aside _ from hb1), (show Aside _ from rfl)⟩
  case round =>
    clear hb1
    obtain ⟨kk, m, hkk, hg, rfl, rfl, hm0, hm1, BW, ME⟩ := hrel
    by_cases hlt : kk < n
    · have hltz : (kk : Int) < (n : Int) := by omega
      obtain ⟨b, o, rfl, y, hx, hc⟩ := hs.nth hlt BW.out
      have q1 := hc 1 _ rfl
      have HT := Lib.hid (sumT_take hx)
      have hyb := HB.out y (List.mem_of_getElem? hx)
      clear hc hx
      obtain ⟨a, t⟩ := y
      simp only [eS] at q1 hyb
      have hw := IntWalk.i64_in (m + t) (by omega)
      go_wp2
      go_roundg (n - (kk + 1))
      case measure => omega
      case rel => exact ⟨kk + 1, m + t, by omega, by omega, rfl, by go_num, by omega, by omega, (show Aside _ from BW.out), (show Aside _ from by show m + t = sumT _; rw [HT.out, ← ME.out])⟩
    · have hltz : ¬ (kk : Int) < (n : Int) := by omega
      obtain rfl : n = kk := by omega
      have hm := ME.out
      rw [List.take_of_length_le (by have := HL.out; omega)] at hm
      have HM := Lib.hid hm
      clear hm
      go_wp2
      go_ret
      exact ⟨by rw [HM.out]; rfl, BW.out⟩
end Go.Proofs.YtckgdlgdipfgmaaGreat

namespace Go.Proofs.YtckgdlgdipfgmaaGreat
set_option linter.unusedVariables false
set_option linter.unusedSimpArgs false
open Go.RowKit

theorem sumO_take (n : Int) {xs : List (Int × Int)} {k : Nat} {y : Int × Int} (h : xs[k]? = some y) : sumO n (xs.take (k + 1)) = sumO n (xs.take k) + (if y.1 = n then y.2 else 0) := by
  induction xs generalizing k with
  | nil => cases h
  | cons x xs ih =>
    cases k with
    | zero => simp only [List.getElem?_cons_zero] at h; injection h with h; subst h; simp [sumO]
    | succ k =>
      have := ih (k := k) (by simpa using h)
      simp only [List.take_succ_cons, sumO] at this ⊢
      omega
theorem restO_take (n t : Int) {xs : List (Int × Int)} : ∀ {k : Nat} {y : Int × Int} (u : Int), xs[k]? = some y → restO n t u (xs.take (k + 1)) = restO n t u (xs.take k) + (if y.1 = n then max 0 (min y.2 (t - (u + sumT (xs.take k)))) else 0) := by
  induction xs with
  | nil => intro k y u h; cases h
  | cons x xs ih =>
    intro k y u h
    cases k with
    | zero => simp only [List.getElem?_cons_zero] at h; injection h with h; subst h; simp [restO, sumT]
    | succ k =>
      have := ih (k := k) (y := y) (u + x.2) (by simpa using h)
      simp only [List.take_succ_cons, restO, sumT] at this ⊢
      rw [this, show u + x.2 + sumT (xs.take k) = u + (x.2 + sumT (xs.take k)) from by omega]
      omega
def ownL (xs : List (Int × Int)) (n t : Int) : Int := t / sumT xs * sumO n xs + restO n (t % sumT xs) 0 xs
set_option maxHeartbeats 2000000 in
theorem specOwnTicks_any (A : Option Addr) (n c : Nat) (xs : List (Int × Int)) (parts who t : Int) (hp : -1000 ≤ parts ∧ parts ≤ 1000) (hv : slotsOk xs parts = true) (hwho : 0 ≤ who ∧ who ≤ parts - 1) (ht : 0 ≤ t ∧ t ≤ 1000000) (w : World) (hs : Sl w 2 eS A n c xs) :
    Calls Tryz.prog 49 #[.slice A n c, .int .i64 parts, .int .i64 who, .int .i64 t] w fun e w' => .returned (.int .i64 (ownL xs who t)) = e ∧ Below w.heap.size w w' := by
  have hle := hs.le
  have hmax := hs.max
  have HL := Lib.hid hs.len
  have hbd := slots_bd hv
  have hn : n ≤ 12 := by have := hs.len; omega
  have hs0 := sumT_bd hbd.2
  have HB := Lib.hid hbd.2
  have hq := specSlotsValid_any A n c xs parts w (by omega) hs
  rw [hv] at hq
  have hq1 := fun W => l1In_any who 0 (parts - 1) W
  rw [inB_true.2 hwho] at hq1
  have hq2 := fun W => l1In_any t 0 1000000 W
  rw [inB_true.2 ht] at hq2
  have hq3 := fun W hW => specFrameTicks_any A n c xs parts hp hv W (hs.below hW)
  have hwp := IntWalk.i64_in (parts - 1) (by omega)
  obtain ⟨S, hS⟩ : ∃ S, sumT xs = S := ⟨_, rfl⟩
  have HS := Lib.hid hS
  simp only [hS] at hq3 hs0
  have hSb : 1 ≤ S ∧ S ≤ 240 := by have := hbd.1; omega
  clear hbd hv hS hs0 hwho
  go_enter Tryz.func49, Tryz.ntmps49
  go_wp2_with fail
  refine hq.mono ?_
  rintro e w1 ⟨rfl, hb1⟩
  clear hq
  go_wp2_with fail; refine (hq1 _).mono ?_; rintro e w' ⟨rfl, rfl⟩
  go_wp2_with fail; refine (hq2 _).mono ?_; rintro e w' ⟨rfl, rfl⟩
  go_wp2_with fail
  refine (hq3 _ hb1).mono ?_
  rintro e w2 ⟨rfl, hb2⟩
  have hB2 := thn hb1 hb2
  clear hq1 hq2 hq3 hb1 hb2
  go_wp2_with fail
  go_loopg [10, 11, 12, 13] n (fun gg s10 s11 s12 s13 wr => ∃ (kk : Nat) (m1 m2 m3 : Int), kk ≤ n ∧ n - kk ≤ gg ∧ s10 = .int .i64 m1 ∧ s11 = .int .i64 m2 ∧ s12 = .int .i64 m3 ∧ s13 = .int .i64 kk ∧ (0 ≤ m1 ∧ m1 ≤ 20 * kk) ∧ (0 ≤ m2 ∧ m2 ≤ 20 * kk) ∧ (0 ≤ m3 ∧ m3 ≤ 20 * kk) ∧ Aside (Below w.heap.size w wr) ∧ Aside (m1 = sumO who (xs.take kk) ∧ m2 = restO who (t % S) 0 (xs.take kk) ∧ m3 = sumT (xs.take kk)))
  case atStart => exact ⟨0, 0, 0, 0, Nat.zero_le _, by omega, rfl, rfl, rfl, rfl, by omega, by omega, by omega, (show Aside _ from hB2), (show Aside _ from ⟨rfl, rfl, rfl⟩)⟩
  case round =>
    clear hB2
    obtain ⟨kk, m1, m2, m3, hkk, hg, rfl, rfl, rfl, rfl, hm1, hm2, hm3, BW, ME⟩ := hrel
    by_cases hlt : kk < n
    · have hltz : (kk : Int) < (n : Int) := by omega
      obtain ⟨b, o, rfl, y, hx, hc⟩ := hs.nth hlt BW.out
      have q0 := hc 0 _ rfl
      have q1 := hc 1 _ rfl
      have HT := Lib.hid (sumT_take hx)
      have HO := Lib.hid (sumO_take who hx)
      have HR := Lib.hid (restO_take who (t % S) 0 hx)
      have hyb := HB.out y (List.mem_of_getElem? hx)
      clear hc hx
      obtain ⟨a, d⟩ := y
      simp only [eS, Nat.add_zero] at q0 q1 hyb
      have hw1 := IntWalk.i64_in (m1 + d) (by omega)
      have hw3 := IntWalk.i64_in (m3 + d) (by omega)
      by_cases ha : a = who
      · subst ha
        have hr0 : 0 ≤ t % S ∧ t % S < S := ⟨Int.emod_nonneg _ (by omega), Int.emod_lt_of_pos _ (by omega)⟩
        have htm : t.tmod S = t % S := Int.tmod_eq_emod_of_nonneg ht.1
        have hS0 : ¬ S = 0 := by omega
        obtain ⟨r, hr⟩ : ∃ r, t % S = r := ⟨_, rfl⟩
        rw [hr] at htm hr0
        have hwr := IntWalk.i64_in (r - m3) (by omega)
        rw [hr] at HR
        rcases (show (r - m3 ≤ 0 ∧ r - m3 < d) ∨ (0 < r - m3 ∧ r - m3 < d) ∨ (0 < r - m3 ∧ d ≤ r - m3) by omega) with ⟨k0, k1⟩ | ⟨k0, k1⟩ | ⟨k0, k1⟩
        · have k2 : ¬ 0 < r - m3 := by omega
          have k3 : ¬ d < r - m3 := by omega
          have k4 : ¬ d ≤ r - m3 := by omega
          have k5 := IntWalk.i64_in (m2 + 0) (by omega)
          go_wp2_with fail
          go_quiet (fail)
          go_wp2
          go_roundg (n - (kk + 1))
          case measure => omega
          case rel =>
            refine ⟨kk + 1, m1 + d, m2 + 0, m3 + d, by omega, by omega, by go_num, by go_num, by go_num, by go_num, by omega, by omega, by omega, (show Aside _ from by repeat (first | exact BW.out | apply belowDrewN | apply belowDrewN')), (show Aside _ from ⟨?_, ?_, ?_⟩)⟩
            · have h1 := HO.out; have h2 := ME.out.1; simp only [if_true] at h1; omega
            · have h1 := HR.out; have h2 := ME.out.2.1; have h3 := ME.out.2.2; rw [hr] at h2 ⊢; simp only [if_true] at h1; omega
            · rw [HT.out, ← ME.out.2.2]
        · have k3 : ¬ d < r - m3 := by omega
          have k4 : ¬ d ≤ r - m3 := by omega
          have k5 := IntWalk.i64_in (m2 + (r - m3)) (by omega)
          go_wp2_with fail
          go_quiet (fail)
          go_wp2
          go_roundg (n - (kk + 1))
          case measure => omega
          case rel =>
            refine ⟨kk + 1, m1 + d, m2 + (r - m3), m3 + d, by omega, by omega, by go_num, by go_num, by go_num, by go_num, by omega, by omega, by omega, (show Aside _ from by repeat (first | exact BW.out | apply belowDrewN | apply belowDrewN')), (show Aside _ from ⟨?_, ?_, ?_⟩)⟩
            · have h1 := HO.out; have h2 := ME.out.1; simp only [if_true] at h1; omega
            · have h1 := HR.out; have h2 := ME.out.2.1; have h3 := ME.out.2.2; rw [hr] at h2 ⊢; simp only [if_true] at h1; omega
            · rw [HT.out, ← ME.out.2.2]
        · have k3 : ¬ r - m3 < d := by omega
          have k4 : 0 < d := by omega
          have k5 := IntWalk.i64_in (m2 + d) (by omega)
          go_wp2_with fail
          go_quiet (fail)
          go_wp2
          go_roundg (n - (kk + 1))
          case measure => omega
          case rel =>
            refine ⟨kk + 1, m1 + d, m2 + d, m3 + d, by omega, by omega, by go_num, by go_num, by go_num, by go_num, by omega, by omega, by omega, (show Aside _ from by repeat (first | exact BW.out | apply belowDrewN | apply belowDrewN')), (show Aside _ from ⟨?_, ?_, ?_⟩)⟩
            · have h1 := HO.out; have h2 := ME.out.1; simp only [if_true] at h1; omega
            · have h1 := HR.out; have h2 := ME.out.2.1; have h3 := ME.out.2.2; rw [hr] at h2 ⊢; simp only [if_true] at h1; omega
            · rw [HT.out, ← ME.out.2.2]
      · go_wp2
        go_roundg (n - (kk + 1))
        case measure => omega
        case rel =>
          refine ⟨kk + 1, m1, m2, m3 + d, by omega, by omega, rfl, rfl, rfl, by go_num, by omega, by omega, by omega, (show Aside _ from BW.out), (show Aside _ from ⟨?_, ?_, ?_⟩)⟩
          · rw [HO.out, if_neg ha, ← ME.out.1]; omega
          · rw [HR.out, if_neg ha, ← ME.out.2.1]; omega
          · rw [HT.out, ← ME.out.2.2]
    · have hltz : ¬ (kk : Int) < (n : Int) := by omega
      obtain rfl : n = kk := by omega
      have hm := ME.out
      rw [List.take_of_length_le (by have := HL.out; omega)] at hm
      have HO := Lib.hid (show ownL xs who t = t / S * m1 + m2 by unfold ownL; rw [HS.out, hm.1, hm.2.1])
      have hS0 : ¬ S = 0 := by omega
      have htd : t.tdiv S = t / S := Int.tdiv_eq_ediv_of_nonneg ht.1
      obtain ⟨u, hu⟩ : ∃ u, t / S = u := ⟨_, rfl⟩
      rw [hu] at htd HO
      have hu0 : 0 ≤ u ∧ u ≤ 1000000 := by
        rw [← hu]
        exact ⟨Int.ediv_nonneg ht.1 (by omega), Int.le_trans (Int.ediv_le_self _ ht.1) ht.2⟩
      have hum : 0 ≤ u * m1 ∧ u * m1 ≤ 1000000 * 240 := ⟨Int.mul_nonneg hu0.1 hm1.1, Int.le_trans (Int.mul_le_mul_of_nonneg_right hu0.2 hm1.1) (by omega)⟩
      have hw5 := IntWalk.i64_in u (by omega)
      have hw6 := IntWalk.i64_in (u * m1) (by omega)
      have hw7 := IntWalk.i64_in (u * m1 + m2) (by omega)
      clear hm ME
      go_wp2
      go_ret
      exact ⟨by rw [HO.out]; rfl, BW.out⟩
end Go.Proofs.YtckgdlgdipfgmaaGreat

namespace Go.Proofs.YtckgdlgdipfgmaaGreat
set_option linter.unusedVariables false
set_option linter.unusedSimpArgs false
open Go.RowKit

def bitI (b : Bool) : Int := if b then 1 else 0
theorem bitI_true : bitI true = 1 := rfl
theorem bitI_false : bitI false = 0 := rfl
/-- The messages of a channel, if it leads to n. -/
def msgL (n : Int) (x : ChanT × List Int) : List Int := if x.1.2.2.1 = n then (x.2.length : Int) :: x.2 else []
def msgsL (n : Int) (cs : List ChanT) (hs : List (List Int)) (k : Nat) : List Int := ((cs.zip hs).take k).flatMap (msgL n)
theorem msgsL_zero (n : Int) (cs : List ChanT) (hs : List (List Int)) : msgsL n cs hs 0 = [] := rfl
theorem msgsL_to {n : Int} {cs : List ChanT} {hs : List (List Int)} {k : Nat} {c : ChanT} {h : List Int} (hc : cs[k]? = some c) (hh : hs[k]? = some h) (hn : c.2.2.1 = n) : msgsL n cs hs (k + 1) = (msgsL n cs hs k ++ [(h.length : Int)]) ++ h := by
  have hz : (cs.zip hs)[k]? = some (c, h) := by rw [List.getElem?_zip_eq_some]; exact ⟨hc, hh⟩
  unfold msgsL
  rw [List.take_add_one, hz, List.flatMap_append]
  simp [msgL, hn]
theorem msgsL_not {n : Int} {cs : List ChanT} {hs : List (List Int)} {k : Nat} {c : ChanT} {h : List Int} (hc : cs[k]? = some c) (hh : hs[k]? = some h) (hn : ¬ c.2.2.1 = n) : msgsL n cs hs (k + 1) = msgsL n cs hs k := by
  have hz : (cs.zip hs)[k]? = some (c, h) := by rw [List.getElem?_zip_eq_some]; exact ⟨hc, hh⟩
  unfold msgsL
  rw [List.take_add_one, hz, List.flatMap_append]
  simp [msgL, hn]
theorem msgsL_len {n : Int} {cs : List ChanT} {hs : List (List Int)} (h4 : ∀ h ∈ hs, h.length ≤ 4) : ∀ k, (msgsL n cs hs k).length ≤ 5 * k
  | 0 => by simp [msgsL]
  | k + 1 => by
    have h := msgsL_len (n := n) (cs := cs) h4 k
    cases hz : (cs.zip hs)[k]? with
    | none =>
      unfold msgsL at h ⊢
      rw [List.take_add_one, hz, List.flatMap_append]
      simp only [Option.toList_none, List.flatMap_nil, List.append_nil]
      omega
    | some x =>
      obtain ⟨c, y⟩ := x
      have hy := (List.getElem?_zip_eq_some.1 hz)
      have h9 := h4 y (List.mem_of_getElem? hy.2)
      by_cases e : c.2.2.1 = n
      · rw [msgsL_to hy.1 hy.2 e]
        simp only [List.length_append, List.length_singleton]
        omega
      · rw [msgsL_not hy.1 hy.2 e]
        omega
/-- What core k of a machine shows, and the messages for it. -/
def headL (c : MacC) (n : Int) (k : List Int × Int × Bool) : List Int := k.1 ++ [k.2.1, bitI k.2.2, ownL c.1.2.2 n c.2.2.2.2]
def viewL (c : MacC) (n : Int) : List Int := match c.2.2.1[n.toNat]? with
  | some k => headL c n k ++ msgsL n c.1.2.1 c.2.2.2.1 c.1.2.1.length
  | none => []
def viewC (c : MacC) (n : Int) : List Int := if seenC c n then viewL c n else []
theorem viewL_eq {c : MacC} {n : Int} {k : List Int × Int × Bool} (h : c.2.2.1[n.toNat]? = some k) : viewL c n = headL c n k ++ msgsL n c.1.2.1 c.2.2.2.1 c.1.2.1.length := by unfold viewL; rw [h]
theorem mo_setup {c : MacC} (h : machOkC c = true) : setupOkC c.1 = true := by
  simp only [machOkC, Bool.and_eq_true] at h
  exact (po_out h.1).1
theorem mo_lens {c : MacC} (h : machOkC c = true) : c.2.1.length = c.1.1.length ∧ c.2.2.1.length = c.1.1.length ∧ c.2.2.2.1.length = c.1.2.1.length := by
  simp only [machOkC, Bool.and_eq_true, decide_eq_true_eq] at h
  have := (po_out h.1).2
  exact ⟨this, h.2.1.trans this, h.2.2.1⟩
theorem su_slots {c : SetC} (h : setupOkC c = true) : slotsOk c.2.2 c.1.length = true := by
  simp only [setupOkC, Bool.and_eq_true] at h
  exact h.2.2
theorem su_chans {c : SetC} (h : setupOkC c = true) : chansOk c.2.1 c.1.length = true := by
  simp only [setupOkC, Bool.and_eq_true] at h
  exact h.2.1
theorem su_parts {c : SetC} (h : setupOkC c = true) : partsOkC c.1 = true := by
  simp only [setupOkC, Bool.and_eq_true] at h
  exact h.1
theorem su_np {c : SetC} (h : setupOkC c = true) : c.1.length ≤ 5 := by
  have := su_parts h
  simp only [partsOkC, Bool.and_eq_true, decide_eq_true_eq] at this
  exact this.1
theorem su_nc {c : SetC} (h : setupOkC c = true) : c.2.1.length ≤ 8 := by
  have := su_chans h
  simp only [chansOk, Bool.and_eq_true, decide_eq_true_eq] at this
  omega
theorem mo_tick {c : MacC} (h : machOkC c = true) : 0 ≤ c.2.2.2.2 ∧ c.2.2.2.2 ≤ 100000 := by
  simp only [machOkC, Bool.and_eq_true] at h
  exact inB_true.1 h.2.2.2.2.2
theorem mo_hold4 {c : MacC} (h : machOkC c = true) : ∀ x ∈ c.2.2.2.1, x.length ≤ 4 := by
  simp only [machOkC, Bool.and_eq_true, List.all_eq_true, List.mem_range] at h
  intro x hx
  obtain ⟨k, hk, rfl⟩ := List.getElem_of_mem hx
  have h1 := h.2.2.2.2.1 k hk
  unfold holdAt at h1
  rw [List.getElem?_eq_getElem hk] at h1
  split at h1
  · rename_i y z e1 e2
    injection e1 with e1
    subst e1
    simp only [holdOk, sizedOk, Bool.and_eq_true, Bool.or_eq_true, beq_iff_eq, decide_eq_true_eq] at h1
    rcases h1.1 with h2 | h2
    · omega
    · have := inB_true.1 h2.2; omega
  · cases h1
theorem mo_core8 {c : MacC} (h : machOkC c = true) : ∀ x ∈ c.2.2.1, x.1.length ≤ 8 := by
  have hs := mo_setup h
  simp only [machOkC, Bool.and_eq_true, List.all_eq_true, List.mem_range] at h
  intro x hx
  obtain ⟨k, hk, rfl⟩ := List.getElem_of_mem hx
  have h1 := h.2.2.2.1 k hk
  unfold coreAt at h1
  rw [List.getElem?_eq_getElem hk] at h1
  split at h1
  · rename_i y z u e1 e2 e3
    injection e1 with e1
    subst e1
    have := setup_cells hs e3
    simp only [coreFits, Bool.and_eq_true, decide_eq_true_eq] at h1
    omega
  · cases h1
theorem view_bd {c : MacC} {n : Int} (h : machOkC c = true) (k : Nat) : (msgsL n c.1.2.1 c.2.2.2.1 k).length ≤ 5 * k := msgsL_len (mo_hold4 h) k
theorem seenC_out {c : MacC} {n : Int} (h : seenC c n = true) : machOkC c = true ∧ 0 ≤ n ∧ n < c.2.2.1.length := by
  simp only [seenC, Bool.and_eq_true] at h
  have := inB_true.1 h.2
  exact ⟨h.1, by omega, by omega⟩
theorem viewC_nil {c : MacC} {n : Int} : viewC c n = [] ↔ seenC c n = false := by
  unfold viewC
  cases h : seenC c n
  · simp
  · simp only [if_true]
    obtain ⟨-, h1, h2⟩ := seenC_out h
    obtain ⟨k, hk⟩ : ∃ k, c.2.2.1[n.toNat]? = some k := ⟨_, List.getElem?_eq_getElem (by omega)⟩
    rw [viewL_eq hk]
    simp [headL]
/-- No nil slice with room, among cells and messages. -/
def nlM (m : MacR) : Prop := (∀ x ∈ m.2.2.1.xs, x.1.A = none → x.1.c = 0) ∧ (∀ x ∈ m.2.2.2.1.xs, x.A = none → x.c = 0)
theorem liM.nl {w : World} {base : Nat} {m : MacR} (h : liM w base m) : nlM m := ⟨fun x hx => (h.2.2.1.2 x hx).2.nil, fun x hx => (h.2.2.2.2 x hx).2.nil⟩
/-- SameView: both seen, and the same. -/
def sameViewC (a b : MacC) (n : Int) : Bool := seenC a n && (seenC b n && decide (viewL a n = viewL b n))
theorem sameViewC_spec (a b : MacC) (n : Int) : sameViewC a b n = (!(viewC a n).isEmpty && decide (viewC a n = viewC b n)) := by
  unfold sameViewC
  cases ha : seenC a n
  · rw [viewC_nil.2 ha]; rfl
  · have h1 : (viewC a n).isEmpty = false := by
      cases h : (viewC a n).isEmpty
      · rfl
      · rw [List.isEmpty_iff, viewC_nil, ha] at h; cases h
    rw [h1]
    cases hb : seenC b n
    · have h2 : ¬ viewC a n = viewC b n := by
        rw [viewC_nil.2 hb, viewC_nil, ha]; simp
      rw [decide_eq_false h2]; rfl
    · simp only [viewC, ha, hb, if_true, Bool.true_and, Bool.not_false]
end Go.Proofs.YtckgdlgdipfgmaaGreat

namespace Go.Proofs.YtckgdlgdipfgmaaGreat
set_option linter.unusedVariables false
set_option linter.unusedSimpArgs false
open Go.RowKit

def winN (x : Win) : List Int := [x.base, x.size, bitI x.wr]
def winsN (l : List Win) : List Int := l.flatMap winN
def partN (p : List Win × Int) : List Int := [p.2, (p.1.length : Int)] ++ winsN p.1
def partsN (l : List (List Win × Int)) : List Int := l.flatMap partN
def chanN (c : ChanT) : List Int := [c.1, c.2.1, c.2.2.1, c.2.2.2]
def chansN (l : List ChanT) : List Int := l.flatMap chanN
def slotN (s : Int × Int) : List Int := [s.1 + 1, s.2]
def slotsN (l : List (Int × Int)) : List Int := l.flatMap slotN
def numsL (c : SetC) : List Int := (((([(c.1.length : Int)] ++ partsN c.1) ++ [(c.2.1.length : Int)]) ++ chansN c.2.1) ++ [(c.2.2.length : Int)]) ++ slotsN c.2.2
def numsC (c : SetC) : List Int := if setupOkC c then numsL c else []
theorem flat_step {α : Type} {f : α → List Int} {l : List α} {k : Nat} {x : α} (h : l[k]? = some x) : (l.take (k + 1)).flatMap f = (l.take k).flatMap f ++ f x := by
  rw [List.take_add_one, h, List.flatMap_append]; simp
theorem flat_len {α : Type} {f : α → List Int} {m : Nat} (hf : ∀ x, (f x).length = m) : ∀ l : List α, (l.flatMap f).length = m * l.length
  | [] => by simp
  | x :: l => by rw [List.flatMap_cons, List.length_append, hf, flat_len hf l, List.length_cons, Nat.mul_add, Nat.mul_one, Nat.add_comm]
theorem flat_le {α : Type} {f : α → List Int} {m : Nat} : ∀ l : List α, (∀ x ∈ l, (f x).length ≤ m) → (l.flatMap f).length ≤ m * l.length
  | [], _ => by simp
  | x :: l, hf => by
    have h1 := hf x List.mem_cons_self
    have h2 := flat_le l fun y hy => hf y (List.mem_cons_of_mem _ hy)
    rw [List.flatMap_cons, List.length_append, List.length_cons, Nat.mul_add, Nat.mul_one]
    omega
theorem winsN_len (l : List Win) : (winsN l).length = 3 * l.length := flat_len (f := winN) (m := 3) (fun _ => rfl) l
theorem partN_inj {p q : List Win × Int} {r s : List Int} (h : partN p ++ r = partN q ++ s) : partN p = partN q ∧ r = s := by
  have h1 : (p.1.length : Int) = (q.1.length : Int) := by
    simp only [partN, List.cons_append, List.nil_append, List.append_assoc] at h
    injection h with _ h
    injection h with h _
  refine List.append_inj h ?_
  simp only [partN, List.length_append, winsN_len]
  simp
  omega
theorem partsN_inj : ∀ (a b : List (List Win × Int)) (r s : List Int), a.length = b.length → partsN a ++ r = partsN b ++ s → partsN a = partsN b ∧ r = s
  | [], [], r, s, _, h => ⟨rfl, by simpa [partsN] using h⟩
  | [], _ :: _, _, _, h, _ => by cases h
  | _ :: _, [], _, _, h, _ => by cases h
  | p :: a, q :: b, r, s, hl, h => by
    simp only [partsN, List.flatMap_cons, List.append_assoc] at h ⊢
    have h1 := partN_inj h
    have h2 := partsN_inj a b r s (by simpa using hl) h1.2
    exact ⟨by rw [h1.1]; exact congrArg _ h2.1, h2.2⟩
theorem numsL_inj {a b : SetC} (h : numsL a = numsL b) : a.1.length = b.1.length ∧ a.2.1.length = b.2.1.length := by
  simp only [numsL, List.append_assoc, List.cons_append, List.nil_append] at h
  injection h with h1 h2
  have h1 : a.1.length = b.1.length := by omega
  have h3 := (partsN_inj _ _ _ _ h1 h2).2
  injection h3 with h4 _
  exact ⟨h1, by omega⟩
theorem winsOk12 {l : List Win} (h : winsOk l = true) : l.length ≤ 12 := by
  have := (winsOk_true.1 h).1
  omega
theorem partN_len {c : SetC} (h : setupOkC c = true) : ∀ p ∈ c.1, (partN p).length ≤ 38 := by
  intro p hp
  have := su_parts h
  simp only [partsOkC, Bool.and_eq_true, List.all_eq_true] at this
  have h1 := winsOk12 (this.2 p hp).1
  simp only [partN, List.length_append, winsN_len]
  simp
  omega
theorem partsN_len {c : SetC} (h : setupOkC c = true) (k : Nat) : (partsN (c.1.take k)).length ≤ 190 := by
  have h1 := flat_le (f := partN) (m := 38) (c.1.take k) fun p hp => partN_len h p (List.mem_of_mem_take hp)
  have h2 := su_np h
  have h3 : (c.1.take k).length ≤ 5 := by rw [List.length_take]; omega
  unfold partsN
  omega
theorem su_ns {c : SetC} (h : setupOkC c = true) : c.2.2.length ≤ 12 := by
  have := su_slots h
  have := (slots_bd this).1
  omega
theorem numsC_len (c : SetC) : (numsC c).length ≤ 1000 := by
  unfold numsC
  split
  · rename_i h
    have h1 := partsN_len h c.1.length
    rw [List.take_length] at h1
    have h2 := flat_len (f := chanN) (m := 4) (fun _ => rfl) c.2.1
    have h3 := flat_len (f := slotN) (m := 2) (fun _ => rfl) c.2.2
    have h4 := su_nc h
    have h5 := su_ns h
    simp only [numsL, List.length_append, List.length_singleton]
    unfold chansN slotsN
    omega
  · simp
end Go.Proofs.YtckgdlgdipfgmaaGreat

namespace Go.Proofs.YtckgdlgdipfgmaaGreat
set_option linter.unusedVariables false
set_option linter.unusedSimpArgs false
open Go.RowKit Go.Shelf

def dirP (f t : Int) (x : Int × Int × Int × Int) : Bool := (x.2.1 == f && x.2.2.1 == t) || (x.1 == 3 && x.2.1 == t && x.2.2.1 == f)
def directB (xs : List (Int × Int × Int × Int)) (f t : Int) : Bool := f == t || xs.any (dirP f t)
def flowD (xs : List (Int × Int × Int × Int)) (parts f t : Int) : Bool := chansOk xs parts && (inB f 0 (parts - 1) && (inB t 0 (parts - 1) && directB xs f t))
set_option maxHeartbeats 1000000 in
theorem dirP_any (x : Int × Int × Int × Int) (f t : Int) (q q' : Nat) (w : World) (h1 : w.cell? ⟨q, 0, none⟩ = some (.int .i64 f)) (h2 : w.cell? ⟨q', 0, none⟩ = some (.int .i64 t)) (hq : q < w.heap.size) (hq' : q' < w.heap.size) :
    Calls Tryz.prog 117 #[.agg (eC x).toArray, .pointer (some ⟨q, 0, none⟩), .pointer (some ⟨q', 0, none⟩)] w fun e w' => .returned (.bool (dirP f t x)) = e ∧ Below w.heap.size w w' := by
  obtain ⟨k, a, b, d⟩ := x
  unfold dirP
  simp only [eC]
  have hb0 := alo (Below.refl w.heap.size w) (.cells #[.int .i64 k, .int .i64 a, .int .i64 b, .int .i64 d] 78)
  have g1 : (w.alloc (.cells #[.int .i64 k, .int .i64 a, .int .i64 b, .int .i64 d] 78)).cell? ⟨q, 0, none⟩ = some (.int .i64 f) := (World.cell?_alloc_lt w _ ⟨q, 0, none⟩ hq).trans h1
  have g2 : (w.alloc (.cells #[.int .i64 k, .int .i64 a, .int .i64 b, .int .i64 d] 78)).cell? ⟨q', 0, none⟩ = some (.int .i64 t) := (World.cell?_alloc_lt w _ ⟨q', 0, none⟩ hq').trans h2
  clear h1 h2
  skip
  have B1 := Blk.new w 78 #[.int .i64 k, .int .i64 a, .int .i64 b, .int .i64 d]
  cases e1 : (a == f)
  · have e2 : True := trivial
    cases e3 : (k == (3 : Int))
    · have e4 : True := trivial
      have e5 : True := trivial
      go_enter Tryz.func117, Tryz.ntmps117
      have cB1_0 := B1.c0; have cB1_1 := B1.c1; have cB1_2 := B1.c2; have cB1_3 := B1.c3; have fB1 := B1.frozen
      go_wp2
      go_ret
      exact ⟨by simp [e1, e2, e3, e4, e5], hb0⟩
    · cases e4 : (a == t)
      · have e5 : True := trivial
        go_enter Tryz.func117, Tryz.ntmps117
        have cB1_0 := B1.c0; have cB1_1 := B1.c1; have cB1_2 := B1.c2; have cB1_3 := B1.c3; have fB1 := B1.frozen
        go_wp2
        go_ret
        exact ⟨by simp [e1, e2, e3, e4, e5], hb0⟩
      · cases e5 : (b == f)
        · go_enter Tryz.func117, Tryz.ntmps117
          have cB1_0 := B1.c0; have cB1_1 := B1.c1; have cB1_2 := B1.c2; have cB1_3 := B1.c3; have fB1 := B1.frozen
          go_wp2
          go_ret
          exact ⟨by simp [e1, e2, e3, e4, e5], hb0⟩
        · go_enter Tryz.func117, Tryz.ntmps117
          have cB1_0 := B1.c0; have cB1_1 := B1.c1; have cB1_2 := B1.c2; have cB1_3 := B1.c3; have fB1 := B1.frozen
          go_wp2
          go_ret
          exact ⟨by simp [e1, e2, e3, e4, e5], hb0⟩
  · cases e2 : (b == t)
    · cases e3 : (k == (3 : Int))
      · have e4 : True := trivial
        have e5 : True := trivial
        go_enter Tryz.func117, Tryz.ntmps117
        have cB1_0 := B1.c0; have cB1_1 := B1.c1; have cB1_2 := B1.c2; have cB1_3 := B1.c3; have fB1 := B1.frozen
        go_wp2
        go_ret
        exact ⟨by simp [e1, e2, e3, e4, e5], hb0⟩
      · cases e4 : (a == t)
        · have e5 : True := trivial
          go_enter Tryz.func117, Tryz.ntmps117
          have cB1_0 := B1.c0; have cB1_1 := B1.c1; have cB1_2 := B1.c2; have cB1_3 := B1.c3; have fB1 := B1.frozen
          go_wp2
          go_ret
          exact ⟨by simp [e1, e2, e3, e4, e5], hb0⟩
        · cases e5 : (b == f)
          · go_enter Tryz.func117, Tryz.ntmps117
            have cB1_0 := B1.c0; have cB1_1 := B1.c1; have cB1_2 := B1.c2; have cB1_3 := B1.c3; have fB1 := B1.frozen
            go_wp2
            go_ret
            exact ⟨by simp [e1, e2, e3, e4, e5], hb0⟩
          · go_enter Tryz.func117, Tryz.ntmps117
            have cB1_0 := B1.c0; have cB1_1 := B1.c1; have cB1_2 := B1.c2; have cB1_3 := B1.c3; have fB1 := B1.frozen
            go_wp2
            go_ret
            exact ⟨by simp [e1, e2, e3, e4, e5], hb0⟩
    · have e3 : True := trivial
      have e4 : True := trivial
      have e5 : True := trivial
      go_enter Tryz.func117, Tryz.ntmps117
      have cB1_0 := B1.c0; have cB1_1 := B1.c1; have cB1_2 := B1.c2; have cB1_3 := B1.c3; have fB1 := B1.frozen
      go_wp2
      go_ret
      exact ⟨by simp [e1, e2, e3, e4, e5], hb0⟩
theorem enters_dir (args : Array Value) (w : World) : (callFunc 117 args).run Tryz.prog w = .ok (.enter 117 args) w := enters_of Tryz.func117 (by kernel_rfl) rfl args w
theorem direct_any (A : Option Addr) (n c : Nat) (xs : List (Int × Int × Int × Int)) (f t : Int) (w : World) (hs : Sl w 4 eC A n c xs) :
    Calls Tryz.prog 83 #[.slice A n c, .int .i64 f, .int .i64 t] w fun e w' => .returned (.bool (directB xs f t)) = e ∧ Below w.heap.size w w' := by
  unfold directB
  have hb0 := alo (alo (Below.refl w.heap.size w) (.cells #[.int .i64 f] 3)) (.cells #[.int .i64 t] 3)
  cases e1 : (f == t)
  · have hidx : Calls Tryz.prog 116 #[.slice A n c, .func (.func 117) #[] #[.pointer (some ⟨w.heap.size, 0, none⟩), .pointer (some ⟨w.heap.size + 1, 0, none⟩)]] ((w.alloc (.cells #[.int .i64 f] 3)).alloc (.cells #[.int .i64 t] 3)) fun e w' => .returned (.bool (xs.any fun x => dirP f t x)) = e ∧ Below ((w.alloc (.cells #[.int .i64 f] 3)).alloc (.cells #[.int .i64 t] 3)).heap.size ((w.alloc (.cells #[.int .i64 f] 3)).alloc (.cells #[.int .i64 t] 3)) w' := by
      refine containsChan (fun x => dirP f t x) _ _ enters_dir A n c xs _ (fun _ => True) (fun _ _ => trivial) ?_ (hs.below hb0)
      intro V x _ hV
      have hz := hV.size
      simp at hz
      refine dirP_any x f t w.heap.size (w.heap.size + 1) V ?_ ?_ (by omega) (by omega)
      · rw [hV.cell (p := ⟨w.heap.size, 0, none⟩) (by simp; omega)]; exact ((Blk.new w 3 #[.int .i64 f]).alloc _).c0
      · rw [hV.cell (p := ⟨w.heap.size + 1, 0, none⟩) (by simp)]; exact (Blk.new2 w (.cells #[.int .i64 f] 3) 3 #[.int .i64 t]).c0
    have heta : (xs.any fun x => dirP f t x) = xs.any (dirP f t) := rfl
    rw [heta] at hidx
    clear heta
    generalize xs.any (dirP f t) = v at hidx ⊢
    clear hs
    have hmf : ∀ (fn : Fn) (first cap : Array Value) (w : World), (Instr.makeFunc fn first cap).run Tryz.prog w = .ok (.func fn first cap) w := fun _ _ _ _ => rfl
    have B4 := (Blk.new w 3 #[.int .i64 f]).alloc (.cells #[.int .i64 t] 3)
    have B5 := Blk.new2 w (.cells #[.int .i64 f] 3) 3 #[.int .i64 t]
    skip
    skip
    have cB4_0 := B4.c0; have fB4 := B4.frozen; have cB5_0 := B5.c0; have fB5 := B5.frozen
    go_enter Tryz.func83, Tryz.ntmps83
    go_wp2_with fail
    refine hidx.mono ?_
    rintro e w2 ⟨rfl, hb2⟩
    go_wp2
    go_ret
    exact ⟨rfl, thn hb0 hb2⟩
  · have B4 := (Blk.new w 3 #[.int .i64 f]).alloc (.cells #[.int .i64 t] 3)
    have B5 := Blk.new2 w (.cells #[.int .i64 f] 3) 3 #[.int .i64 t]
    skip
    have cB4_0 := B4.c0; have fB4 := B4.frozen; have cB5_0 := B5.c0; have fB5 := B5.frozen
    clear hs
    go_enter Tryz.func83, Tryz.ntmps83
    go_wp2
    go_ret
    exact ⟨rfl, hb0⟩
theorem any_take {α : Type} {p : α → Bool} {xs : List α} {kk : Nat} {y : α} (h : xs[kk]? = some y) : (xs.take (kk + 1)).any p = ((xs.take kk).any p || p y) := by
  rw [List.take_add_one, h]
  simp
set_option maxHeartbeats 4000000 in
theorem specFlowDirect_any (A : Option Addr) (n c : Nat) (xs : List (Int × Int × Int × Int)) (parts f t : Int) (hp : -1000 ≤ parts ∧ parts ≤ 1000) (w : World) (hs : Sl w 4 eC A n c xs) :
    Calls Tryz.prog 72 #[.slice A n c, .int .i64 parts, .int .i64 f, .int .i64 t] w fun e w' => .returned (.bool (flowD xs parts f t)) = e ∧ Below w.heap.size w w' := by
  have hle := hs.le
  have hmax := hs.max
  have hl := hs.len
  have HF := Lib.hid (show flowD xs parts f t = (chansOk xs parts && (inB f 0 (parts - 1) && (inB t 0 (parts - 1) && directB xs f t))) from rfl)
  have h1 := specChannelsValid_any A n c xs parts hp w hs
  obtain ⟨hp0, hp1⟩ := hp
  have h2 := fun W => l1In_any f 0 (parts - 1) W
  have h3 := fun W => l1In_any t 0 (parts - 1) W
  generalize flowD xs parts f t = o at *
  generalize chansOk xs parts = v1 at *
  generalize inB f 0 (parts - 1) = v2 at *
  generalize inB t 0 (parts - 1) = v3 at *
  cases v1
  · have HQ := Lib.hid (show false = o from HF.out.symm)
    clear hs HF
    go_enter Tryz.func72, Tryz.ntmps72
    go_wp2_with fail
    refine h1.mono ?_; rintro e w1 ⟨rfl, hb1⟩
    go_wp2
    go_ret
    exact ⟨congrArg (fun o => Ending.returned (.bool o)) HQ.out.symm, hb1⟩
  · cases v2
    · have HQ := Lib.hid (show false = o from HF.out.symm)
      clear hs HF
      go_enter Tryz.func72, Tryz.ntmps72
      go_wp2_with fail
      refine h1.mono ?_; rintro e w1 ⟨rfl, hb1⟩
      go_wp2_with fail; refine (h2 _).mono ?_; rintro e w' ⟨rfl, rfl⟩
      go_wp2
      go_ret
      exact ⟨congrArg (fun o => Ending.returned (.bool o)) HQ.out.symm, hb1⟩
    · cases v3
      · have HQ := Lib.hid (show false = o from HF.out.symm)
        clear hs HF
        go_enter Tryz.func72, Tryz.ntmps72
        go_wp2_with fail
        refine h1.mono ?_; rintro e w1 ⟨rfl, hb1⟩
        go_wp2_with fail; refine (h2 _).mono ?_; rintro e w' ⟨rfl, rfl⟩
        go_wp2_with fail; refine (h3 _).mono ?_; rintro e w' ⟨rfl, rfl⟩
        go_wp2
        go_ret
        exact ⟨congrArg (fun o => Ending.returned (.bool o)) HQ.out.symm, hb1⟩
      · have HQ := Lib.hid (show directB xs f t = o from HF.out.symm)
        clear HF
        go_enter Tryz.func72, Tryz.ntmps72
        go_wp2_with fail
        refine h1.mono ?_; rintro e w1 ⟨rfl, hb1⟩
        go_wp2_with fail; refine (h2 _).mono ?_; rintro e w' ⟨rfl, rfl⟩
        go_wp2_with fail; refine (h3 _).mono ?_; rintro e w' ⟨rfl, rfl⟩
        clear h1 h2 h3
        obtain ⟨b0, hb0⟩ : ∃ b0, (f == t) = b0 := ⟨_, rfl⟩
        go_wp2
        go_loopg [9, 10] n (fun gg s9 s10 wr => ∃ (kk : Nat) (fd : Bool), kk ≤ n ∧ n - kk ≤ gg ∧ s9 = .bool fd ∧ s10 = .int .i64 kk ∧ Aside (Below w.heap.size w wr) ∧ Aside (fd = (b0 || (xs.take kk).any (dirP f t))))
        case atStart => exact ⟨0, b0, Nat.zero_le _, by omega, rfl, rfl, (show Aside _ from hb1), (show Aside _ from (show b0 = (b0 || (xs.take 0).any (dirP f t)) by simp))⟩
        case round =>
          have HB0 := Lib.hid hb0
          clear hb0 hb1
          obtain ⟨kk, fd, hkk, hg, rfl, rfl, BW, FE⟩ := hrel
          by_cases hlt : kk < n
          · have hltz : (kk : Int) < (n : Int) := by omega
            obtain ⟨g, o', rfl, y, hyk, hc⟩ := hs.nth hlt BW.out
            have HT := Lib.hid (any_take (p := dirP f t) hyk)
            obtain ⟨k, a, b, d⟩ := y
            have hc0 := hc 0 _ rfl
            have hc1 := hc 1 _ rfl
            have hc2 := hc 2 _ rfl
            have hc3 := hc 3 _ rfl
            simp only [eC, Nat.add_zero] at hc0 hc1 hc2 hc3
            have hB2 := alo BW.out (.cells #[.int .i64 k, .int .i64 a, .int .i64 b, .int .i64 d] 78)
            have B1 := Blk.new wr 78 #[.int .i64 k, .int .i64 a, .int .i64 b, .int .i64 d]
            clear hc hyk
            cases fd
            · cases e1 : (a == f)
              · have e2 : True := trivial
                cases e3 : (k == (3 : Int))
                · have e4 : True := trivial
                  have e5 : True := trivial
                  skip
                  skip
                  have cB1_0 := B1.c0; have cB1_1 := B1.c1; have cB1_2 := B1.c2; have cB1_3 := B1.c3; have fB1 := B1.frozen
                  go_wp2
                  go_roundg (n - (kk + 1))
                  case measure => omega
                  case rel => exact ⟨kk + 1, false, by omega, by omega, rfl, by go_num, (show Aside _ from hB2), (show Aside _ from (show (false : Bool) = (b0 || (xs.take (kk + 1)).any (dirP f t)) by rw [HT.out, ← Bool.or_assoc, ← FE.out]; simp [dirP, e1, e2, e3, e4, e5]))⟩
                · cases e4 : (a == t)
                  · have e5 : True := trivial
                    skip
                    skip
                    have cB1_0 := B1.c0; have cB1_1 := B1.c1; have cB1_2 := B1.c2; have cB1_3 := B1.c3; have fB1 := B1.frozen
                    go_wp2
                    go_roundg (n - (kk + 1))
                    case measure => omega
                    case rel => exact ⟨kk + 1, false, by omega, by omega, rfl, by go_num, (show Aside _ from hB2), (show Aside _ from (show (false : Bool) = (b0 || (xs.take (kk + 1)).any (dirP f t)) by rw [HT.out, ← Bool.or_assoc, ← FE.out]; simp [dirP, e1, e2, e3, e4, e5]))⟩
                  · cases e5 : (b == f)
                    · skip
                      skip
                      have cB1_0 := B1.c0; have cB1_1 := B1.c1; have cB1_2 := B1.c2; have cB1_3 := B1.c3; have fB1 := B1.frozen
                      go_wp2
                      go_roundg (n - (kk + 1))
                      case measure => omega
                      case rel => exact ⟨kk + 1, false, by omega, by omega, rfl, by go_num, (show Aside _ from hB2), (show Aside _ from (show (false : Bool) = (b0 || (xs.take (kk + 1)).any (dirP f t)) by rw [HT.out, ← Bool.or_assoc, ← FE.out]; simp [dirP, e1, e2, e3, e4, e5]))⟩
                    · skip
                      skip
                      have cB1_0 := B1.c0; have cB1_1 := B1.c1; have cB1_2 := B1.c2; have cB1_3 := B1.c3; have fB1 := B1.frozen
                      go_wp2
                      go_roundg (n - (kk + 1))
                      case measure => omega
                      case rel => exact ⟨kk + 1, true, by omega, by omega, rfl, by go_num, (show Aside _ from hB2), (show Aside _ from (show (true : Bool) = (b0 || (xs.take (kk + 1)).any (dirP f t)) by rw [HT.out, ← Bool.or_assoc, ← FE.out]; simp [dirP, e1, e2, e3, e4, e5]))⟩
              · cases e2 : (b == t)
                · cases e3 : (k == (3 : Int))
                  · have e4 : True := trivial
                    have e5 : True := trivial
                    skip
                    skip
                    have cB1_0 := B1.c0; have cB1_1 := B1.c1; have cB1_2 := B1.c2; have cB1_3 := B1.c3; have fB1 := B1.frozen
                    go_wp2
                    go_roundg (n - (kk + 1))
                    case measure => omega
                    case rel => exact ⟨kk + 1, false, by omega, by omega, rfl, by go_num, (show Aside _ from hB2), (show Aside _ from (show (false : Bool) = (b0 || (xs.take (kk + 1)).any (dirP f t)) by rw [HT.out, ← Bool.or_assoc, ← FE.out]; simp [dirP, e1, e2, e3, e4, e5]))⟩
                  · cases e4 : (a == t)
                    · have e5 : True := trivial
                      skip
                      skip
                      have cB1_0 := B1.c0; have cB1_1 := B1.c1; have cB1_2 := B1.c2; have cB1_3 := B1.c3; have fB1 := B1.frozen
                      go_wp2
                      go_roundg (n - (kk + 1))
                      case measure => omega
                      case rel => exact ⟨kk + 1, false, by omega, by omega, rfl, by go_num, (show Aside _ from hB2), (show Aside _ from (show (false : Bool) = (b0 || (xs.take (kk + 1)).any (dirP f t)) by rw [HT.out, ← Bool.or_assoc, ← FE.out]; simp [dirP, e1, e2, e3, e4, e5]))⟩
                    · cases e5 : (b == f)
                      · skip
                        skip
                        have cB1_0 := B1.c0; have cB1_1 := B1.c1; have cB1_2 := B1.c2; have cB1_3 := B1.c3; have fB1 := B1.frozen
                        go_wp2
                        go_roundg (n - (kk + 1))
                        case measure => omega
                        case rel => exact ⟨kk + 1, false, by omega, by omega, rfl, by go_num, (show Aside _ from hB2), (show Aside _ from (show (false : Bool) = (b0 || (xs.take (kk + 1)).any (dirP f t)) by rw [HT.out, ← Bool.or_assoc, ← FE.out]; simp [dirP, e1, e2, e3, e4, e5]))⟩
                      · skip
                        skip
                        have cB1_0 := B1.c0; have cB1_1 := B1.c1; have cB1_2 := B1.c2; have cB1_3 := B1.c3; have fB1 := B1.frozen
                        go_wp2
                        go_roundg (n - (kk + 1))
                        case measure => omega
                        case rel => exact ⟨kk + 1, true, by omega, by omega, rfl, by go_num, (show Aside _ from hB2), (show Aside _ from (show (true : Bool) = (b0 || (xs.take (kk + 1)).any (dirP f t)) by rw [HT.out, ← Bool.or_assoc, ← FE.out]; simp [dirP, e1, e2, e3, e4, e5]))⟩
                · have e3 : True := trivial
                  have e4 : True := trivial
                  have e5 : True := trivial
                  skip
                  skip
                  have cB1_0 := B1.c0; have cB1_1 := B1.c1; have cB1_2 := B1.c2; have cB1_3 := B1.c3; have fB1 := B1.frozen
                  go_wp2
                  go_roundg (n - (kk + 1))
                  case measure => omega
                  case rel => exact ⟨kk + 1, true, by omega, by omega, rfl, by go_num, (show Aside _ from hB2), (show Aside _ from (show (true : Bool) = (b0 || (xs.take (kk + 1)).any (dirP f t)) by rw [HT.out, ← Bool.or_assoc, ← FE.out]; simp [dirP, e1, e2, e3, e4, e5]))⟩
            · have e1 : True := trivial
              have e2 : True := trivial
              have e3 : True := trivial
              have e4 : True := trivial
              have e5 : True := trivial
              skip
              skip
              have cB1_0 := B1.c0; have cB1_1 := B1.c1; have cB1_2 := B1.c2; have cB1_3 := B1.c3; have fB1 := B1.frozen
              go_wp2
              go_roundg (n - (kk + 1))
              case measure => omega
              case rel => exact ⟨kk + 1, true, by omega, by omega, rfl, by go_num, (show Aside _ from hB2), (show Aside _ from (show (true : Bool) = (b0 || (xs.take (kk + 1)).any (dirP f t)) by rw [HT.out, ← Bool.or_assoc, ← FE.out]; simp [dirP, e1, e2, e3, e4, e5]))⟩
          · have hltz : ¬ (kk : Int) < (n : Int) := by omega
            obtain rfl : n = kk := by omega
            have HR := Lib.hid (show fd = o by rw [FE.out, List.take_of_length_le (by omega), ← HQ.out, ← HB0.out]; rfl)
            clear FE
            go_wp2
            go_ret
            exact ⟨congrArg (fun o => Ending.returned (.bool o)) HR.out.symm, BW.out⟩
end Go.Proofs.YtckgdlgdipfgmaaGreat
