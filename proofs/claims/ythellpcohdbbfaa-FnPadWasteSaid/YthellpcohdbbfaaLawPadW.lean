/- The walk of FnPadWaste. -/
import Derived.Test.YthellpcohdbbfaaDPadR
import Derived.Test.YthellpcohdbbfaaPadW
import Derived.Test.YthellpcohdbbfaaAlive
namespace Go.Proofs.Ythellpcohdbbfaa
set_option linter.unusedVariables false
set_option linter.unusedSimpArgs false
open Go.RowKit

theorem drawPadWaste_any (A : Option Addr) (n c : Nat) (zs : List Int) (w : World) (h : Code w A n c zs) :
    Calls Try.prog 35 #[.slice A n c] w (Post prV fun x w' => SV.ok w' w.heap.size 1 eI x.1 ∧ SV.ok w' w.heap.size 1 eI x.2 ∧ x.1.n ≤ 13 ∧ x.2.n ≤ 14 ∧ (∀ y ∈ x.1.xs, JobB y) ∧ Below w.heap.size w w') := by
  have hd := drawPadRuns_any A n c zs w h
  clear h
  go_enter Try.func35, Try.ntmps35
  go_wp2_with fail
  refine hd.mono ?_
  rintro e w1 ⟨⟨⟨A1, n1, c1, xs⟩, ⟨A2, n2, c2, ys⟩⟩, rfl, h1, h2, h3, h4, h5, h6⟩
  simp only [prV, SV.v]
  go_wp2
  go_ret2
  exact ⟨(⟨A1, n1, c1, xs⟩, ⟨A2, n2, c2, ys⟩), rfl, h1, h2, h3, h4, h5, h6⟩
theorem min_bd {xs ys : List Int} (hx : ∀ x ∈ xs, 0 ≤ x) : ∀ (zs : List Int), zs = List.zipWith min xs ys → (zs.sum ≤ xs.sum) := by
  intro zs hz
  subst hz
  induction xs generalizing ys with
  | nil => simp
  | cons a l ih =>
    cases ys with
    | nil =>
      have h0 : ∀ m : List Int, (∀ x ∈ m, 0 ≤ x) → 0 ≤ m.sum := fun m hm => by
        induction m with
        | nil => simp
        | cons b t iht =>
          have := iht fun x hx => hm x (List.mem_cons_of_mem _ hx)
          have := hm b (List.mem_cons_self ..)
          simp only [List.sum_cons]; omega
      have := h0 _ hx
      simpa using this
    | cons b t =>
      have := ih (ys := t) fun x h => hx x (List.mem_cons_of_mem _ h)
      simp only [List.zipWith_cons_cons, List.sum_cons]
      omega
theorem waste_nonneg {xs ys : List Int} : 0 ≤ waste xs ys ∧ waste xs ys ≤ 12000 := by
  unfold waste
  split
  · rename_i h
    obtain ⟨h1, h2, h3⟩ := needOk_bd h
    obtain ⟨hn, hb⟩ := padOk_bd h1
    have b1 := min_bd (ys := ys) (fun x hx => by have := hb x hx; omega) _ rfl
    have b2 := sum_bd (xs := xs) (fun x hx => by have := hb x hx; omega)
    have b3 := sum_bd (zip_bd hb h3)
    omega
  · omega
theorem zip_self (xs : List Int) : List.zipWith min xs xs = xs := by
  induction xs with
  | nil => rfl
  | cons a l ih => simp [ih]
theorem waste_self (xs : List Int) : waste xs xs = 0 := by
  unfold waste
  split
  · rw [zip_self]; omega
  · rfl
theorem zip_zero (xs : List Int) (h : ∀ x ∈ xs, 1 ≤ x ∧ x ≤ 20) : (List.zipWith min xs (List.replicate xs.length 0)).sum = 0 := by
  induction xs with
  | nil => rfl
  | cons a l ih =>
    have := h a (List.mem_cons_self ..)
    have := ih fun x hx => h x (List.mem_cons_of_mem _ hx)
    simp only [List.length_cons, List.replicate_succ, List.zipWith_cons_cons, List.sum_cons]
    omega
theorem waste_zero {xs : List Int} (h : padOk xs = true) : waste xs (List.replicate xs.length 0) = xs.sum := by
  have hn : needOk xs (List.replicate xs.length 0) = true := by
    unfold needOk
    rw [h, decide_eq_true (by simp), Bool.true_and, Bool.true_and, List.all_eq_true]
    intro y hy
    rw [List.eq_of_mem_replicate hy]
    rfl
  unfold waste
  rw [hn, if_pos rfl, zip_zero xs (padOk_bd h).2]
  omega
set_option maxRecDepth 100000 in
set_option maxHeartbeats 1000000 in
theorem lawPadWaste (A : Option Addr) (n c : Nat) (zs : List Int) (w : World) (h : Code w A n c zs) :
    Calls Try.prog 10 #[.slice A n c] w fun e w' => .returned (.bool true) = e ∧ Below w.heap.size w w' := by
  have hle := h.le
  have hmax := h.max
  by_cases hn : n ≤ 1048576
  · have hdraw := drawPadWaste_any A n c zs w h
    clear h
    go_enter Try.func10, Try.ntmps10
    go_wp2_with fail
    refine hdraw.mono ?_
    rintro e w1 ⟨⟨⟨A1, n1, c1, xs⟩, ⟨A2, n2, c2, ys⟩⟩, rfl, ⟨hsl1, _, _, _⟩, ⟨hsl2, _, _, _⟩, hn1, hn2, hjob, hb⟩
    clear hdraw
    simp only [prV, SV.v] at hsl1 hsl2 hn1 hn2 hjob ⊢
    have hle1 := hsl1.le
    have hmax1 := hsl1.max
    have hle2 := hsl2.le
    have hmax2 := hsl2.max
    have hl1 := hsl1.len
    have HJ := Lib.hid hjob
    have HL := Lib.hid hl1
    have hI := padWaste_any A1 A2 n1 n2 c1 c2 xs ys w1 hsl1 hsl2
    have hS := fun W hW => specPadWaste_any A1 A2 n1 n2 c1 c2 xs ys W (hsl1.below hW) (hsl2.below hW)
    have hT := fun W hW => padWaste_any A1 A1 n1 n1 c1 c1 xs xs W (hsl1.below hW) (hsl1.below hW)
    rw [waste_self] at hT
    have hP := fun W hW => padStarts_any A1 n1 c1 xs W (hsl1.below hW)
    have hwb := @waste_nonneg xs ys
    generalize waste xs ys = v at *
    obtain ⟨hv0, hv1⟩ := hwb
    clear hl1 hjob
    go_wp2_with fail
    refine hI.mono ?_
    rintro e w2 ⟨rfl, hb2⟩
    go_wp2_with fail
    refine (hS _ hb2).mono ?_
    rintro e w3 ⟨rfl, hb3⟩
    have hB3 := thn hb2 hb3
    clear hI hS hb2 hb3
    go_wp2
    go_loopg [6, 7] n1 (fun gg s6 s7 wr => ∃ (kk : Nat) (s : Int), kk ≤ n1 ∧ n1 - kk ≤ gg ∧ s6 = .int .i64 s ∧ s7 = .int .i64 kk ∧ 0 ≤ s ∧ s ≤ 1000 * (kk : Int) ∧ Aside (Below w1.heap.size w1 wr) ∧ Aside (s = (xs.take kk).sum))
    case atStart => exact ⟨0, 0, Nat.zero_le _, by omega, rfl, rfl, by omega, by omega, (show Aside _ from hB3), (show Aside _ from rfl)⟩
    case round =>
      clear hB3
      obtain ⟨kk, s, hkk, hg, rfl, rfl, hs0, hs1, BW, SE⟩ := hrel
      by_cases hlt : kk < n1
      · have hltz : (kk : Int) < (n1 : Int) := by omega
        obtain ⟨b1, o1, rfl, x, hxk, hc⟩ := hsl1.nth hlt BW.out
        have hc0 := hc 0 _ rfl
        simp only [eI, Nat.add_zero, Nat.mul_one] at hc0
        have hxb := HJ.out x (List.mem_of_getElem? hxk)
        unfold JobB at hxb
        obtain ⟨hx0, hx1⟩ := hxb
        have HT := Lib.hid (sum_take hxk)
        clear hc hxk hT hP
        go_wp2
        go_roundg (n1 - (kk + 1))
        case measure => omega
        case rel => exact ⟨kk + 1, s + x, by omega, by omega, rfl, by go_num, by omega, by omega, (show Aside _ from BW.out), (show Aside _ from (show s + x = (xs.take (kk + 1)).sum by rw [HT.out, ← SE.out]))⟩
      · have hltz : ¬ (kk : Int) < (n1 : Int) := by omega
        obtain rfl : n1 = kk := by omega
        have HS := Lib.hid (show s = xs.sum by rw [SE.out, List.take_of_length_le (by have := HL.out; omega)])
        clear SE
        go_wp2_with fail
        refine (hT _ BW.out).mono ?_
        rintro e w4 ⟨rfl, hb4⟩
        have hB4 := thn BW.out hb4
        clear hT hb4
        go_wp2_with fail
        refine (hP _ hB4).mono ?_
        rintro e w5 ⟨⟨A5, n5, c5, l5⟩, rfl, ⟨hsl5, _, _, _⟩, hl5, hb5⟩
        simp only [SV.v] at hsl5 hl5 ⊢
        subst hl5
        have hle5 := hsl5.le
        have hmax5 := hsl5.max
        have hB5 := thn hB4 hb5
        have hl5 := Lib.hid hsl5.len
        clear hP hb5 hsl5
        by_cases h5 : n5 = n1
        · subst h5
          have hok : padOk xs = true := (padStarts_iff xs).1 (by rw [hl5.out, HL.out])
          have hwz := waste_zero hok
          rw [HL.out] at hwz
          have hZ := fun W hW (A' : Option Addr) c' h => padWaste_any A1 A' n5 n5 c1 c' xs (List.replicate n5 0) W (hsl1.below hW) h
          rw [hwz, ← HS.out] at hZ
          clear hwz hok
          go_wp2_with (at_make; refine make_own rfl _ _ zeroInt rfl encI w5.heap.size _ _ n5 rfl rfl (by omega) (by omega) (by omega) (Nat.le_refl _) ?_; intro w6 own6 hg6; have hB6 := thn hB5 (below_of_grown hg6); have hs6 := own6.slI encI; clear hg6 own6)
          refine (hZ _ hB6 _ _ hs6).mono ?_
          rintro e w7 ⟨rfl, hb7⟩
          have hB7 := thn hB6 hb7
          skip
          go_wp2_with fail; refine (alive_any _).mono ?_; rintro e w9 ⟨rfl, hbw9⟩
          go_wp2
          go_ret
          exact ⟨rfl, thn hb (thn hB7 hbw9)⟩
        · have h5z : ((n5 : Int) != (n1 : Int)) = true := by simp; omega
          have h5n : (n5 == n1) = false := by simpa using h5
          skip
          go_wp2_with fail; refine (alive_any _).mono ?_; rintro e w9 ⟨rfl, hbw9⟩
          go_wp2
          go_ret
          exact ⟨rfl, thn hb (thn hB5 hbw9)⟩
  · clear h
    go_enter Try.func10, Try.ntmps10
    go_wp2
    go_ret
    exact ⟨rfl, Below.refl _ _⟩
end Go.Proofs.Ythellpcohdbbfaa
