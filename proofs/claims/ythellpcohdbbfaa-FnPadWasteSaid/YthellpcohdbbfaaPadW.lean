/- PadWaste of impl and spec. -/
import Derived.Test.YthellpcohdbbfaaPadR
namespace Go.Proofs.Ythellpcohdbbfaa
set_option linter.unusedVariables false
set_option linter.unusedSimpArgs false
open Go.RowKit Go.Shelf

def waste (xs ys : List Int) : Int := if needOk xs ys then xs.sum - (List.zipWith min xs ys).sum else 0
theorem zip_bd {xs ys : List Int} (hx : ∀ x ∈ xs, 1 ≤ x ∧ x ≤ 20) (hy : ∀ y ∈ ys, 0 ≤ y) : ∀ z ∈ List.zipWith min xs ys, 0 ≤ z ∧ z ≤ 1000 := by
  intro z hz
  obtain ⟨k, hk, rfl⟩ := List.getElem_of_mem hz
  rw [List.length_zipWith] at hk
  rw [List.getElem_zipWith]
  have h1 := hx xs[k] (List.getElem_mem (by omega))
  have h2 := hy ys[k] (List.getElem_mem (by omega))
  omega
set_option maxHeartbeats 1000000 in
theorem padWaste_any (A A' : Option Addr) (n n' c c' : Nat) (xs ys : List Int) (w : World) (hs : Sl w 1 eI A n c xs) (hs' : Sl w 1 eI A' n' c' ys) :
    Calls Try.prog 36 #[.slice A n c, .slice A' n' c'] w fun e w' => .returned (.int .i64 (waste xs ys)) = e ∧ Below w.heap.size w w' := by
  have h1 := needed_any A A' n n' c c' xs ys w hs hs'
  unfold waste
  cases hv : needOk xs ys
  · rw [hv] at h1
    clear hv hs hs'
    go_enter Try.func36, Try.ntmps36
    go_wp2_with fail
    refine h1.mono ?_; rintro e w1 ⟨rfl, hb1⟩
    go_wp2
    go_ret
    exact ⟨rfl, hb1⟩
  · rw [hv] at h1
    obtain ⟨hp, hyl, hy0⟩ := needOk_bd hv
    obtain ⟨hn12, hx20⟩ := padOk_bd hp
    have hl := hs.len
    have hl' := hs'.len
    have h2 := fun W hW => sum_any A n c xs (by omega) (fun x hx => by have := hx20 x hx; omega) W (hs.below hW)
    have h3 := fun W hW => padRuns_any A A' n n' c c' xs ys W (hs.below hW) (hs'.below hW)
    rw [padRuns_yes hv] at h3
    have hzl : (List.zipWith min xs ys).length = n := by rw [List.length_zipWith]; omega
    have hzb := zip_bd hx20 hy0
    have h4 := fun W A c h => sum_any A n c (List.zipWith min xs ys) (by omega) hzb W h
    have b1 := sum_bd (xs := xs) (fun x hx => by have := hx20 x hx; omega)
    have b2 := sum_bd hzb
    rw [hzl] at b2
    rw [hl] at b1
    have HZL := Lib.hid hzl
    have hnn : n ≤ 12 := by omega
    have b13 : xs.sum ≤ 12000 := by omega
    have b23 : (List.zipWith min xs ys).sum ≤ 12000 := by omega
    obtain ⟨sx, hsx⟩ : ∃ sx, xs.sum = sx := ⟨_, rfl⟩
    obtain ⟨sz, hsz⟩ : ∃ sz, (List.zipWith min xs ys).sum = sz := ⟨_, rfl⟩
    simp only [if_true]
    rw [hsx] at h2 b1 b13 ⊢
    rw [hsz] at h4 b2 b23 ⊢
    generalize List.zipWith min xs ys = zs at *
    clear hsx hsz hv hp hyl hy0 hx20 hl hl' hzl hzb hs hs'
    obtain ⟨b11, b12⟩ := b1
    obtain ⟨b21, b22⟩ := b2
    go_enter Try.func36, Try.ntmps36
    go_wp2_with fail
    refine h1.mono ?_; rintro e w1 ⟨rfl, hb1⟩
    go_wp2_with fail
    refine (h2 _ hb1).mono ?_; rintro e w2 ⟨rfl, hb2⟩
    have hB2 := thn hb1 hb2
    go_wp2_with fail
    refine (h3 _ hB2).mono ?_
    rintro e w3 ⟨⟨A3, n3, c3, l3⟩, rfl, ⟨hsl3, _, _, _⟩, hl3, hb3⟩
    simp only [SV.v] at hsl3 hl3 ⊢
    subst hl3
    obtain rfl : n3 = n := by rw [← hsl3.len]; exact HZL.out
    have hB3 := thn hB2 hb3
    go_wp2_with fail
    refine (h4 _ _ _ hsl3).mono ?_; rintro e w4 ⟨rfl, hb4⟩
    go_wp2
    go_ret
    exact ⟨rfl, thn hB3 hb4⟩

set_option maxRecDepth 100000 in
set_option maxHeartbeats 1000000 in
theorem specPadWaste_any (A A' : Option Addr) (n n' c c' : Nat) (xs ys : List Int) (w : World) (hs : Sl w 1 eI A n c xs) (hs' : Sl w 1 eI A' n' c' ys) :
    Calls Try.prog 37 #[.slice A n c, .slice A' n' c'] w fun e w' => .returned (.int .i64 (waste xs ys)) = e ∧ Below w.heap.size w w' := by
  have hle := hs.le
  have hmax := hs.max
  have h3 := specPadRuns_any A A' n n' c c' xs ys w hs hs'
  have HW := Lib.hid (show waste xs ys = (if needOk xs ys then xs.sum - (List.zipWith min xs ys).sum else 0) from rfl)
  have HF := Lib.hid (show (padRuns xs ys = [] ∧ needOk xs ys = false) ∨ (needOk xs ys = true ∧ padRuns xs ys = List.zipWith min xs ys) by
    cases hv : needOk xs ys
    · exact .inl ⟨padRuns_no hv, rfl⟩
    · exact .inr ⟨rfl, padRuns_yes hv⟩)
  go_enter Try.func37, Try.ntmps37
  go_wp2_with fail
  refine h3.mono ?_
  rintro e w3 ⟨⟨A3, n3, c3, l3⟩, rfl, ⟨hsl3, _, _, _⟩, hl3, hb3⟩
  simp only [SV.v] at hsl3 hl3 ⊢
  subst hl3
  have hle3 := hsl3.le
  have hmax3 := hsl3.max
  clear h3
  rcases HF.out with ⟨h0, hv⟩ | ⟨hv, h0⟩
  · obtain rfl : n3 = 0 := by rw [← hsl3.len, h0]; rfl
    have HQ := Lib.hid (show (0 : Int) = waste xs ys by rw [HW.out, hv]; rfl)
    clear HF HW h0 hv hsl3
    go_wp2
    go_loopg [5, 7] 0 (fun gg s5 s7 wr => s5 = .int .i64 0 ∧ s7 = .int .i64 0 ∧ Aside (Below w.heap.size w wr))
    case atStart => exact ⟨rfl, rfl, (show Aside _ from hb3)⟩
    case round =>
      obtain ⟨rfl, rfl, BW⟩ := hrel
      go_wp2
      go_ret
      exact ⟨congrArg (fun o => Ending.returned (.int .i64 o)) HQ.out.symm, BW.out⟩
  · obtain ⟨hp, hyl, hy0⟩ := needOk_bd hv
    obtain ⟨hn12, hx20⟩ := padOk_bd hp
    rw [h0] at hsl3
    have hl := hs.len
    have hzl := hsl3.len
    rw [List.length_zipWith] at hzl
    obtain rfl : n = n3 := by omega
    have hzb := zip_bd hx20 hy0
    have HQ := Lib.hid (show (xs.take n).sum - ((List.zipWith min xs ys).take n).sum = waste xs ys by
      rw [HW.out, hv, if_pos rfl, List.take_of_length_le (by omega), List.take_of_length_le (by rw [List.length_zipWith]; omega)])
    have HX := Lib.hid (fun k => sum_take_bd (xs := xs) (fun x hx => by have := hx20 x hx; omega) k)
    have HZ := Lib.hid (fun k => sum_take_bd hzb k)
    have HXM := Lib.hid hx20
    have HZM := Lib.hid hzb
    have hnn : n ≤ 12 := by omega
    clear HF HW h0 hv hp hyl hy0 hx20 hl hzl hzb
    generalize List.zipWith min xs ys = zs at *
    go_wp2
    go_loopg [5, 7] n (fun gg s5 s7 wr => ∃ (kk : Nat) (a b : Int), kk ≤ n ∧ n - kk ≤ gg ∧ s5 = .int .i64 (a - b) ∧ s7 = .int .i64 kk ∧ 0 ≤ a ∧ a ≤ 1000 * (kk : Int) ∧ 0 ≤ b ∧ b ≤ 1000 * (kk : Int) ∧ Aside (Below w3.heap.size w3 wr) ∧ Aside (a = (xs.take kk).sum) ∧ Aside (b = (zs.take kk).sum))
    case atStart => exact ⟨0, 0, 0, Nat.zero_le _, by omega, rfl, rfl, by omega, by omega, by omega, by omega, (show Aside _ from Below.refl _ _), (show Aside _ from rfl), (show Aside _ from rfl)⟩
    case round =>
      obtain ⟨kk, a, b, hkk, hg, rfl, rfl, ha0, ha1, hb0, hb1, BW, AE, BE⟩ := hrel
      by_cases hlt : kk < n
      · have hltz : (kk : Int) < (n : Int) := by omega
        obtain ⟨b1, o1, rfl, x, hxk, hc⟩ := hs.nth hlt (thn hb3 BW.out)
        obtain ⟨b2, o2, rfl, z, hzk, hd⟩ := hsl3.nth hlt BW.out
        have hc0 := hc 0 _ rfl
        have hd0 := hd 0 _ rfl
        simp only [eI, Nat.add_zero, Nat.mul_one] at hc0 hd0
        have hxb := HXM.out x (List.mem_of_getElem? hxk)
        have hzb := HZM.out z (List.mem_of_getElem? hzk)
        have HTX := Lib.hid (sum_take hxk)
        have HTZ := Lib.hid (sum_take hzk)
        obtain ⟨hx0, hx1⟩ := hxb
        obtain ⟨hz0, hz1⟩ := hzb
        have w1 : IntKind.i64.wrap (a - b + x) = a - b + x := IntWalk.i64_in _ (by omega)
        have w2 : IntKind.i64.wrap (a - b + x - z) = a - b + x - z := IntWalk.i64_in _ (by omega)
        clear hc hd hxk hzk
        go_wp2_with fail
        go_quiet (fail)
        clear w1 w2
        go_wp2
        go_roundg (n - (kk + 1))
        case measure => omega
        case rel => exact ⟨kk + 1, a + x, b + z, by omega, by omega, by rw [show a + x - (b + z) = a - b + x - z by omega], by go_num, by omega, by omega, by omega, by omega, (show Aside _ from belowDrewN BW.out _), (show Aside _ from (show a + x = (xs.take (kk + 1)).sum by rw [HTX.out, ← AE.out])), (show Aside _ from (show b + z = (zs.take (kk + 1)).sum by rw [HTZ.out, ← BE.out]))⟩
      · have hltz : ¬ (kk : Int) < (n : Int) := by omega
        obtain rfl : n = kk := by omega
        go_wp2
        go_ret
        exact ⟨congrArg (fun o => Ending.returned (.int .i64 o)) (by rw [AE.out, BE.out]; exact HQ.out.symm), thn hb3 BW.out⟩
end Go.Proofs.Ythellpcohdbbfaa
