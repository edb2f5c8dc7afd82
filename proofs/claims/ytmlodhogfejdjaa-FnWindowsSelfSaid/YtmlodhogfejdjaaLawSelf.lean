/- The walk of FnWindowsSelf. -/
import Derived.Test.YtmlodhogfejdjaaLawClash
namespace Go.Proofs.Ytmlodhogfejdjaa
open Go.RowKit

theorem hit_self {x : Win} (hx : x.ok = true) : hitW x x = x.wr := by
  have h := Win.ok_true.1 hx
  unfold hitW
  rw [meet_at (p := x.base) (by omega) (by omega) (by omega) (by omega)]
  simp
theorem wclash_self (xs : List Win) : wclash xs xs = ((xs.any fun x => x.wr) && winsOk xs) := by
  unfold wclash
  cases hv : winsOk xs
  · simp
  · have hok := (winsOk_true.1 hv).2
    rw [Bool.true_and, Bool.true_and, Bool.and_true, Bool.eq_iff_iff]
    simp only [clashW, List.any_eq_true]
    constructor
    · rintro ⟨x, hx, y, hy, h⟩
      unfold hitW at h
      rw [Bool.and_eq_true, Bool.or_eq_true] at h
      rcases h.2 with h2 | h2
      · exact ⟨x, hx, h2⟩
      · exact ⟨y, hy, h2⟩
    · rintro ⟨x, hx, h⟩
      exact ⟨x, hx, x, hx, by rw [hit_self (hok x hx)]; exact h⟩

set_option maxHeartbeats 2000000 in
theorem lawWindowsSelf (A : Option Addr) (n c : Nat) (zs : List Int) (w : World) (h : Code w A n c zs) :
    Calls Try.prog 12 #[.slice A n c] w fun e w' => .returned (.bool true) = e ∧ Below w.heap.size w w' := by
  have hle := h.le
  have hmax := h.max
  by_cases hn : n ≤ 1048576
  · have hdraw := drawWindowsClash_any A n c zs w h
    clear h
    go_enter Try.func12, Try.ntmps12
    go_wp2_with fail
    refine hdraw.mono ?_
    rintro e w1 ⟨⟨⟨A1, n1, c1, xs⟩, ⟨A2, n2, c2, ys⟩⟩, rfl, ⟨hsl, _, _, _⟩, _, _, _, _, _, hb⟩
    clear hdraw
    simp only [slV2, SV.v] at hsl ⊢
    have hle1 := hsl.le
    have hmax1 := hsl.max
    have hI := fun W hW => windowsClash_any A1 A1 n1 n1 c1 c1 xs xs W (hsl.below hW) (hsl.below hW)
    have hS := fun W hW => specWindowsClash_any A1 A1 n1 n1 c1 c1 xs xs W (hsl.below hW) (hsl.below hW)
    have hV1 := fun W hW => specWindowsValid_any A1 n1 c1 xs W (hsl.below hW)
    have HC := Lib.hid (wclash_self xs)
    generalize wclash xs xs = v at *
    generalize winsOk xs = o1 at *
    skip
    have hb0 := Below.refl w1.heap.size w1
    go_wp2_with fail; refine (hI _ hb0).mono ?_; rintro e w2 ⟨rfl, hbw2⟩
    replace hb0 := hbw2
    go_wp2_with fail; refine (hS _ hb0).mono ?_; rintro e w3 ⟨rfl, hbw3⟩
    replace hb0 := thn hb0 hbw3
    clear hI hS hbw2 hbw3
    go_wp2
    go_loopg [6, 7] n1 (fun gg s6 s7 wr => ∃ (kk : Nat) (f : Bool), kk ≤ n1 ∧ n1 - kk ≤ gg ∧ s6 = .bool f ∧ s7 = .int .i64 kk ∧ Aside (Below w1.heap.size w1 wr) ∧ Aside (f = (xs.take kk).any fun x => x.wr))
    case atStart => exact ⟨0, false, by omega, by omega, rfl, rfl, (show Aside _ from hb0), (show Aside _ from rfl)⟩
    case round =>
      clear hb0
      obtain ⟨kk, f, hkk, hg, rfl, rfl, BW, FF⟩ := hrel
      by_cases hlt : kk < n1
      · have hltz : (kk : Int) < (n1 : Int) := by omega
        obtain ⟨b, o, rfl, x, hxk, hc⟩ := hsl.nth hlt BW.out
        have hc2 := hc 2 _ rfl
        have HT := Lib.hid (show (xs.take (kk + 1)).any (fun x => x.wr) = ((xs.take kk).any (fun x => x.wr) || x.wr) by rw [List.take_add_one, hxk]; simp)
        clear hc hxk
        obtain ⟨xb, xz, xw⟩ := x
        simp only [] at hc2 HT
        cases f
        · go_wp2
          go_roundg (n1 - (kk + 1))
          case measure => omega
          case rel => exact ⟨kk + 1, xw, by omega, by omega, rfl, by go_num, (show Aside _ from BW.out), (show Aside _ from (show xw = (xs.take (kk + 1)).any (fun x => x.wr) by rw [HT.out, ← FF.out, Bool.false_or]))⟩
        · go_wp2
          go_roundg (n1 - (kk + 1))
          case measure => omega
          case rel => exact ⟨kk + 1, true, by omega, by omega, rfl, by go_num, (show Aside _ from BW.out), (show Aside _ from (show true = (xs.take (kk + 1)).any (fun x => x.wr) by rw [HT.out, ← FF.out, Bool.true_or]))⟩
      · have hltz : ¬ (kk : Int) < (n1 : Int) := by omega
        obtain rfl : kk = n1 := by omega
        have hf := FF.out
        rw [← hsl.len, List.take_length] at hf
        have hv : v = (f && o1) := by rw [hf]; exact HC.out
        clear hf FF HC
        have hV := hV1 _ BW.out
        clear hV1
        cases f
        · obtain rfl : v = false := hv
          go_wp2_with fail; refine (alive_any _).mono ?_; rintro e w6 ⟨rfl, hbw6⟩
          go_wp2
          go_ret
          exact ⟨rfl, thn hb (thn BW.out hbw6)⟩
        · obtain rfl : v = o1 := hv
          go_wp2_with fail; refine (hV).mono ?_; rintro e w5 ⟨rfl, hbw5⟩
          go_wp2_with fail; refine (alive_any _).mono ?_; rintro e w6 ⟨rfl, hbw6⟩
          go_wp2
          go_ret
          exact ⟨rfl, thn hb (thn (thn BW.out hbw5) hbw6)⟩
  · clear h
    go_enter Try.func12, Try.ntmps12
    go_wp2
    go_ret
    exact ⟨rfl, Below.refl _ _⟩
end Go.Proofs.Ytmlodhogfejdjaa
