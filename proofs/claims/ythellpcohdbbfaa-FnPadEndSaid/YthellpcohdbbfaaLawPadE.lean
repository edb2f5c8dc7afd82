/- The walk of FnPadEnd. -/
import Derived.Test.YthellpcohdbbfaaLawPad
namespace Go.Proofs.Ythellpcohdbbfaa
open Go.RowKit

theorem padOk_more {xs : List Int} (h : padOk xs = true) (hn : xs.length < 12) : padOk (xs ++ [1]) = true := by
  simp only [padOk, Bool.and_eq_true, decide_eq_true_eq, List.all_append] at h ⊢
  exact ⟨by simp; omega, h.2, rfl⟩
theorem padStarts_end {xs : List Int} (h : padOk xs = true) (hn : xs.length < 12) : (padStarts (xs ++ [1])).length = xs.length + 1 ∧ (padStarts (xs ++ [1]))[xs.length]? = some xs.sum := by
  unfold padStarts
  rw [padOk_more h hn, if_pos rfl, starts_len]
  refine ⟨by simp, ?_⟩
  rw [starts_at _ _ (by simp)]
  simp
theorem padStarts_same {xs : List Int} (h : (padStarts xs).length = xs.length) : padOk xs = true := by
  unfold padStarts at h
  cases hv : padOk xs
  · rw [hv, if_neg Bool.false_ne_true] at h
    have : xs = [] := List.eq_nil_of_length_eq_zero h.symm
    subst this
    simp [padOk] at hv
  · rfl

set_option maxHeartbeats 2000000 in
theorem lawPadEnd (A : Option Addr) (n c : Nat) (zs : List Int) (w : World) (h : Code w A n c zs) :
    Calls Try.prog 7 #[.slice A n c] w fun e w' => .returned (.bool true) = e ∧ Below w.heap.size w w' := by
  have hle := h.le
  have hmax := h.max
  by_cases hn : n ≤ 1048576
  · have hdraw := drawPadStarts_any A n c zs w h
    clear h
    go_enter Try.func7, Try.ntmps7
    go_wp2_with fail
    refine hdraw.mono ?_
    rintro e w1 ⟨⟨A1, n1, c1, xs⟩, rfl, ⟨hsl, _, hnil, _⟩, hn1, _, hb⟩
    clear hdraw
    simp only [SV.v] at hsl hn1 hnil ⊢
    obtain rfl : xs.length = n1 := hsl.len
    have hle1 := hsl.le
    have hmax1 := hsl.max
    have hI := padStarts_any A1 xs.length c1 xs w1 hsl
    have hS := fun W hW => specPadStarts_any A1 xs.length c1 xs W (hsl.below hW)
    have HS := Lib.hid (@padStarts_same xs)
    have HE := Lib.hid (@padStarts_end xs)
    skip
    go_wp2_with fail
    refine hI.mono ?_
    rintro e w2 ⟨⟨A2, n2, c2, _⟩, rfl, ⟨hs2, _, _, _⟩, rfl, hb2⟩
    simp only [SV.v] at hs2 ⊢
    go_wp2_with fail
    refine (hS _ hb2).mono ?_
    rintro e w3 ⟨⟨A3, n3, c3, _⟩, rfl, ⟨hs3, _, _, _⟩, rfl, hb3⟩
    simp only [SV.v] at hs3 ⊢
    have hE := sameInts_any A2 A3 n2 n3 c2 c3 _ _ w3 (hs2.below hb3) hs3
    rw [decide_eq_true rfl] at hE
    go_wp2_with fail
    refine hE.mono ?_
    rintro e w4 ⟨rfl, hb4⟩
    have hby := thn hb2 (thn hb3 hb4)
    clear hI hE hs3 hb3 hb4 hb2 hs2
    go_wp2_with fail
    refine (hS _ hby).mono ?_
    rintro e w5 ⟨⟨A5, n5, c5, _⟩, rfl, ⟨hs5, _, _, _⟩, rfl, hb5⟩
    simp only [SV.v] at hs5 ⊢
    have hl5 := hs5.len
    replace hby := thn hby hb5
    clear hs5 hb5 hS
    by_cases hn5 : n5 = xs.length
    · by_cases h12 : xs.length = 12
      · subst hn5
        have hz12 : (xs.length : Int) = 12 := by omega
        go_wp2_with fail; refine (alive_any _).mono ?_; rintro e w6 ⟨rfl, hbw6⟩
        go_wp2
        go_ret
        exact ⟨rfl, thn hb (thn hby hbw6)⟩
      · subst hn5
        have hok := HS.out hl5
        have hbd := padOk_bd hok
        obtain ⟨q1, q2⟩ := HE.out hok (by omega)
        have HB := Lib.hid (fun (x : Int) (hx : x ∈ xs) => show 0 ≤ x ∧ x ≤ 1000 from by have := hbd.2 x hx; omega)
        have hz12 : ¬ (xs.length : Int) = 12 := by omega
        have Q1 := Lib.hid q1
        have Q2 := Lib.hid q2
        clear q1 q2 hbd hok hl5 HS HE
        go_wp2
        go_loopg [4, 5] xs.length (fun gg s4 s5 wr => ∃ (kk : Nat) (s : Int), kk ≤ xs.length ∧ xs.length - kk ≤ gg ∧ s4 = .int .i64 s ∧ s5 = .int .i64 kk ∧ 0 ≤ s ∧ s ≤ 1000 * (kk : Int) ∧ Aside (Below w1.heap.size w1 wr) ∧ Aside (s = (xs.take kk).sum))
        case atStart => exact ⟨0, 0, Nat.zero_le _, by omega, rfl, rfl, by omega, by omega, (show Aside _ from hby), (show Aside _ from rfl)⟩
        case round =>
          clear hby
          obtain ⟨kk, s, hkk, hg, rfl, rfl, hs0, hs1, BY, SS⟩ := hrel
          by_cases hlt : kk < xs.length
          · have hltz : (kk : Int) < (xs.length : Int) := by omega
            obtain ⟨b, o, rfl, y, hyk, hc⟩ := hsl.nth hlt BY.out
            have hc0 := hc 0 _ rfl
            have hy := HB.out y (List.mem_of_getElem? hyk)
            have HT := Lib.hid (sum_take hyk)
            clear hc hyk
            simp only [eI, Nat.add_zero, Nat.mul_one] at hc0
            obtain ⟨hy0, hy1⟩ := hy
            go_wp2
            go_roundg (xs.length - (kk + 1))
            case measure => omega
            case rel => exact ⟨kk + 1, s + y, by omega, by omega, rfl, by go_num, by omega, by omega, (show Aside _ from BY.out), (show Aside _ from (show s + y = (xs.take (kk + 1)).sum by rw [HT.out, ← SS.out]))⟩
          · have hltz : ¬ (kk : Int) < (xs.length : Int) := by omega
            obtain rfl : kk = xs.length := by omega
            have hsum : s = xs.sum := by rw [SS.out, List.take_length]
            have HSM := Lib.hid hsum
            have hB3 := thn hb BY.out
            have hslr := hsl.below BY.out
            clear hsum SS
            have own0 : Own (wr.alloc (.cells #[] 3)) wr.heap.size 3 1 eI _ ([] : List Int) := Own.of_blk (Blk.new wr 3 #[]) (Nat.le_refl _) encI (by simp [maxLen])
            have hB4 := (Below.refl wr.heap.size wr).alloc (Nat.le_refl _) (.cells #[] 3)
            have hlen1 : xs.length + 1 ≤ 100000000 := by omega
            go_wp2_with (first
              | (at_builtin; refine app_own rfl _ _ appInt rfl encI wr.heap.size _ [] rfl own0 _ _ _ xs rfl hnil (hslr.below hB4) (by simp; omega) hB4.size ?_; intro v5 w5 own5 hg5; have hB5 := belowApp hB4 own0 hg5 (Nat.le_refl _) hB4.size; clear hg5 own0 hB4; simp only [List.nil_append] at own5; have own6 := own5.alloc (.cells #[.int .i64 1] 3); have src6 : Sl (w5.alloc (.cells #[.int .i64 1] 3)) 1 eI (some ⟨w5.heap.size, 0, none⟩) 1 1 [1] := Sl.of_blk (xs := [1]) (Blk.new w5 3 #[.int .i64 1]) encI (by simp); have hB6 := hB5.alloc hB5.size (.cells #[.int .i64 1] 3))
              | (at_builtin; refine app_own rfl _ _ appInt rfl encI wr.heap.size _ xs rfl own6 _ _ _ [1] rfl (fun e => by cases e) src6 hlen1 hB6.size ?_; intro v7 w7 own7 hg7; have hB7 := belowApp hB6 own6 hg7 (Nat.le_refl _) hB6.size; clear hg7 own6 own5 src6 hB6 hlen1 hB5))
            obtain ⟨A7, c7, rfl, _, hsl7, _⟩ := own7.sl encI
            clear own7
            have hP := padStarts_any A7 _ c7 _ _ hsl7
            clear hsl7
            go_wp2_with fail
            refine hP.mono ?_
            rintro e w8 ⟨⟨A8, n8, c8, _⟩, rfl, ⟨hs8, _, _, _⟩, rfl, hb8⟩
            simp only [SV.v] at hs8 ⊢
            have hl8 := hs8.len
            rw [Q1.out] at hl8
            subst hl8
            obtain ⟨b, o, rfl, y, hyk, hc⟩ := hs8.nth (kk := xs.length) (by omega) (Below.refl _ _)
            have hc0 := hc 0 _ rfl
            have hy : y = s := by rw [Q2.out] at hyk; injection hyk with hyk; rw [← hyk]; exact HSM.out.symm
            subst hy
            have hle8 := hs8.le
            have hmax8 := hs8.max
            clear hc hyk hs8 hP Q1 Q2 HSM
            simp only [eI, Nat.add_zero, Nat.mul_one] at hc0
            have hi : (xs.length : Int) < ((xs.length + 1 : Nat) : Int) := by omega
            go_wp2
            go_ret
            exact ⟨rfl, thn (thn hB3 hB7) hb8⟩
    · have hn5z : ¬ (n5 : Int) = (xs.length : Int) := by omega
      go_wp2_with fail; refine (alive_any _).mono ?_; rintro e w6 ⟨rfl, hbw6⟩
      go_wp2
      go_ret
      exact ⟨rfl, thn hb (thn hby hbw6)⟩
  · clear h
    go_enter Try.func7, Try.ntmps7
    go_wp2
    go_ret
    exact ⟨rfl, Below.refl _ _⟩
end Go.Proofs.Ythellpcohdbbfaa
