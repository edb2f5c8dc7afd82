/- The walks of FnPadStarts, FnPadEnd. -/
import Derived.Test.YthellpcohdbbfaaDPad
import Derived.Test.YthellpcohdbbfaaPadS
import Derived.Test.YthellpcohdbbfaaSame
import Derived.Test.YthellpcohdbbfaaAlive
namespace Go.Proofs.Ythellpcohdbbfaa
open Go.RowKit

theorem padStarts_at {xs : List Int} {k : Nat} (h : k < (padStarts xs).length) : (padStarts xs)[k]? = some (xs.take k).sum ∧ (padStarts xs).length = xs.length ∧ ∀ x ∈ xs, 1 ≤ x ∧ x ≤ 20 := by
  unfold padStarts at h ⊢
  cases hv : padOk xs
  · rw [hv] at h; simp at h
  · rw [hv, if_pos rfl] at h
    rw [if_pos rfl]
    rw [starts_len] at h
    exact ⟨starts_at xs k h, starts_len xs, (padOk_bd hv).2⟩
theorem padStarts_len (xs : List Int) : (padStarts xs).length = 0 ∨ (padStarts xs).length = xs.length := by
  unfold padStarts
  split
  · exact .inr (starts_len xs)
  · exact .inl rfl

set_option maxHeartbeats 2000000 in
theorem lawPadStarts (A : Option Addr) (n c : Nat) (zs : List Int) (w : World) (h : Code w A n c zs) :
    Calls Try.prog 8 #[.slice A n c] w fun e w' => .returned (.bool true) = e ∧ Below w.heap.size w w' := by
  have hle := h.le
  have hmax := h.max
  by_cases hn : n ≤ 1048576
  · have hdraw := drawPadStarts_any A n c zs w h
    clear h
    go_enter Try.func8, Try.ntmps8
    go_wp2_with fail
    refine hdraw.mono ?_
    rintro e w1 ⟨⟨A1, n1, c1, xs⟩, rfl, ⟨hsl, _, _, _⟩, hn1, _, hb⟩
    clear hdraw
    simp only [SV.v] at hsl hn1 ⊢
    have hl1 := hsl.len
    have hle1 := hsl.le
    have hmax1 := hsl.max
    have hI := padStarts_any A1 n1 c1 xs w1 hsl
    have hS := fun W hW => specPadStarts_any A1 n1 c1 xs W (hsl.below hW)
    have hlen := padStarts_len xs
    have HA := Lib.hid (fun k hk => @padStarts_at xs k hk)
    go_wp2_with fail
    refine hI.mono ?_
    rintro e w2 ⟨⟨A2, n2, c2, _⟩, rfl, ⟨hs2, _, _, _⟩, rfl, hb2⟩
    simp only [SV.v] at hs2 ⊢
    have hl2 := hs2.len
    have hle2 := hs2.le
    have hmax2 := hs2.max
    go_wp2_with fail
    refine (hS _ hb2).mono ?_
    rintro e w3 ⟨⟨A3, n3, c3, _⟩, rfl, ⟨hs3, _, _, _⟩, rfl, hb3⟩
    simp only [SV.v] at hs3 ⊢
    have hE := sameInts_any A2 A3 n2 n3 c2 c3 _ _ w3 (hs2.below hb3) hs3
    rw [decide_eq_true rfl] at hE
    go_wp2_with fail
    refine hE.mono ?_
    rintro e w4 ⟨rfl, hb4⟩
    have hbx := thn hb3 hb4
    have hby := thn hb2 hbx
    clear hI hS hE hs3 hb3 hb4 hb2
    rw [hl2, hl1] at hlen
    go_wp2
    go_loopg [5] n2 (fun gg s5 wr => ∃ kk : Nat, kk ≤ n2 ∧ n2 - kk ≤ gg ∧ s5 = .int .i64 kk ∧ Aside (Below w2.heap.size w2 wr) ∧ Aside (Below w1.heap.size w1 wr))
    case atStart => exact ⟨0, Nat.zero_le _, by omega, rfl, (show Aside _ from hbx), (show Aside _ from hby)⟩
    case round =>
      clear hbx hby
      obtain ⟨kk, hkk, hg, rfl, BX, BY⟩ := hrel
      by_cases hlt : kk < n2
      · have hltz : (kk : Int) < (n2 : Int) := by omega
        obtain ⟨e1, e2, e3⟩ := HA.out kk (by omega)
        have hnn : n2 = n1 := by omega
        obtain ⟨b, o, rfl, y, hyk, hc⟩ := hs2.nth hlt BX.out
        have hc0 := hc 0 _ rfl
        have hy : y = (xs.take kk).sum := by rw [e1] at hyk; injection hyk with hyk; exact hyk.symm
        clear hc hyk e1
        simp only [eI, Nat.add_zero, Nat.mul_one] at hc0
        cases kk with
        | zero =>
          obtain rfl : y = 0 := hy
          simp only [Nat.add_zero] at hc0
          clear e2 e3
          have hnz : (0 : Int) < (n2 : Int) := by omega
          go_wp2_with fail
          go_quiet (fail)
          go_wp2
          go_roundg (n2 - (0 + 1))
          case measure => omega
          case rel => exact ⟨0 + 1, by omega, by omega, by go_num, (show Aside _ from belowDrewN BX.out _), (show Aside _ from belowDrewN BY.out _)⟩
        | succ j =>
          obtain ⟨b', o', hA, y', hyk', hc'⟩ := hs2.nth (kk := j) (by omega) BX.out
          obtain ⟨rfl, rfl⟩ : b = b' ∧ o = o' := by injection hA with hA; injection hA with h1 h2; exact ⟨h1, h2⟩
          have hp0 := hc' 0 _ rfl
          have hy' : y' = (xs.take j).sum := by rw [(HA.out j (by omega)).1] at hyk'; injection hyk' with hyk'; exact hyk'.symm
          clear hc' hyk' hA
          obtain ⟨d, q, rfl, t, htk, hct⟩ := hsl.nth (kk := j) (by omega) BY.out
          have ht0 := hct 0 _ rfl
          have hyt : y = y' + t := by rw [hy, hy', sum_take htk]
          have htb := e3 t (List.mem_of_getElem? htk)
          have hyb := sum_take_bd (xs := xs) (fun x hx => by have := e3 x hx; omega) j
          rw [← hy'] at hyb
          clear hct htk hy hy' e2 e3
          simp only [eI, Nat.add_zero, Nat.mul_one] at hp0 ht0
          subst hyt
          obtain ⟨t1, t2⟩ := htb
          obtain ⟨u1, u2⟩ := hyb
          have hj0 : (0 : Int) ≤ (j : Int) := by omega
          have hj1 : (j : Int) < (n2 : Int) := by omega
          have hj2 : (j : Int) < (n1 : Int) := by omega
          have hj13 : (j : Int) ≤ 13 := by omega
          have hj10 : ((j : Int) + 1 == 0) = false := by rw [beq_eq_false_iff_ne]; omega
          have hj1n : ¬ (j : Int) + 1 = 0 := by omega
          have hj3 : (j : Int) + 1 < (n2 : Int) := by omega
          have hj4 : (0 : Int) ≤ (j : Int) + 1 := by omega
          have hj5 : ((j : Int) + 1).toNat = j + 1 := by omega
          go_wp2_with fail
          go_quiet (fail)
          go_wp2
          go_roundg (n2 - (j + 1 + 1))
          case measure => omega
          case rel => exact ⟨j + 1 + 1, by omega, by omega, by go_num, (show Aside _ from belowDrewN BX.out _), (show Aside _ from belowDrewN BY.out _)⟩
      · have hltz : ¬ (kk : Int) < (n2 : Int) := by omega
        obtain rfl : kk = n2 := by omega
        clear HA
        rcases hlen with h0 | h0
        · obtain rfl : kk = 0 := h0
          skip
          go_wp2_with fail; refine (alive_any _).mono ?_; rintro e w6 ⟨rfl, hbw6⟩
          go_wp2
          go_ret
          exact ⟨rfl, thn hb (thn BY.out hbw6)⟩
        · obtain rfl : kk = n1 := h0
          by_cases hz : kk = 0
          · subst hz
            go_wp2_with fail; refine (alive_any _).mono ?_; rintro e w6 ⟨rfl, hbw6⟩
            go_wp2
            go_ret
            exact ⟨rfl, thn hb (thn BY.out hbw6)⟩
          · go_wp2_with fail; refine (alive_any _).mono ?_; rintro e w6 ⟨rfl, hbw6⟩
            go_wp2
            go_ret
            exact ⟨rfl, thn hb (thn BY.out hbw6)⟩
  · clear h
    go_enter Try.func8, Try.ntmps8
    go_wp2
    go_ret
    exact ⟨rfl, Below.refl _ _⟩
end Go.Proofs.Ythellpcohdbbfaa
