/- The walk of FnWindowAt. -/
import Derived.Test.YtmlodhogfejdjaaDWAt
import Derived.Test.YtmlodhogfejdjaaSAt
import Derived.Test.YtmlodhogfejdjaaAlive
namespace Go.Proofs.Ytmlodhogfejdjaa
open Go.RowKit

/-- What an index that was found says. -/
theorem windowAt_hit {xs : List Win} {p : Int} {z : Bool} {k : Int} (h : windowAt xs p z = k) (hk : 0 ≤ k) : ∃ i y, k = ((i : Nat) : Int) ∧ xs[i]? = some y ∧ y.ok = true ∧ y.base ≤ p ∧ p ≤ y.base + y.size - 1 ∧ (y.wr = true ∨ z = false) ∧ windowAt (xs.take i) p z = -1 ∧ 0 ≤ windowAt xs p false := by
  unfold windowAt at h
  cases hok : winsOk xs
  · rw [hok, if_neg (by simp)] at h; omega
  · rw [hok, if_pos rfl] at h
    unfold idxP at h
    cases hf : xs.findIdx? (atP p z) with
    | none => rw [hf] at h; simp at h; omega
    | some i =>
      rw [hf] at h
      simp only [] at h
      obtain ⟨hi, h1, h2⟩ := List.findIdx?_eq_some_iff_getElem.1 hf
      rw [winsOk_true] at hok
      have hy : xs[i]? = some xs[i] := List.getElem?_eq_getElem hi
      have hm := hok.2 xs[i] (List.getElem_mem hi)
      refine ⟨i, xs[i], h.symm, hy, hm, ?_⟩
      have h3 : Win.has xs[i] p = true ∧ (xs[i].wr || !z) = true := by simpa [atP] using h1
      have h4 : xs[i].base ≤ p ∧ p ≤ xs[i].base + xs[i].size - 1 := by
        have := h3.1
        unfold Win.has at this
        exact inB_true.1 this
      refine ⟨h4.1, h4.2, ?_, ?_, ?_⟩
      · have := h3.2
        cases hw : xs[i].wr <;> cases z <;> simp [hw] at this ⊢
      · unfold windowAt
        have ht : winsOk (xs.take i) = true := winsOk_true.2 ⟨by rw [List.length_take]; omega, fun x hx => hok.2 x (List.mem_of_mem_take hx)⟩
        rw [ht, if_pos rfl]
        apply idxP_miss
        intro j y hj hjy
        rw [List.length_take] at hj
        rw [List.getElem?_take_of_lt (by omega)] at hjy
        have := h2 j (by omega)
        rw [List.getElem?_eq_getElem (by omega)] at hjy
        injection hjy with hjy
        rw [← hjy]; simpa using this
      · unfold windowAt
        rw [winsOk_true.2 hok, if_pos rfl]
        unfold idxP
        cases hf2 : xs.findIdx? (atP p false) with
        | none =>
          exfalso
          rw [List.findIdx?_eq_none_iff] at hf2
          have := hf2 xs[i] (List.getElem_mem hi)
          simp [atP, h3.1] at this
        | some j => simp only []; omega
theorem windowAt_no {xs : List Win} {p : Int} {z : Bool} (h : windowAt xs p z < 0) : windowAt xs p z = -1 := by
  unfold windowAt idxP at h ⊢
  split at h
  · rename_i h1
    rw [if_pos h1]
    split at h
    · exfalso; omega
    · rfl
  · rename_i h1
    rw [if_neg h1]

set_option maxHeartbeats 2000000 in
theorem lawWindowAt (A : Option Addr) (n c : Nat) (zs : List Int) (w : World) (h : Code w A n c zs) :
    Calls Try.prog 7 #[.slice A n c] w fun e w' => .returned (.bool true) = e ∧ Below w.heap.size w w' := by
  have hle := h.le
  have hmax := h.max
  by_cases hn : n ≤ 1048576
  · have hdraw := drawWindowAt_any A n c zs w h
    clear h
    go_enter Try.func7, Try.ntmps7
    go_wp2_with fail
    refine hdraw.mono ?_
    rintro e w1 ⟨⟨⟨A1, n1, c1, xs⟩, p, z⟩, rfl, ⟨hsl, _, hnil, _⟩, hn1, hp, hb⟩
    clear hdraw
    simp only [watV, SV.v] at hsl hnil hn1 hp ⊢
    obtain rfl : xs.length = n1 := hsl.len
    have hle1 := hsl.le
    have hmax1 := hsl.max
    have hI := fun W h => windowAt_any A1 xs.length c1 xs p z W h
    have hS := fun W h => specWindowAt_any A1 xs.length c1 xs p z W h
    have hF := fun W h => windowAt_any A1 xs.length c1 xs p false W h
    have hhit := fun k => @windowAt_hit xs p z k
    have hno := @windowAt_no xs p z
    obtain ⟨hp0, hp1⟩ := hp
    generalize windowAt xs p z = v at *
    generalize windowAt xs p false = vf at *
    skip
    by_cases hv : v < 0
    · obtain rfl := hno hv
      clear hhit hno hF
      go_wp2_with fail; refine (hI _ hsl).mono ?_; rintro e w2 ⟨rfl, hbw2⟩
      have hsl2 := hsl.below hbw2
      go_wp2_with fail; refine (hS _ hsl2).mono ?_; rintro e w3 ⟨rfl, hbw3⟩
      go_wp2_with fail; refine (alive_any _).mono ?_; rintro e w4 ⟨rfl, hbw4⟩
      go_wp2
      go_ret
      exact ⟨rfl, thn (thn (thn hb hbw2) hbw3) hbw4⟩
    · obtain ⟨i, y, rfl, hy, hyk, y1, y2, y3, y4, y5⟩ := hhit v rfl (by omega)
      clear hno hhit
      have hyk' := Win.ok_true.1 hyk
      obtain ⟨k1, k2, k3, k4⟩ := hyk'
      have hi : i < xs.length := (List.getElem?_eq_some_iff.1 hy).1
      have hT := fun W h => windowAt_any A1 i c1 (xs.take i) p z W h
      rw [y4] at hT
      have HY := Lib.hid hy
      clear y4 hyk hy hv
      go_wp2_with fail; refine (hI _ hsl).mono ?_; rintro e w2 ⟨rfl, hbw2⟩
      have hsl2 := hsl.below hbw2
      replace hb := thn hb hbw2
      clear hbw2 hI
      go_wp2_with fail; refine (hS _ hsl2).mono ?_; rintro e w3 ⟨rfl, hbw3⟩
      have hsl3 := hsl2.below hbw3
      replace hb := thn hb hbw3
      clear hbw3 hS hsl hsl2
      obtain ⟨b, o, rfl, y', hy', hc⟩ := hsl3.nth hi (Below.refl _ _)
      obtain rfl : y = y' := by have := HY.out; rw [hy'] at this; injection this with this; exact this.symm
      have hc0 := hc 0 _ rfl
      have hc1 := hc 1 _ rfl
      have hc2 := hc 2 _ rfl
      clear hc hy' HY hnil
      obtain ⟨yb, ys, yw⟩ := y
      simp only [Win.cells, Nat.add_zero] at hc0 hc1 hc2 y1 y2 y3 k1 k2 k3 k4
      have d1 : decide (xs.length ≤ i) = false := decide_eq_false (by omega)
      have d2 : decide (p < yb) = false := decide_eq_false (by omega)
      have d3 : decide (yb + ys ≤ p) = false := decide_eq_false (by omega)
      have e1 : 0 ≤ vf := y5
      cases z
      · clear y3
        go_wp2_with fail
        go_quiet (fail)
        have hT3 := hT _ ((hsl3.drewN nq).take_ i (by omega))
        have hF3 := fun W h => hF W ((hsl3.drewN nq).below h)
        replace hb := belowDrewN hb nq
        clear hT hF
        go_wp2_with fail; refine (hT3).mono ?_; rintro e w4 ⟨rfl, hbw4⟩
        go_wp2_with fail; refine (hF3 _ hbw4).mono ?_; rintro e w5 ⟨rfl, hbw5⟩
        go_wp2
        go_ret
        exact ⟨rfl, thn (thn hb hbw4) hbw5⟩
      · obtain rfl : yw = true := by simpa using y3
        clear y3
        go_wp2_with fail
        go_quiet (fail)
        have hT3 := hT _ ((hsl3.drewN nq).take_ i (by omega))
        have hF3 := fun W h => hF W ((hsl3.drewN nq).below h)
        replace hb := belowDrewN hb nq
        clear hT hF
        go_wp2_with fail; refine (hT3).mono ?_; rintro e w4 ⟨rfl, hbw4⟩
        go_wp2_with fail; refine (hF3 _ hbw4).mono ?_; rintro e w5 ⟨rfl, hbw5⟩
        go_wp2
        go_ret
        exact ⟨rfl, thn (thn hb hbw4) hbw5⟩
  · clear h
    go_enter Try.func7, Try.ntmps7
    go_wp2
    go_ret
    exact ⟨rfl, Below.refl _ _⟩
end Go.Proofs.Ytmlodhogfejdjaa
