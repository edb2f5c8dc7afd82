/- The walk of FnTransferPart. -/
import Derived.Test.YtffhcifeccdfjaaDAcc
import Derived.Test.YtffhcifeccdfjaaSPart
import Derived.Test.YtffhcifeccdfjaaAlive
import Derived.Test.YtffhcifeccdfjaaNear
namespace Go.Proofs.Ytffhcifeccdfjaa
open Go.RowKit

theorem okSet3n {α : Type} {W : World} {base k g : Nat} {enc : α → List Value} {s : SV α} (h : SV.ok W base k enc s) (hne : ∀ b o, s.A = some ⟨b, o, none⟩ → b ≠ g) (x y z : Value) : SV.ok (((W.setCell ⟨g, 0, none⟩ x).setCell ⟨g, 1, none⟩ y).setCell ⟨g, 2, none⟩ z) base k enc s := by
  have := okSet3 h hne x y z
  exact ⟨this.sl.keep (Nat.le_refl _) (fun _ _ _ => rfl), this.fresh, this.nil, this.spot⟩
theorem drawTransferPart_any (A : Option Addr) (n c : Nat) (zs : List Int) (w : World) (h : Code w A n c zs) :
    Calls Try.prog 16 #[.slice A n c] w (Post accV fun x w' => SV.ok w' w.heap.size 3 Win.cells x.1 ∧ x.1.n ≤ 13 ∧ TrB x.2 ∧ Below w.heap.size w w') := by
  obtain ⟨r, hr, hrw⟩ : ∃ r, w.heap.size + 1 = r ∧ w.heap.size < r := ⟨_, rfl, Nat.lt_succ_self _⟩
  have B1 := Blk.new w 24 #[.int .i64 0, .int .i64 0, .bool false]
  have hopen := open_at r A n c zs (w.alloc (.cells #[.int .i64 0, .int .i64 0, .bool false] 24)) (h.below ((Below.refl _ _).alloc (Nat.le_refl _) _)) (by simpa using hr)
  clear h
  go_enter Try.func16, Try.ntmps16
  go_wp2_with fail
  refine hopen.mono ?_
  rintro e w0 ⟨rfl, hrd, hb, hsz⟩
  clear hopen
  replace B1 := B1.below (hb.mono (by simp; omega))
  clear hr
  replace hb := ((Below.refl _ _).alloc (Nat.le_refl _) _).trans (hb.mono (Nat.le_of_lt hrw))
  have nB1 := Nat.ne_of_lt hrw
  replace hrw := Nat.le_of_lt hrw
  have hS := Stp.refl hrd
  have hr0 := hrd.lt
  clear hrd
  have hz0 := hb.size
  go_wp2_with fail
  refine (l20Access_any r _ _ hS.rd (by omega)).mono ?_
  rintro e w1 ⟨s, rfl, hs1, hn13, hx, hs⟩
  replace B1 := Blk.stpOf B1 hs (by repeat (first | exact B1 | apply Blk.alloc | apply Blk.drew | (apply Blk.far; rotate_left; (first | assumption | exact Ne.symm (by assumption))) | apply Blk.set_)) (by assumption); replace hS := Stp.trans (by repeat (first | exact hS | apply Stp.drew | apply Stp.alloc | (apply Stp.set; assumption; assumption))) hs; clear hs
  obtain ⟨⟨A1, n1, c1, xs⟩, p, q, z⟩ := s
  have hok : SV.ok w1 w.heap.size 3 Win.cells ⟨A1, n1, c1, xs⟩ := hs1.mono (by omega)
  have hne : ∀ b o, A1 = some ⟨b, o, none⟩ → b ≠ w.heap.size := fun b o e => by have := hs1.fresh b o e; omega
  have hokF := fun x y z => okSet3n (g := w.heap.size) hok hne x y z
  have hBel := hS.belowT (a := w) (B := w.heap.size) hb (by assumption) hb.size
  skip
  have cB1_0 := B1.c0; have cB1_1 := B1.c1; have cB1_2 := B1.c2; have fB1 := B1.frozen
  simp only [accV, SV.v, trCells]
  go_wp2
  exact bodyPost_ret (v := accV (⟨A1, n1, c1, xs⟩, (p, q, z))) (by simp [results, Try.results16, go_sem, accV, SV.v, trCells, cB1_0, cB1_1, cB1_2]) rfl ⟨_, rfl, hokF _ _ _, hn13, hx, below_set3 hBel (Nat.le_refl _) _ _ _⟩
theorem partN_facts (xs : List Win) (p : Int) (z : Bool) (m : Nat) : partN xs p z m ≤ m ∧ (∀ j : Nat, j < partN xs p z m → 0 ≤ windowAt xs (p + (j : Int)) z) ∧ (partN xs p z m < m → windowAt xs (p + (partN xs p z m : Int)) z < 0) := by
  have hle : partN xs p z m ≤ m := by
    have := List.findIdx_le_length (xs := List.range m) (p := fun i : Nat => decide (windowAt xs (p + (i : Int)) z < 0))
    rw [List.length_range] at this
    exact this
  refine ⟨hle, fun j hj => ?_, fun h => ?_⟩
  · have := List.not_of_lt_findIdx (xs := List.range m) (p := fun i : Nat => decide (windowAt xs (p + (i : Int)) z < 0)) hj
    rw [List.getElem_range] at this
    simpa using this
  · have := List.findIdx_getElem (xs := List.range m) (p := fun i : Nat => decide (windowAt xs (p + (i : Int)) z < 0)) (w := by rw [List.length_range]; exact h)
    rw [List.getElem_range] at this
    exact of_decide_eq_true this
theorem trPart_law {xs : List Win} {p q : Int} {z : Bool} {k : Int} (h : trPart xs p q z = k) (h0 : 0 ≤ k) : k ≤ q ∧ q ≤ 64 ∧ (k ≠ 0 → trAllowed xs p k z = true) ∧ (k ≠ q → trAllowed xs p (k + 1) z = false) := by
  unfold trPart at h
  cases hw : winsOk xs
  · rw [hw] at h; simp at h; omega
  · cases ht : trOk p q
    · rw [hw, ht] at h; simp at h; omega
    · rw [hw, ht, Bool.and_self, if_pos rfl] at h
      obtain ⟨t1, t2, t3, t4⟩ := trOk_true ht
      obtain ⟨f1, f2, f3⟩ := partN_facts xs p z q.toNat
      generalize partN xs p z q.toNat = m at *
      subst h
      have htk : ∀ k : Int, 1 ≤ k → k ≤ q → trOk p k = true := fun k h1 h2 => by
        unfold trOk; rw [inB_true.2 (by omega), inB_true.2 (by omega)]; rfl
      refine ⟨by omega, t2, fun hk => ?_, fun hk => ?_⟩
      · unfold trAllowed trPart
        rw [htk _ (by omega) (by omega), hw, Bool.true_and, Bool.and_self, if_pos rfl, Int.toNat_natCast]
        rw [part_stop (kk := m) (Nat.le_refl _) f2 (fun h => absurd h (Nat.lt_irrefl _)), beq_self_eq_true]
      · unfold trAllowed trPart
        rw [htk _ (by omega) (by omega), hw, Bool.true_and, Bool.and_self, if_pos rfl, show ((m : Int) + 1).toNat = m + 1 by omega]
        rw [part_stop (kk := m) (Nat.le_succ _) f2 (fun h => f3 (by omega)), beq_eq_false_iff_ne]
        omega
theorem trPart_lo {xs : List Win} {p q : Int} {z : Bool} (h : trPart xs p q z < 0) : trPart xs p q z = -1 := by
  unfold trPart at h ⊢
  split at h
  · omega
  · rename_i h1; rw [if_neg h1]

set_option maxRecDepth 100000 in
set_option maxHeartbeats 4000000 in
theorem lawTransferPart (A : Option Addr) (n c : Nat) (zs : List Int) (w : World) (h : Code w A n c zs) :
    Calls Try.prog 4 #[.slice A n c] w fun e w' => .returned (.bool true) = e ∧ Below w.heap.size w w' := by
  have hle := h.le
  have hmax := h.max
  by_cases hn : n ≤ 1048576
  · have hdraw := drawTransferPart_any A n c zs w h
    clear h
    go_enter Try.func4, Try.ntmps4
    go_wp2_with fail
    refine hdraw.mono ?_
    rintro e w1 ⟨⟨⟨A1, n1, c1, xs⟩, p, q, z⟩, rfl, ⟨hsl, _, hnil, _⟩, hn1, _, hb⟩
    clear hdraw
    simp only [accV, SV.v, trCells] at hsl hnil hn1 ⊢
    have hI := fun W h => transferPart_any A1 n1 c1 xs p q z W h
    have hS := fun W h => specTransferPart_any A1 n1 c1 xs p q z W h
    have hhit := fun k => @trPart_law xs p q z k
    have hno := @trPart_lo xs p q z
    generalize trPart xs p q z = v at *
    have hT := fun W h => transferAllowed_any A1 n1 c1 xs p v z W h
    have hU := fun W h => transferAllowed_any A1 n1 c1 xs p (v + 1) z W h
    simp only [trCells] at hI hS hT hU
    have hb0 := alo hb (.cells #[.int .i64 p, .int .i64 q, .bool z] 24)
    replace hsl := hsl.below (alo (Below.refl _ _) (.cells #[.int .i64 p, .int .i64 q, .bool z] 24))
    skip
    have B1 := Blk.new w1 24 #[.int .i64 p, .int .i64 q, .bool z]
    have cB1_0 := B1.c0; have cB1_1 := B1.c1; have cB1_2 := B1.c2; have fB1 := B1.frozen
    by_cases hv : v < 0
    · obtain rfl := hno hv
      clear hhit hno hT hU
      go_wp2_with fail; refine (hI _ hsl).mono ?_; rintro e w2 ⟨rfl, hbw2⟩; replace B1 := Blk.belowOf B1 hbw2 (by repeat (first | exact B1 | apply Blk.alloc | apply Blk.drew | (apply Blk.far; rotate_left; (first | assumption | exact Ne.symm (by assumption))) | apply Blk.set_))
      replace hsl := hsl.below hbw2
      replace hb := thn hb0 hbw2
      clear cB1_0 cB1_1 cB1_2 fB1
      have cB1_0 := B1.c0; have cB1_1 := B1.c1; have cB1_2 := B1.c2; have fB1 := B1.frozen
      go_wp2_with fail; refine (hS _ hsl).mono ?_; rintro e w3 ⟨rfl, hbw3⟩; replace B1 := Blk.belowOf B1 hbw3 (by repeat (first | exact B1 | apply Blk.alloc | apply Blk.drew | (apply Blk.far; rotate_left; (first | assumption | exact Ne.symm (by assumption))) | apply Blk.set_))
      clear cB1_0 cB1_1 cB1_2 fB1
      have cB1_0 := B1.c0; have cB1_1 := B1.c1; have cB1_2 := B1.c2; have fB1 := B1.frozen
      go_wp2_with fail; refine (alive_any _).mono ?_; rintro e w4 ⟨rfl, hbw4⟩; replace B1 := Blk.belowOf B1 hbw4 (by repeat (first | exact B1 | apply Blk.alloc | apply Blk.drew | (apply Blk.far; rotate_left; (first | assumption | exact Ne.symm (by assumption))) | apply Blk.set_))
      go_wp2
      go_ret
      exact ⟨rfl, thn (thn hb hbw3) hbw4⟩
    · obtain ⟨k1, k2, k3, k4⟩ := hhit v rfl (by omega)
      clear hno hhit
      go_wp2_with fail; refine (hI _ hsl).mono ?_; rintro e w2 ⟨rfl, hbw2⟩; replace B1 := Blk.belowOf B1 hbw2 (by repeat (first | exact B1 | apply Blk.alloc | apply Blk.drew | (apply Blk.far; rotate_left; (first | assumption | exact Ne.symm (by assumption))) | apply Blk.set_))
      replace hsl := hsl.below hbw2
      replace hb := thn hb0 hbw2
      clear hbw2 hI hb0
      clear cB1_0 cB1_1 cB1_2 fB1
      have cB1_0 := B1.c0; have cB1_1 := B1.c1; have cB1_2 := B1.c2; have fB1 := B1.frozen
      go_wp2_with fail; refine (hS _ hsl).mono ?_; rintro e w3 ⟨rfl, hbw3⟩; replace B1 := Blk.belowOf B1 hbw3 (by repeat (first | exact B1 | apply Blk.alloc | apply Blk.drew | (apply Blk.far; rotate_left; (first | assumption | exact Ne.symm (by assumption))) | apply Blk.set_))
      replace hsl := hsl.below hbw3
      replace hb := thn hb hbw3
      clear hbw3 hS
      clear cB1_0 cB1_1 cB1_2 fB1
      have cB1_0 := B1.c0; have cB1_1 := B1.c1; have cB1_2 := B1.c2; have fB1 := B1.frozen
      have C1 := B1.alloc (.cells #[.int .i64 p, .int .i64 v, .bool z] 24)
      have C2 := Blk.new w3 24 #[.int .i64 p, .int .i64 v, .bool z]
      have D1 := C1.alloc (.cells #[.int .i64 p, .int .i64 (v + 1), .bool z] 24)
      have D2 := C2.alloc (.cells #[.int .i64 p, .int .i64 (v + 1), .bool z] 24)
      have D3 := Blk.new2 w3 (.cells #[.int .i64 p, .int .i64 v, .bool z] 24) 24 #[.int .i64 p, .int .i64 (v + 1), .bool z]
      have hb3 := alo (alo (Below.refl w3.heap.size w3) (.cells #[.int .i64 p, .int .i64 v, .bool z] 24)) (.cells #[.int .i64 p, .int .i64 (v + 1), .bool z] 24)
      replace hb := thn hb hb3
      replace hsl := hsl.below hb3
      have hwx := IntWalk.i64_in (v + 1) (by omega)
      skip
      clear B1
      obtain ⟨W4, hW4⟩ : ∃ W, (w3.alloc (.cells #[.int .i64 p, .int .i64 v, .bool z] 24)).alloc (.cells #[.int .i64 p, .int .i64 (v + 1), .bool z] 24) = W := ⟨_, rfl⟩
      have E1 := D1
      have E2 := D2
      have E3 := D3
      rw [hW4] at hb hsl E1 E2 E3
      replace hW4 := Lib.hid hW4
      skip
      by_cases hv0 : v = 0
      · have e0 : (v == (0 : Int)) = true := beq_iff_eq.2 hv0
        clear hv0 k3 hT
        by_cases hvq : v = q
        · have e1 : (v == q) = true := beq_iff_eq.2 hvq
          clear hvq k4 hU
          skip
          have cC1_0 := C1.c0; have cC1_1 := C1.c1; have cC1_2 := C1.c2; have fC1 := C1.frozen; have cD1_0 := D1.c0; have cD1_1 := D1.c1; have cD1_2 := D1.c2; have fD1 := D1.frozen; have cD2_0 := D2.c0; have cD2_1 := D2.c1; have cD2_2 := D2.c2; have fD2 := D2.frozen; have cD3_0 := D3.c0; have cD3_1 := D3.c1; have cD3_2 := D3.c2; have fD3 := D3.frozen
          go_wp2_with fail
          go_ret
          exact ⟨rfl, by rw [hW4.out]; exact hb⟩
        · have e1 : (v == q) = false := beq_eq_false_iff_ne.2 hvq
          rw [k4 hvq] at hU
          clear hvq k4
          skip
          have cC1_0 := C1.c0; have cC1_1 := C1.c1; have cC1_2 := C1.c2; have fC1 := C1.frozen; have cD1_0 := D1.c0; have cD1_1 := D1.c1; have cD1_2 := D1.c2; have fD1 := D1.frozen; have cD2_0 := D2.c0; have cD2_1 := D2.c1; have cD2_2 := D2.c2; have fD2 := D2.frozen; have cD3_0 := D3.c0; have cD3_1 := D3.c1; have cD3_2 := D3.c2; have fD3 := D3.frozen
          go_wp2_with fail
          rw [hW4.out]
          clear cC1_0 cC1_1 cC1_2 fC1 cD1_0 cD1_1 cD1_2 fD1 cD2_0 cD2_1 cD2_2 fD2 cD3_0 cD3_1 cD3_2 fD3
          clear C1 D1 D2 D3
          refine (hU _ hsl).mono ?_
          rintro e w4 ⟨rfl, hbw4⟩
          replace hsl := hsl.below hbw4
          replace E1 := E1.below hbw4
          replace E2 := E2.below hbw4
          replace E3 := E3.below hbw4
          replace hb := thn hb hbw4
          clear hbw4
          skip
          skip
          have cE1_0 := E1.c0; have cE1_1 := E1.c1; have cE1_2 := E1.c2; have fE1 := E1.frozen; have cE2_0 := E2.c0; have cE2_1 := E2.c1; have cE2_2 := E2.c2; have fE2 := E2.frozen; have cE3_0 := E3.c0; have cE3_1 := E3.c1; have cE3_2 := E3.c2; have fE3 := E3.frozen
          go_wp2
          go_ret
          exact ⟨rfl, hb⟩
      · have e0 : (v == (0 : Int)) = false := beq_eq_false_iff_ne.2 hv0
        rw [k3 hv0] at hT
        clear hv0 k3
        by_cases hvq : v = q
        · have e1 : (v == q) = true := beq_iff_eq.2 hvq
          clear hvq k4 hU
          skip
          have cC1_0 := C1.c0; have cC1_1 := C1.c1; have cC1_2 := C1.c2; have fC1 := C1.frozen; have cD1_0 := D1.c0; have cD1_1 := D1.c1; have cD1_2 := D1.c2; have fD1 := D1.frozen; have cD2_0 := D2.c0; have cD2_1 := D2.c1; have cD2_2 := D2.c2; have fD2 := D2.frozen; have cD3_0 := D3.c0; have cD3_1 := D3.c1; have cD3_2 := D3.c2; have fD3 := D3.frozen
          go_wp2_with fail
          rw [hW4.out]
          clear cC1_0 cC1_1 cC1_2 fC1 cD1_0 cD1_1 cD1_2 fD1 cD2_0 cD2_1 cD2_2 fD2 cD3_0 cD3_1 cD3_2 fD3
          clear C1 D1 D2 D3
          refine (hT _ hsl).mono ?_
          rintro e w4 ⟨rfl, hbw4⟩
          replace hsl := hsl.below hbw4
          replace E1 := E1.below hbw4
          replace E2 := E2.below hbw4
          replace E3 := E3.below hbw4
          replace hb := thn hb hbw4
          clear hbw4
          skip
          skip
          have cE1_0 := E1.c0; have cE1_1 := E1.c1; have cE1_2 := E1.c2; have fE1 := E1.frozen; have cE2_0 := E2.c0; have cE2_1 := E2.c1; have cE2_2 := E2.c2; have fE2 := E2.frozen; have cE3_0 := E3.c0; have cE3_1 := E3.c1; have cE3_2 := E3.c2; have fE3 := E3.frozen
          go_wp2
          go_ret
          exact ⟨rfl, hb⟩
        · have e1 : (v == q) = false := beq_eq_false_iff_ne.2 hvq
          rw [k4 hvq] at hU
          clear hvq k4
          skip
          have cC1_0 := C1.c0; have cC1_1 := C1.c1; have cC1_2 := C1.c2; have fC1 := C1.frozen; have cD1_0 := D1.c0; have cD1_1 := D1.c1; have cD1_2 := D1.c2; have fD1 := D1.frozen; have cD2_0 := D2.c0; have cD2_1 := D2.c1; have cD2_2 := D2.c2; have fD2 := D2.frozen; have cD3_0 := D3.c0; have cD3_1 := D3.c1; have cD3_2 := D3.c2; have fD3 := D3.frozen
          go_wp2_with fail
          rw [hW4.out]
          clear cC1_0 cC1_1 cC1_2 fC1 cD1_0 cD1_1 cD1_2 fD1 cD2_0 cD2_1 cD2_2 fD2 cD3_0 cD3_1 cD3_2 fD3
          clear C1 D1 D2 D3
          refine (hT _ hsl).mono ?_
          rintro e w4 ⟨rfl, hbw4⟩
          replace hsl := hsl.below hbw4
          replace E1 := E1.below hbw4
          replace E2 := E2.below hbw4
          replace E3 := E3.below hbw4
          replace hb := thn hb hbw4
          clear hbw4
          skip
          skip
          have cE1_0 := E1.c0; have cE1_1 := E1.c1; have cE1_2 := E1.c2; have fE1 := E1.frozen; have cE2_0 := E2.c0; have cE2_1 := E2.c1; have cE2_2 := E2.c2; have fE2 := E2.frozen; have cE3_0 := E3.c0; have cE3_1 := E3.c1; have cE3_2 := E3.c2; have fE3 := E3.frozen
          go_wp2_with fail
          clear cE1_0 cE1_1 cE1_2 fE1 cE2_0 cE2_1 cE2_2 fE2 cE3_0 cE3_1 cE3_2 fE3
          refine (hU _ hsl).mono ?_
          rintro e w5 ⟨rfl, hbw5⟩
          replace hb := thn hb hbw5
          go_wp2
          go_ret
          exact ⟨rfl, hb⟩
  · clear h
    go_enter Try.func4, Try.ntmps4
    go_wp2
    go_ret
    exact ⟨rfl, Below.refl _ _⟩
end Go.Proofs.Ytffhcifeccdfjaa
