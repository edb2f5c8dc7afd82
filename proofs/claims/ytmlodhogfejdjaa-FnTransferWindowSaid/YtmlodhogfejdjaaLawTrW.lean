/- The walk of FnTransferWindow. -/
import Derived.Test.YtmlodhogfejdjaaMeet
import Derived.Test.YtmlodhogfejdjaaTrPart
import Derived.Test.YtmlodhogfejdjaaAlive
import Derived.Test.YtmlodhogfejdjaaRel
namespace Go.Proofs.Ytmlodhogfejdjaa
open Go.RowKit

theorem one_win (W : World) (g : Nat) (b s : Int) (z : Bool) (h : Blk W g 35 #[.int .i64 b, .int .i64 s, .bool z]) : Sl W 3 Win.cells (some ⟨g, 0, none⟩) 1 1 [⟨b, s, z⟩] :=
  Sl.of_blk (xs := [⟨b, s, z⟩]) h encW (by simp)
def relW4 (p : Nat) (b s : Int) (z ok : Bool) : Nat → Value → World → Prop
  | 0, v, _ => v = .agg #[.int .i64 b, .int .i64 s, .bool z]
  | 1, v, W => ∃ g, v = .slice (some ⟨g, 0, none⟩) 1 1 ∧ Blk W g 35 #[.int .i64 b, .int .i64 s, .bool z]
  | 2, v, _ => v = .bool ok
  | 3, v, _ => v = .agg #[.int .i64 b, .int .i64 s, .bool z]
  | 4, v, W => ∃ g, v = .slice (some ⟨g, 0, none⟩) 1 1 ∧ Blk W g 35 #[.int .i64 b, .int .i64 s, .bool z]
  | 5, v, _ => v = .bool ok
  | _, _, _ => True
theorem relW4_below (p : Nat) (b s : Int) (z ok : Bool) {i : Nat} {v : Value} {w w' : World} (h : relW4 p b s z ok i v w) (hb : Below w.heap.size w w') : relW4 p b s z ok i v w' := by
  match i, h with
  | 0, h => exact h
  | 1, ⟨g, e, B⟩ => exact ⟨g, e, B.below hb⟩
  | 2, h => exact h
  | 3, h => exact h
  | 4, ⟨g, e, B⟩ => exact ⟨g, e, B.below hb⟩
  | 5, h => exact h
  | n + 6, _ => trivial

def relW8 (p : Nat) (b s : Int) (z : Bool) : Nat → Value → World → Prop
  | 0, v, _ => v = .agg #[.int .i64 b, .int .i64 s, .bool z]
  | 1, v, W => ∃ g, v = .slice (some ⟨g, 0, none⟩) 1 1 ∧ Blk W g 35 #[.int .i64 b, .int .i64 s, .bool z]
  | 2, v, _ => v = .pointer (some ⟨p, 0, none⟩)
  | 3, v, _ => v = .int .i64 b
  | 4, v, _ => v = .pointer (some ⟨p, 1, none⟩)
  | 5, v, _ => v = .int .i64 s
  | 6, v, _ => v = .agg #[.int .i64 b, .int .i64 s, .bool false]
  | 7, v, _ => v = .bool true
  | 8, v, _ => v = .bool true
  | 9, v, _ => v = .agg #[.int .i64 b, .int .i64 s, .bool z]
  | 10, v, W => ∃ g, v = .slice (some ⟨g, 0, none⟩) 1 1 ∧ Blk W g 35 #[.int .i64 b, .int .i64 s, .bool z]
  | 11, v, _ => v = .pointer (some ⟨p, 0, none⟩)
  | 12, v, _ => v = .int .i64 b
  | 13, v, _ => v = .pointer (some ⟨p, 1, none⟩)
  | 14, v, _ => v = .int .i64 s
  | 15, v, _ => v = .agg #[.int .i64 b, .int .i64 s, .bool true]
  | 16, v, _ => v = .bool z
  | 17, v, _ => v = .pointer (some ⟨p, 2, none⟩)
  | 18, v, _ => v = .bool z
  | 19, v, _ => v = .bool true
  | _, _, _ => True
theorem relW8_below (p : Nat) (b s : Int) (z : Bool) {i : Nat} {v : Value} {w w' : World} (h : relW8 p b s z i v w) (hb : Below w.heap.size w w') : relW8 p b s z i v w' := by
  match i, h with
  | 0, h => exact h
  | 1, ⟨g, e, B⟩ => exact ⟨g, e, B.below hb⟩
  | 2, h => exact h
  | 3, h => exact h
  | 4, h => exact h
  | 5, h => exact h
  | 6, h => exact h
  | 7, h => exact h
  | 8, h => exact h
  | 9, h => exact h
  | 10, ⟨g, e, B⟩ => exact ⟨g, e, B.below hb⟩
  | 11, h => exact h
  | 12, h => exact h
  | 13, h => exact h
  | 14, h => exact h
  | 15, h => exact h
  | 16, h => exact h
  | 17, h => exact h
  | 18, h => exact h
  | 19, h => exact h
  | n + 20, _ => trivial

theorem windowAt_one {x : Win} (h : x.ok = true) (p : Int) (z : Bool) (h1 : x.base ≤ p) (h2 : p ≤ x.base + x.size - 1) : windowAt [x] p z = if x.wr || !z then 0 else -1 := by
  unfold windowAt winsOk
  have : Win.has x p = true := by unfold Win.has; exact inB_true.2 ⟨h1, h2⟩
  simp only [List.length_singleton, List.all_cons, List.all_nil, h, Bool.and_self, Bool.and_true]
  rw [if_pos (by simp)]
  cases hz : (x.wr || !z)
  · simp [idxP, atP, this, hz]
  · simp [idxP, atP, this, hz]
theorem trAllowed_one {x : Win} (h : x.ok = true) (hs : x.size ≤ 64) (z : Bool) : trAllowed [x] x.base x.size z = (x.wr || !z) := by
  have hk := Win.ok_true.1 h
  have ht : trOk x.base x.size = true := by unfold trOk; rw [inB_true.2 (by omega), inB_true.2 (by omega)]; rfl
  have hw : winsOk [x] = true := by simp [winsOk, h]
  unfold trAllowed trPart
  rw [ht, hw, Bool.true_and, Bool.and_self, if_pos rfl]
  obtain ⟨m, hm⟩ : ∃ m : Nat, x.size = (m : Int) := ⟨x.size.toNat, by omega⟩
  rw [hm, Int.toNat_natCast]
  have hat := fun j (hj : j < m) => windowAt_one h (x.base + (j : Int)) z (by omega) (by omega)
  cases hz : (x.wr || !z)
  · rw [hz] at hat
    have := part_stop (xs := [x]) (p := x.base) (z := z) (m := m) (kk := 0) (Nat.zero_le _) (fun j hj => absurd hj (Nat.not_lt_zero _)) (fun h0 => by rw [hat 0 h0]; decide)
    rw [this, beq_eq_false_iff_ne]
    omega
  · rw [hz] at hat
    have := part_stop (xs := [x]) (p := x.base) (z := z) (m := m) (kk := m) (Nat.le_refl _) (fun j hj => by rw [hat j hj]; decide) (fun h0 => absurd h0 (Nat.lt_irrefl _))
    rw [this, beq_self_eq_true]

set_option maxRecDepth 100000 in
set_option maxHeartbeats 2000000 in
theorem lawTransferWindow (A : Option Addr) (n c : Nat) (zs : List Int) (w : World) (h : Code w A n c zs) :
    Calls Try.prog 8 #[.slice A n c] w fun e w' => .returned (.bool true) = e ∧ Below w.heap.size w w' := by
  have hle := h.le
  have hmax := h.max
  by_cases hn : n ≤ 1048576
  · have hdraw := drawWindowsMeet_any A n c zs w h
    clear h
    go_enter Try.func8, Try.ntmps8
    go_wp2_with fail
    refine hdraw.mono ?_
    rintro e w1 ⟨⟨x, y⟩, rfl, _, _, hb⟩
    clear hdraw
    have hI := fun W A h => windowsValid_any A 1 1 [x] W h
    have hS := fun W A h => specWindowsValid_any A 1 1 [x] W h
    have hR := fun W A h => transferAllowed_any A 1 1 [x] x.base x.size false W h
    have hT := fun W A h => transferAllowed_any A 1 1 [x] x.base x.size true W h
    have hv : winsOk [x] = x.ok := by simp [winsOk]
    rw [hv] at hI hS
    have HK := Lib.hid (@trAllowed_one x)
    obtain ⟨xb, xs, xw⟩ := x
    obtain ⟨yb, ys, yw⟩ := y
    simp only [win2V, winV, trCells] at hI hS hR hT ⊢
    have HO := Lib.hid (fun h : Win.ok ⟨xb, xs, xw⟩ = true => Win.ok_true.1 h)
    generalize Win.ok ⟨xb, xs, xw⟩ = ok at *
    have B1 := (Blk.new w1 35 #[.int .i64 xb, .int .i64 xs, .bool xw]).alloc (.cells #[.int .i64 yb, .int .i64 ys, .bool yw] 35)
    replace hb := alo (alo hb (.cells #[.int .i64 xb, .int .i64 xs, .bool xw] 35)) (.cells #[.int .i64 yb, .int .i64 ys, .bool yw] 35)
    go_wp2_with fail
    generalize (w1.alloc (.cells #[.int .i64 xb, .int .i64 xs, .bool xw] 35)).alloc (.cells #[.int .i64 yb, .int .i64 ys, .bool yw] 35) = W1 at *
    refine region_rel (by kernel_rfl) (fun i v w => relW4 w1.heap.size xb xs xw ok i v w) (fun w w' => Below w.heap.size w w') (fun _ w' => Below W1.heap.size W1 w') 6 _ W1 (by kernel_rfl) (by kernel_rfl) (fun i v w w' h hb => relW4_below w1.heap.size xb xs xw ok h hb) (fun w => Below.refl _ _) (fun _ _ _ _ h => h) (show Below W1.heap.size W1 W1.drew from (Below.refl _ _).drew) ?_ ?_
    · intro i o him ho a wa cc hcc hJ hfr hdep
      have B1 := B1.below hJ
      have cB1_0 := B1.c0; have cB1_1 := B1.c1; have cB1_2 := B1.c2; have fB1 := B1.frozen
      match i, ho, him with
      | 0, ho, _ =>
        injection ho with ho
        subst ho
        have h3 := hfr.2.2 3 (drawFr_spec (by kernel_rfl))
        clear hdep hfr
        simp only [Array.getD_eq_getD_getElem?] at h3
        refine .inl ⟨rfl, ?_⟩
        unfold Oper.wp
        go_simp
        exact LeavesR.val rfl (Below.refl _ _) hJ
      | 1, ho, _ =>
        injection ho with ho
        subst ho
        have h13 := hdep ⟨0, .data⟩ (by simp) (by kernel_rfl) _ 13 rfl rfl
        clear hdep hfr
        replace h13 : a.tmps.getD 13 undef = .agg #[.int .i64 xb, .int .i64 xs, .bool xw] := h13
        simp only [Array.getD_eq_getD_getElem?] at h13
        refine .inl ⟨rfl, ?_⟩
        unfold Oper.wp
        go_simp
        exact LeavesR.val ⟨_, rfl, Blk.new wa _ _⟩ (alo (Below.refl _ _) _) (alo hJ _)
      | 2, ho, _ =>
        injection ho with ho
        subst ho
        have h14 := hdep ⟨1, .data⟩ (by simp) (by kernel_rfl) _ 14 rfl rfl
        clear hdep hfr
        obtain ⟨g14, h14, N14⟩ := h14
        simp only [Array.getD_eq_getD_getElem?] at h14
        refine .inl ⟨rfl, ?_⟩
        unfold Oper.wp
        go_simp
        refine (hI _ _ (one_win _ _ _ _ _ N14)).mono ?_
        rintro e wb ⟨rfl, hb'⟩
        exact LeavesR.val rfl hb' (thn hJ hb')
      | 3, ho, _ =>
        injection ho with ho
        subst ho
        have h3 := hfr.2.2 3 (drawFr_spec (by kernel_rfl))
        clear hdep hfr
        simp only [Array.getD_eq_getD_getElem?] at h3
        refine .inl ⟨rfl, ?_⟩
        unfold Oper.wp
        go_simp
        exact LeavesR.val rfl (Below.refl _ _) hJ
      | 4, ho, _ =>
        injection ho with ho
        subst ho
        have h16 := hdep ⟨3, .data⟩ (by simp) (by kernel_rfl) _ 16 rfl rfl
        clear hdep hfr
        replace h16 : a.tmps.getD 16 undef = .agg #[.int .i64 xb, .int .i64 xs, .bool xw] := h16
        simp only [Array.getD_eq_getD_getElem?] at h16
        refine .inl ⟨rfl, ?_⟩
        unfold Oper.wp
        go_simp
        exact LeavesR.val ⟨_, rfl, Blk.new wa _ _⟩ (alo (Below.refl _ _) _) (alo hJ _)
      | 5, ho, _ =>
        injection ho with ho
        subst ho
        have h17 := hdep ⟨4, .data⟩ (by simp) (by kernel_rfl) _ 17 rfl rfl
        clear hdep hfr
        obtain ⟨g17, h17, N17⟩ := h17
        simp only [Array.getD_eq_getD_getElem?] at h17
        refine .inl ⟨rfl, ?_⟩
        unfold Oper.wp
        go_simp
        refine (hS _ _ (one_win _ _ _ _ _ N17)).mono ?_
        rintro e wb ⟨rfl, hb'⟩
        exact LeavesR.val rfl hb' (thn hJ hb')
      | n + 6, _, him => exact absurd him (by omega)
    · intro V w2 hV hJ
      have hV0 := hV 0 _ 13 (by decide) rfl rfl
      replace hV0 : V 0 = .agg #[.int .i64 xb, .int .i64 xs, .bool xw] := hV0
      obtain ⟨_, hV1, _⟩ := hV 1 _ 14 (by decide) rfl rfl
      have hV2 := hV 2 _ 15 (by decide) rfl rfl
      replace hV2 : V 2 = .bool ok := hV2
      have hV3 := hV 3 _ 16 (by decide) rfl rfl
      replace hV3 : V 3 = .agg #[.int .i64 xb, .int .i64 xs, .bool xw] := hV3
      obtain ⟨_, hV4, _⟩ := hV 4 _ 17 (by decide) rfl rfl
      have hV5 := hV 5 _ 18 (by decide) rfl rfl
      replace hV5 : V 5 = .bool ok := hV5
      clear hV
      simp only [puts, List.drop, Act.put, hV0, hV1, hV2, hV3, hV4, hV5]
      clear hV0 hV1 hV2 hV3 hV4 hV5
      replace B1 := B1.below hJ
      replace hb := thn hb hJ
      clear hJ hI
      have hV := hS _ _ (one_win _ _ _ _ _ (Blk.new w2 35 #[.int .i64 xb, .int .i64 xs, .bool xw]))
      clear hS
      skip
      skip
      have cB1_0 := B1.c0; have cB1_1 := B1.c1; have cB1_2 := B1.c2; have fB1 := B1.frozen
      cases ok
      · clear hR hT HK HO
        go_wp2_with fail; refine (hV).mono ?_; rintro e w3 ⟨rfl, hbw3⟩; replace B1 := Blk.belowOf B1 hbw3 (by repeat (first | exact B1 | apply Blk.alloc | apply Blk.drew | (apply Blk.far; rotate_left; (first | assumption | exact Ne.symm (by assumption))) | apply Blk.set_))
        replace hb := thn (alo hb _) hbw3
        go_wp2_with fail; refine (alive_any _).mono ?_; rintro e w4 ⟨rfl, hbw4⟩; replace B1 := Blk.belowOf B1 hbw4 (by repeat (first | exact B1 | apply Blk.alloc | apply Blk.drew | (apply Blk.far; rotate_left; (first | assumption | exact Ne.symm (by assumption))) | apply Blk.set_))
        go_wp2
        go_ret
        exact ⟨rfl, thn hb hbw4⟩
      · obtain ⟨k1, k2, k3, k4⟩ := HO.out rfl
        by_cases h64 : 64 < xs
        · clear hR hT HK HO
          go_wp2_with fail; refine (hV).mono ?_; rintro e w3 ⟨rfl, hbw3⟩; replace B1 := Blk.belowOf B1 hbw3 (by repeat (first | exact B1 | apply Blk.alloc | apply Blk.drew | (apply Blk.far; rotate_left; (first | assumption | exact Ne.symm (by assumption))) | apply Blk.set_))
          replace hb := thn (alo hb _) hbw3
          clear cB1_0 cB1_1 cB1_2 fB1
          have cB1_0 := B1.c0; have cB1_1 := B1.c1; have cB1_2 := B1.c2; have fB1 := B1.frozen
          go_wp2_with fail; refine (alive_any _).mono ?_; rintro e w4 ⟨rfl, hbw4⟩; replace B1 := Blk.belowOf B1 hbw4 (by repeat (first | exact B1 | apply Blk.alloc | apply Blk.drew | (apply Blk.far; rotate_left; (first | assumption | exact Ne.symm (by assumption))) | apply Blk.set_))
          go_wp2
          go_ret
          exact ⟨rfl, thn hb hbw4⟩
        · have hK := HK.out rfl (by omega)
          have e1 := hK false
          have e2 := hK true
          rw [e1] at hR
          rw [e2] at hT
          simp only [Bool.not_false, Bool.or_true, Bool.not_true, Bool.or_false] at hR hT
          clear HK HO hK e1 e2
          go_wp2_with fail; refine (hV).mono ?_; rintro e w3 ⟨rfl, hbw3⟩; replace B1 := Blk.belowOf B1 hbw3 (by repeat (first | exact B1 | apply Blk.alloc | apply Blk.drew | (apply Blk.far; rotate_left; (first | assumption | exact Ne.symm (by assumption))) | apply Blk.set_))
          replace hb := thn (alo hb _) hbw3
          clear hV hbw3
          clear cB1_0 cB1_1 cB1_2 fB1
          have cB1_0 := B1.c0; have cB1_1 := B1.c1; have cB1_2 := B1.c2; have fB1 := B1.frozen
          go_wp2_with fail
          clear cB1_0 cB1_1 cB1_2 fB1
          refine region_rel (by kernel_rfl) (fun i v w => relW8 w1.heap.size xb xs xw i v w) (fun w w' => Below w.heap.size w w') (fun _ w' => Below w3.heap.size w3 w') 20 _ w3 (by kernel_rfl) (by kernel_rfl) (fun i v w w' h hb => relW8_below w1.heap.size xb xs xw h hb) (fun w => Below.refl _ _) (fun _ _ _ _ h => h) (show Below w3.heap.size w3 w3.drew from (Below.refl _ _).drew) ?_ ?_
          · intro i o him ho a wa cc hcc hJ hfr hdep
            have B1 := B1.below hJ
            have cB1_0 := B1.c0; have cB1_1 := B1.c1; have cB1_2 := B1.c2; have fB1 := B1.frozen
            match i, ho, him with
            | 0, ho, _ =>
              injection ho with ho
              subst ho
              have h3 := hfr.2.2 3 (drawFr_spec (by kernel_rfl))
              clear hdep hfr
              simp only [Array.getD_eq_getD_getElem?] at h3
              refine .inl ⟨rfl, ?_⟩
              unfold Oper.wp
              go_simp
              exact LeavesR.val rfl (Below.refl _ _) hJ
            | 1, ho, _ =>
              injection ho with ho
              subst ho
              have h30 := hdep ⟨0, .data⟩ (by simp) (by kernel_rfl) _ 30 rfl rfl
              clear hdep hfr
              replace h30 : a.tmps.getD 30 undef = .agg #[.int .i64 xb, .int .i64 xs, .bool xw] := h30
              simp only [Array.getD_eq_getD_getElem?] at h30
              refine .inl ⟨rfl, ?_⟩
              unfold Oper.wp
              go_simp
              exact LeavesR.val ⟨_, rfl, Blk.new wa _ _⟩ (alo (Below.refl _ _) _) (alo hJ _)
            | 2, ho, _ =>
              injection ho with ho
              subst ho
              have h3 := hfr.2.2 3 (drawFr_spec (by kernel_rfl))
              clear hdep hfr
              simp only [Array.getD_eq_getD_getElem?] at h3
              refine .inl ⟨rfl, ?_⟩
              unfold Oper.wp
              go_simp
              exact LeavesR.val rfl (Below.refl _ _) hJ
            | 3, ho, _ =>
              injection ho with ho
              subst ho
              have h32 := hdep ⟨2, .data⟩ (by simp) (by kernel_rfl) _ 32 rfl rfl
              clear hdep hfr
              replace h32 : a.tmps.getD 32 undef = .pointer (some ⟨w1.heap.size, 0, none⟩) := h32
              simp only [Array.getD_eq_getD_getElem?] at h32
              refine .inl ⟨rfl, ?_⟩
              unfold Oper.wp
              go_simp
              exact LeavesR.val rfl (Below.refl _ _) hJ
            | 4, ho, _ =>
              injection ho with ho
              subst ho
              have h3 := hfr.2.2 3 (drawFr_spec (by kernel_rfl))
              clear hdep hfr
              simp only [Array.getD_eq_getD_getElem?] at h3
              refine .inl ⟨rfl, ?_⟩
              unfold Oper.wp
              go_simp
              exact LeavesR.val rfl (Below.refl _ _) hJ
            | 5, ho, _ =>
              injection ho with ho
              subst ho
              have h34 := hdep ⟨4, .data⟩ (by simp) (by kernel_rfl) _ 34 rfl rfl
              clear hdep hfr
              replace h34 : a.tmps.getD 34 undef = .pointer (some ⟨w1.heap.size, 1, none⟩) := h34
              simp only [Array.getD_eq_getD_getElem?] at h34
              refine .inl ⟨rfl, ?_⟩
              unfold Oper.wp
              go_simp
              exact LeavesR.val rfl (Below.refl _ _) hJ
            | 6, ho, _ =>
              injection ho with ho
              subst ho
              have h33 := hdep ⟨3, .data⟩ (by simp) (by kernel_rfl) _ 33 rfl rfl
              have h35 := hdep ⟨5, .data⟩ (by simp) (by kernel_rfl) _ 35 rfl rfl
              clear hdep hfr
              replace h33 : a.tmps.getD 33 undef = .int .i64 xb := h33
              simp only [Array.getD_eq_getD_getElem?] at h33
              replace h35 : a.tmps.getD 35 undef = .int .i64 xs := h35
              simp only [Array.getD_eq_getD_getElem?] at h35
              refine .inl ⟨rfl, ?_⟩
              unfold Oper.wp
              go_simp
              exact LeavesR.val rfl (Below.refl _ _) hJ
            | 7, ho, _ =>
              injection ho with ho
              subst ho
              have h31 := hdep ⟨1, .data⟩ (by simp) (by kernel_rfl) _ 31 rfl rfl
              have h36 := hdep ⟨6, .data⟩ (by simp) (by kernel_rfl) _ 36 rfl rfl
              clear hdep hfr
              obtain ⟨g31, h31, N31⟩ := h31
              simp only [Array.getD_eq_getD_getElem?] at h31
              replace h36 : a.tmps.getD 36 undef = .agg #[.int .i64 xb, .int .i64 xs, .bool false] := h36
              simp only [Array.getD_eq_getD_getElem?] at h36
              refine .inl ⟨rfl, ?_⟩
              unfold Oper.wp
              go_simp
              refine (hR _ _ (one_win _ _ _ _ _ N31)).mono ?_
              rintro e wb ⟨rfl, hb'⟩
              exact LeavesR.val rfl hb' (thn hJ hb')
            | 8, ho, _ =>
              injection ho with ho
              subst ho
              have h37 := hdep ⟨7, .data⟩ (by simp) (by kernel_rfl) _ 37 rfl rfl
              clear hdep hfr
              replace h37 : a.tmps.getD 37 undef = .bool true := h37
              simp only [Array.getD_eq_getD_getElem?] at h37
              refine .inl ⟨rfl, ?_⟩
              unfold Oper.wp
              go_simp
              exact LeavesR.val rfl (Below.refl _ _) hJ
            | 9, ho, _ =>
              injection ho with ho
              subst ho
              have hG := hdep ⟨8, .guard⟩ (by simp) (by kernel_rfl) _ 38 rfl rfl
              have h3 := hfr.2.2 3 (drawFr_spec (by kernel_rfl))
              clear hdep hfr
              replace hG : a.tmps.getD 38 undef = .bool true := hG
              simp only [Array.getD_eq_getD_getElem?] at h3
              refine .inl ⟨wanted_of rfl rfl rfl hG, ?_⟩
              clear hG
              unfold Oper.wp
              go_simp
              exact LeavesR.val rfl (Below.refl _ _) hJ
            | 10, ho, _ =>
              injection ho with ho
              subst ho
              have hG := hdep ⟨8, .guard⟩ (by simp) (by kernel_rfl) _ 38 rfl rfl
              have h39 := hdep ⟨9, .data⟩ (by simp) (by kernel_rfl) _ 39 rfl rfl
              clear hdep hfr
              replace hG : a.tmps.getD 38 undef = .bool true := hG
              replace h39 : a.tmps.getD 39 undef = .agg #[.int .i64 xb, .int .i64 xs, .bool xw] := h39
              simp only [Array.getD_eq_getD_getElem?] at h39
              refine .inl ⟨wanted_of rfl rfl rfl hG, ?_⟩
              clear hG
              unfold Oper.wp
              go_simp
              exact LeavesR.val ⟨_, rfl, Blk.new wa _ _⟩ (alo (Below.refl _ _) _) (alo hJ _)
            | 11, ho, _ =>
              injection ho with ho
              subst ho
              have hG := hdep ⟨8, .guard⟩ (by simp) (by kernel_rfl) _ 38 rfl rfl
              have h3 := hfr.2.2 3 (drawFr_spec (by kernel_rfl))
              clear hdep hfr
              replace hG : a.tmps.getD 38 undef = .bool true := hG
              simp only [Array.getD_eq_getD_getElem?] at h3
              refine .inl ⟨wanted_of rfl rfl rfl hG, ?_⟩
              clear hG
              unfold Oper.wp
              go_simp
              exact LeavesR.val rfl (Below.refl _ _) hJ
            | 12, ho, _ =>
              injection ho with ho
              subst ho
              have hG := hdep ⟨8, .guard⟩ (by simp) (by kernel_rfl) _ 38 rfl rfl
              have h41 := hdep ⟨11, .data⟩ (by simp) (by kernel_rfl) _ 41 rfl rfl
              clear hdep hfr
              replace hG : a.tmps.getD 38 undef = .bool true := hG
              replace h41 : a.tmps.getD 41 undef = .pointer (some ⟨w1.heap.size, 0, none⟩) := h41
              simp only [Array.getD_eq_getD_getElem?] at h41
              refine .inl ⟨wanted_of rfl rfl rfl hG, ?_⟩
              clear hG
              unfold Oper.wp
              go_simp
              exact LeavesR.val rfl (Below.refl _ _) hJ
            | 13, ho, _ =>
              injection ho with ho
              subst ho
              have hG := hdep ⟨8, .guard⟩ (by simp) (by kernel_rfl) _ 38 rfl rfl
              have h3 := hfr.2.2 3 (drawFr_spec (by kernel_rfl))
              clear hdep hfr
              replace hG : a.tmps.getD 38 undef = .bool true := hG
              simp only [Array.getD_eq_getD_getElem?] at h3
              refine .inl ⟨wanted_of rfl rfl rfl hG, ?_⟩
              clear hG
              unfold Oper.wp
              go_simp
              exact LeavesR.val rfl (Below.refl _ _) hJ
            | 14, ho, _ =>
              injection ho with ho
              subst ho
              have hG := hdep ⟨8, .guard⟩ (by simp) (by kernel_rfl) _ 38 rfl rfl
              have h43 := hdep ⟨13, .data⟩ (by simp) (by kernel_rfl) _ 43 rfl rfl
              clear hdep hfr
              replace hG : a.tmps.getD 38 undef = .bool true := hG
              replace h43 : a.tmps.getD 43 undef = .pointer (some ⟨w1.heap.size, 1, none⟩) := h43
              simp only [Array.getD_eq_getD_getElem?] at h43
              refine .inl ⟨wanted_of rfl rfl rfl hG, ?_⟩
              clear hG
              unfold Oper.wp
              go_simp
              exact LeavesR.val rfl (Below.refl _ _) hJ
            | 15, ho, _ =>
              injection ho with ho
              subst ho
              have hG := hdep ⟨8, .guard⟩ (by simp) (by kernel_rfl) _ 38 rfl rfl
              have h42 := hdep ⟨12, .data⟩ (by simp) (by kernel_rfl) _ 42 rfl rfl
              have h44 := hdep ⟨14, .data⟩ (by simp) (by kernel_rfl) _ 44 rfl rfl
              clear hdep hfr
              replace hG : a.tmps.getD 38 undef = .bool true := hG
              replace h42 : a.tmps.getD 42 undef = .int .i64 xb := h42
              simp only [Array.getD_eq_getD_getElem?] at h42
              replace h44 : a.tmps.getD 44 undef = .int .i64 xs := h44
              simp only [Array.getD_eq_getD_getElem?] at h44
              refine .inl ⟨wanted_of rfl rfl rfl hG, ?_⟩
              clear hG
              unfold Oper.wp
              go_simp
              exact LeavesR.val rfl (Below.refl _ _) hJ
            | 16, ho, _ =>
              injection ho with ho
              subst ho
              have hG := hdep ⟨8, .guard⟩ (by simp) (by kernel_rfl) _ 38 rfl rfl
              have h40 := hdep ⟨10, .data⟩ (by simp) (by kernel_rfl) _ 40 rfl rfl
              have h45 := hdep ⟨15, .data⟩ (by simp) (by kernel_rfl) _ 45 rfl rfl
              clear hdep hfr
              replace hG : a.tmps.getD 38 undef = .bool true := hG
              obtain ⟨g40, h40, N40⟩ := h40
              simp only [Array.getD_eq_getD_getElem?] at h40
              replace h45 : a.tmps.getD 45 undef = .agg #[.int .i64 xb, .int .i64 xs, .bool true] := h45
              simp only [Array.getD_eq_getD_getElem?] at h45
              refine .inl ⟨wanted_of rfl rfl rfl hG, ?_⟩
              clear hG
              unfold Oper.wp
              go_simp
              refine (hT _ _ (one_win _ _ _ _ _ N40)).mono ?_
              rintro e wb ⟨rfl, hb'⟩
              exact LeavesR.val rfl hb' (thn hJ hb')
            | 17, ho, _ =>
              injection ho with ho
              subst ho
              have hG := hdep ⟨8, .guard⟩ (by simp) (by kernel_rfl) _ 38 rfl rfl
              have h3 := hfr.2.2 3 (drawFr_spec (by kernel_rfl))
              clear hdep hfr
              replace hG : a.tmps.getD 38 undef = .bool true := hG
              simp only [Array.getD_eq_getD_getElem?] at h3
              refine .inl ⟨wanted_of rfl rfl rfl hG, ?_⟩
              clear hG
              unfold Oper.wp
              go_simp
              exact LeavesR.val rfl (Below.refl _ _) hJ
            | 18, ho, _ =>
              injection ho with ho
              subst ho
              have hG := hdep ⟨8, .guard⟩ (by simp) (by kernel_rfl) _ 38 rfl rfl
              have h47 := hdep ⟨17, .data⟩ (by simp) (by kernel_rfl) _ 47 rfl rfl
              clear hdep hfr
              replace hG : a.tmps.getD 38 undef = .bool true := hG
              replace h47 : a.tmps.getD 47 undef = .pointer (some ⟨w1.heap.size, 2, none⟩) := h47
              simp only [Array.getD_eq_getD_getElem?] at h47
              refine .inl ⟨wanted_of rfl rfl rfl hG, ?_⟩
              clear hG
              unfold Oper.wp
              go_simp
              exact LeavesR.val rfl (Below.refl _ _) hJ
            | 19, ho, _ =>
              injection ho with ho
              subst ho
              have hG := hdep ⟨8, .guard⟩ (by simp) (by kernel_rfl) _ 38 rfl rfl
              have h46 := hdep ⟨16, .data⟩ (by simp) (by kernel_rfl) _ 46 rfl rfl
              have h48 := hdep ⟨18, .data⟩ (by simp) (by kernel_rfl) _ 48 rfl rfl
              clear hdep hfr
              replace hG : a.tmps.getD 38 undef = .bool true := hG
              replace h46 : a.tmps.getD 46 undef = .bool xw := h46
              simp only [Array.getD_eq_getD_getElem?] at h46
              replace h48 : a.tmps.getD 48 undef = .bool xw := h48
              simp only [Array.getD_eq_getD_getElem?] at h48
              refine .inl ⟨wanted_of rfl rfl rfl hG, ?_⟩
              clear hG
              unfold Oper.wp
              go_simp
              exact LeavesR.val rfl (Below.refl _ _) hJ
            | n + 20, _, him => exact absurd him (by omega)
          · intro V w5 hV hJ
            have hV0 := hV 0 _ 30 (by decide) rfl rfl
            replace hV0 : V 0 = .agg #[.int .i64 xb, .int .i64 xs, .bool xw] := hV0
            obtain ⟨_, hV1, _⟩ := hV 1 _ 31 (by decide) rfl rfl
            have hV2 := hV 2 _ 32 (by decide) rfl rfl
            replace hV2 : V 2 = .pointer (some ⟨w1.heap.size, 0, none⟩) := hV2
            have hV3 := hV 3 _ 33 (by decide) rfl rfl
            replace hV3 : V 3 = .int .i64 xb := hV3
            have hV4 := hV 4 _ 34 (by decide) rfl rfl
            replace hV4 : V 4 = .pointer (some ⟨w1.heap.size, 1, none⟩) := hV4
            have hV5 := hV 5 _ 35 (by decide) rfl rfl
            replace hV5 : V 5 = .int .i64 xs := hV5
            have hV6 := hV 6 _ 36 (by decide) rfl rfl
            replace hV6 : V 6 = .agg #[.int .i64 xb, .int .i64 xs, .bool false] := hV6
            have hV7 := hV 7 _ 37 (by decide) rfl rfl
            replace hV7 : V 7 = .bool true := hV7
            have hV8 := hV 8 _ 38 (by decide) rfl rfl
            replace hV8 : V 8 = .bool true := hV8
            have hV9 := hV 9 _ 39 (by decide) rfl rfl
            replace hV9 : V 9 = .agg #[.int .i64 xb, .int .i64 xs, .bool xw] := hV9
            obtain ⟨_, hV10, _⟩ := hV 10 _ 40 (by decide) rfl rfl
            have hV11 := hV 11 _ 41 (by decide) rfl rfl
            replace hV11 : V 11 = .pointer (some ⟨w1.heap.size, 0, none⟩) := hV11
            have hV12 := hV 12 _ 42 (by decide) rfl rfl
            replace hV12 : V 12 = .int .i64 xb := hV12
            have hV13 := hV 13 _ 43 (by decide) rfl rfl
            replace hV13 : V 13 = .pointer (some ⟨w1.heap.size, 1, none⟩) := hV13
            have hV14 := hV 14 _ 44 (by decide) rfl rfl
            replace hV14 : V 14 = .int .i64 xs := hV14
            have hV15 := hV 15 _ 45 (by decide) rfl rfl
            replace hV15 : V 15 = .agg #[.int .i64 xb, .int .i64 xs, .bool true] := hV15
            have hV16 := hV 16 _ 46 (by decide) rfl rfl
            replace hV16 : V 16 = .bool xw := hV16
            have hV17 := hV 17 _ 47 (by decide) rfl rfl
            replace hV17 : V 17 = .pointer (some ⟨w1.heap.size, 2, none⟩) := hV17
            have hV18 := hV 18 _ 48 (by decide) rfl rfl
            replace hV18 : V 18 = .bool xw := hV18
            have hV19 := hV 19 _ 49 (by decide) rfl rfl
            replace hV19 : V 19 = .bool true := hV19
            clear hV
            simp only [puts, List.drop, Act.put, hV0, hV1, hV2, hV3, hV4, hV5, hV6, hV7, hV8, hV9, hV10, hV11, hV12, hV13, hV14, hV15, hV16, hV17, hV18, hV19]
            clear hV0 hV1 hV2 hV3 hV4 hV5 hV6 hV7 hV8 hV9 hV10 hV11 hV12 hV13 hV14 hV15 hV16 hV17 hV18 hV19
            replace B1 := B1.below hJ
            replace hb := thn hb hJ
            go_wp2
            go_ret
            exact ⟨rfl, hb⟩
  · clear h
    go_enter Try.func8, Try.ntmps8
    go_wp2
    go_ret
    exact ⟨rfl, Below.refl _ _⟩
end Go.Proofs.Ytmlodhogfejdjaa
