/- FnAuditValid: the draw and the law. -/
import Derived.Test.YtffhcifeccdfjaaDAudL
import Derived.Test.YtffhcifeccdfjaaLawMixN
import Derived.Test.YtffhcifeccdfjaaDTouch
import Derived.Test.YtffhcifeccdfjaaAlive
import Derived.StillTailTactics
namespace Go.Proofs.Ytffhcifeccdfjaa
set_option linter.unusedVariables false
set_option linter.unusedSimpArgs false
open Go.RowKit

set_option maxRecDepth 100000 in
set_option maxHeartbeats 1000000 in
theorem drawAuditValid_any (A : Option Addr) (n c : Nat) (zs : List Int) (w : World) (h : Code w A n c zs) :
    Calls Try.prog 32 #[.slice A n c] w (Post audR fun x w' => Own w' w.heap.size 3 1 eI x.2.v x.2.xs ∧ x.2.n ≤ 61 ∧ sml x.2.xs ∧ (-1 ≤ x.1.2 ∧ x.1.2 ≤ 1048573) ∧ Below w.heap.size w w') := by
  obtain ⟨r, hr, hrw⟩ : ∃ r, w.heap.size + 1 = r ∧ w.heap.size < r := ⟨_, rfl, Nat.lt_succ_self _⟩
  have B1 := Blk.new w 58 #[.int .i64 0, .slice none 0 0, .int .i64 0]
  have hopen := open_at r A n c zs (w.alloc (.cells #[.int .i64 0, .slice none 0 0, .int .i64 0] 58)) (h.below ((Below.refl _ _).alloc (Nat.le_refl _) _)) (by simpa using hr)
  clear h
  go_enter Try.func32, Try.ntmps32
  go_wp2_with fail
  refine hopen.mono ?_
  rintro e w0 ⟨rfl, hrd, hb, hsz⟩
  clear hopen
  replace B1 := B1.below (hb.mono (by simp; omega))
  clear hr
  replace hb := ((Below.refl _ _).alloc (Nat.le_refl _) _).trans (hb.mono (Nat.le_of_lt hrw))
  have nB1 := Nat.ne_of_lt hrw
  replace hrw := Nat.le_of_lt hrw
  have hS := Stp.refl hrd
  have hr0 := hrd.lt
  clear hrd
  have hz0 := hb.size
  have hbel := hb
  go_wp2_with fail
  refine (l20Audit_any r 2 _ _ hS.rd (by omega) (by omega)).mono ?_
  rintro e w1 ⟨⟨⟨k, s⟩, ⟨A1, n1, c1, xs⟩⟩, rfl, own1, hn1, hsm, hsb, hs⟩
  simp only [audR, audS, SV.v] at own1 hn1 hsm hsb ⊢
  replace B1 := Blk.stp hs B1 (by omega)
  have hz1 := hs.grown.size
  replace hS := hS.trans hs
  clear hs
  have hBel := hS.belowT (a := w) (B := w.heap.size) hbel (by omega) hbel.size
  have e3 := B1.frozen
  have e4 := B1.c0
  have e5 := B1.c1
  have e6 := B1.c2
  have B1e := ((B1.set_ 0 (.int .i64 k)).set_ 1 (.slice A1 n1 c1)).set_ 2 (.int .i64 s)
  have z0 := B1e.c0
  have z1 := B1e.c1
  have z2 := B1e.c2
  go_wp2
  exact bodyPost_ret (v := audR ((k, s), (SV.mk A1 n1 c1 xs : SV Int))) (by simp [results, Try.results32, go_sem, audR, audS, SV.v, z0, z1, z2]) rfl ⟨((k, s), (SV.mk A1 n1 c1 xs : SV Int)), rfl, (((own1.far (p := ⟨w.heap.size, 0, none⟩) (by simp only []; omega) _).far (p := ⟨w.heap.size, 1, none⟩) (by simp only []; omega) _).far (p := ⟨w.heap.size, 2, none⟩) (by simp only []; omega) _).low (by omega), hn1, hsm, hsb, below_set3 hBel (Nat.le_refl _) _ _ _⟩

theorem audOk_sum {k s : Int} {xs : List Int} (h : audOk k xs s = true) : audOk k xs (s + 1) = false := by
  simp only [audOk, Bool.and_eq_true, decide_eq_true_eq, beq_iff_eq, Bool.and_eq_false_iff, beq_eq_false_iff_ne] at h ⊢
  omega
theorem audOk_set {k s y : Int} {xs : List Int} {q : Nat} (h : audOk k xs s = true) (hy : xs[q]? = some y) (hb : 0 ≤ y ∧ y ≤ 255) : audOk k (xs.set q (bits .xor .i64 y 1)) s = false := by
  simp only [audOk, Bool.and_eq_true, decide_eq_true_eq, beq_iff_eq, inB_true] at h
  obtain ⟨h1, h2, rfl⟩ := h
  simp only [audOk, Bool.and_eq_false_iff, beq_eq_false_iff_ne]
  refine .inr (.inr fun e => ?_)
  exact xor_ne y ⟨by omega, by omega⟩ (mixAll_set k h2 xs q y _ hy e.symm)

theorem Own.cellJ' {w : World} {base g n c T j : Nat} {xs : List Int} (h : Own w base T 1 eI (.slice (some ⟨g, 0, none⟩) n c) xs) (hj : j < n) : ∃ z : Int, w.cell? ⟨g, j, none⟩ = some (.int .i64 z) ∧ w.frozen? ⟨g, j, none⟩ = false ∧ xs[j]? = some z := by
  have sl : Sl w 1 eI (some ⟨g, 0, none⟩) n c xs := (h.okv encI).sl
  obtain ⟨gx, ox, ex, z, hz, hcz⟩ := sl.nth hj (Below.refl _ _)
  injection ex with ex
  injection ex with ex1 ex2
  subst ex1 ex2
  have z0 := hcz 0 _ rfl
  simp only [Nat.mul_one, Nat.add_zero, Nat.zero_add] at z0
  refine ⟨z, z0, ?_, hz⟩
  rcases h.2 with ⟨h1, _⟩ | ⟨g', cap, cur, h1, hb, hgg, _⟩
  · cases h1
  · injection h1 with h2
    injection h2 with h2
    injection h2 with h2 _
    subst h2
    exact Blk.frozen (t := T) (cs := cur) hgg j

set_option maxRecDepth 100000 in
set_option maxHeartbeats 2000000 in
theorem lawAuditValid (A : Option Addr) (n c : Nat) (zs : List Int) (A' : Option Addr) (n' c' : Nat) (zs' : List Int) (w : World) (h : Code w A n c zs) (h' : Code w A' n' c' zs') :
    Calls Try.prog 9 #[.slice A n c, .slice A' n' c'] w fun e w' => .returned (.bool true) = e ∧ Below w.heap.size w w' := by
  have hle := h.le
  have hmax := h.max
  have hle' := h'.le
  have hmax' := h'.max
  by_cases hn : n ≤ 1048576
  · have hnz : ¬ 1048576 < (n : Int) := by omega
    by_cases hn' : n' ≤ 1048576
    · have hnz' : ¬ 1048576 < (n' : Int) := by omega
      have hdraw := drawAuditValid_any A n c zs w h
      clear h h'
      go_enter Try.func9, Try.ntmps9
      go_wp2_with fail
      refine hdraw.mono ?_
      rintro e w1 ⟨⟨⟨k, s⟩, ⟨A1, n1, c1, xs⟩⟩, rfl, own1, hn1, hsm, hsb, hb⟩
      clear hdraw
      simp only [audR, audS, SV.v] at own1 hn1 hsm hsb ⊢
      obtain ⟨A5, c5, hv5, -, -, -⟩ := own1.sl encI
      cases hv5
      have hsl : Sl w1 1 eI A1 xs.length c1 xs := (own1.okv encI).sl
      have hnil : A1 = none → c1 = 0 := (own1.okv encI).nil
      clear own1
      have hle1 := hsl.le
      have hmax1 := hsl.max
      have hI := fun W h => auditValid_any k s A1 xs.length c1 xs W h
      have hS := fun W h => specAuditValid_any k s A1 xs.length c1 xs W h
      have HSM := Lib.hid hsm
      clear hsm
      skip
      have B1 := Blk.new w1 58 #[.int .i64 k, .slice A1 xs.length c1, .int .i64 s]
      have hsl1 := hsl.below ((Below.refl _ _).alloc (Nat.le_refl _) (.cells #[.int .i64 k, .slice A1 xs.length c1, .int .i64 s] 58))
      cases hv : audOk k xs s
      · rw [hv] at hI hS
        clear hv
        have cB1_0 := B1.c0; have cB1_1 := B1.c1; have cB1_2 := B1.c2; have fB1 := B1.frozen
        go_wp2_with fail; refine (hI _ hsl1).mono ?_; rintro e w2 ⟨rfl, hbw2⟩; replace B1 := Blk.belowOf B1 hbw2 (by repeat (first | exact B1 | apply Blk.alloc | apply Blk.drew | (apply Blk.far; rotate_left; (first | assumption | exact Ne.symm (by assumption))) | apply Blk.set_))
        have hsl2 := hsl1.below hbw2
        clear cB1_0 cB1_1 cB1_2 fB1
        have cB1_0 := B1.c0; have cB1_1 := B1.c1; have cB1_2 := B1.c2; have fB1 := B1.frozen
        go_wp2_with fail; refine (hS _ hsl2).mono ?_; rintro e w3 ⟨rfl, hbw3⟩; replace B1 := Blk.belowOf B1 hbw3 (by repeat (first | exact B1 | apply Blk.alloc | apply Blk.drew | (apply Blk.far; rotate_left; (first | assumption | exact Ne.symm (by assumption))) | apply Blk.set_))
        go_wp2_with fail; refine (alive_any _).mono ?_; rintro e w9 ⟨rfl, hbw9⟩; replace B1 := Blk.belowOf B1 hbw9 (by repeat (first | exact B1 | apply Blk.alloc | apply Blk.drew | (apply Blk.far; rotate_left; (first | assumption | exact Ne.symm (by assumption))) | apply Blk.set_))
        go_wp2
        go_ret
        exact ⟨rfl, (by repeat (first | exact Below.refl _ _ | assumption | apply alo | (apply Below.setCell; rotate_left; (first | assumption | exact Nat.le_refl _ | (simp only []; omega))) | apply Below.drew | apply belowDrewN | (refine thn ?_ (by assumption))))⟩
      · rw [hv] at hI hS
        have HV := Lib.hid hv
        clear hv
        have cB1_0 := B1.c0; have cB1_1 := B1.c1; have cB1_2 := B1.c2; have fB1 := B1.frozen
        go_wp2_with fail; refine (hI _ hsl1).mono ?_; rintro e w2 ⟨rfl, hbw2⟩; replace B1 := Blk.belowOf B1 hbw2 (by repeat (first | exact B1 | apply Blk.alloc | apply Blk.drew | (apply Blk.far; rotate_left; (first | assumption | exact Ne.symm (by assumption))) | apply Blk.set_))
        have hsl2 := hsl1.below hbw2
        clear cB1_0 cB1_1 cB1_2 fB1
        have cB1_0 := B1.c0; have cB1_1 := B1.c1; have cB1_2 := B1.c2; have fB1 := B1.frozen
        go_wp2_with fail; refine (hS _ hsl2).mono ?_; rintro e w3 ⟨rfl, hbw3⟩; replace B1 := Blk.belowOf B1 hbw3 (by repeat (first | exact B1 | apply Blk.alloc | apply Blk.drew | (apply Blk.far; rotate_left; (first | assumption | exact Ne.symm (by assumption))) | apply Blk.set_))
        have hB3 : Below w.heap.size w w3 := (by repeat (first | exact Below.refl _ _ | assumption | apply alo | (apply Below.setCell; rotate_left; (first | assumption | exact Nat.le_refl _ | (simp only []; omega))) | apply Below.drew | apply belowDrewN | (refine thn ?_ (by assumption))))
        have hsl3 := hsl2.below hbw3
        clear hI hS hsl hsl1 hsl2 hb hbw2 hbw3
        clear cB1_0 cB1_1 cB1_2 fB1
        have hw := IntWalk.i64_in (s + 1) (by omega)
        have x0 := B1.c0
        have x1 := B1.c1
        have x2 := B1.c2
        have B1a := B1.alloc (.cells #[.int .i64 k, .slice A1 xs.length c1, .int .i64 s] 58)
        have x5 := B1a.c2
        have B7 := Blk.new w3 58 #[.int .i64 k, .slice A1 xs.length c1, .int .i64 s]
        have x6 := B7.c2
        have x7 := B7.frozen
        have B1b := B1.alloc (.cells #[.int .i64 k, .slice A1 xs.length c1, .int .i64 (s + 1)] 58)
        have x8 := B1b.c0
        have x9 := B1b.c1
        have x10 := B1b.c2
        have B1c := (B1b.alloc (.cells #[.int .i64 k, .slice A1 xs.length c1, .int .i64 s] 58)).alloc (.cells #[] 3)
        have x11 := B1c.c1
        have B7c := ((Blk.new w3 58 #[.int .i64 k, .slice A1 xs.length c1, .int .i64 (s + 1)]).alloc (.cells #[.int .i64 k, .slice A1 xs.length c1, .int .i64 s] 58)).alloc (.cells #[] 3)
        have B8c := (Blk.new2 w3 (.cells #[.int .i64 k, .slice A1 xs.length c1, .int .i64 (s + 1)] 58) 58 #[.int .i64 k, .slice A1 xs.length c1, .int .i64 s]).alloc (.cells #[] 3)
        have own0 : Own (((w3.alloc (.cells #[.int .i64 k, .slice A1 xs.length c1, .int .i64 (s + 1)] 58)).alloc (.cells #[.int .i64 k, .slice A1 xs.length c1, .int .i64 s] 58)).alloc (.cells #[] 3)) (w3.heap.size + 2) 3 1 eI (.slice (some ⟨w3.heap.size + 1 + 1, 0, none⟩) 0 0) ([] : List Int) := by
          have h := Own.of_blk (base := w3.heap.size + 2) (xs := ([] : List Int)) (enc := eI) (Blk.new ((w3.alloc (.cells #[.int .i64 k, .slice A1 xs.length c1, .int .i64 (s + 1)] 58)).alloc (.cells #[.int .i64 k, .slice A1 xs.length c1, .int .i64 s] 58)) 3 #[]) (by simp) encI (by simp [maxLen])
          simpa using h
        have src := hsl3.below (alo (alo (alo (Below.refl w3.heap.size w3) (.cells #[.int .i64 k, .slice A1 xs.length c1, .int .i64 (s + 1)] 58)) (.cells #[.int .i64 k, .slice A1 xs.length c1, .int .i64 s] 58)) (.cells #[] 3))
        have hbc := alo (alo (alo (Below.refl w3.heap.size w3) (.cells #[.int .i64 k, .slice A1 xs.length c1, .int .i64 (s + 1)] 58)) (.cells #[.int .i64 k, .slice A1 xs.length c1, .int .i64 s] 58)) (.cells #[] 3)
        have hw13 : w1.heap.size < w3.heap.size := B1.lt
        have hB3s := hB3.size
        by_cases hx : 0 < xs.length
        · have hxz : (0 : Int) < (xs.length : Int) := by omega
          have hx0 : ((xs.length : Int) == 0) = false := by rw [beq_eq_false_iff_ne]; omega
          go_wp2_with (at_builtin; refine app_own rfl _ _ appInt rfl encI (w3.heap.size + 2) _ [] rfl own0 _ _ _ xs rfl hnil src (by simp; omega) (by simp) ?_; intro v5 w5 own5 hg5; have hB5 := belowApp hbc own0 hg5 (by omega) hbc.size; have B1d := B1c.app own0 hg5 (by omega); have B7d := B7c.app own0 hg5 (by omega); have B8d := B8c.app own0 hg5 (by omega); clear hg5 own0 src B1c B7c B8c B1b B1a B7 x0 x1 x2 x5 x6 x7 x8 x9 x10 x11 hbc; simp only [List.nil_append] at own5; obtain ⟨A9, c9, rfl, -, -, -⟩ := own5.sl encI; have e0 := B8d.c1; have e1 := B8d.frozen; have B1e := B1d.far (p := ⟨w3.heap.size + 1, 1, none⟩) (by simp only []; omega) (.slice A9 xs.length c9); have B7e := B7d.far (p := ⟨w3.heap.size + 1, 1, none⟩) (by simp) (.slice A9 xs.length c9); have B8e := B8d.set_ 1 (.slice A9 xs.length c9); have own6 := own5.far (p := ⟨w3.heap.size + 1, 1, none⟩) (by simp only []; omega) (.slice A9 xs.length c9); have hB6 := hB5.setCell (p := ⟨w3.heap.size + 1, 1, none⟩) (by simp only []; omega) (.slice A9 xs.length c9); have e2 := B1e.c1)
          generalize w5.setCell ⟨w3.heap.size + 1, 1, none⟩ (.slice A9 xs.length c9) = w6 at *
          clear B1d B7d B8d own5 hB5 e0 e1 e2
          obtain ⟨g, cg, hv9, hg0, hg1, -, -⟩ := own6.form hx
          cases hv9
          obtain ⟨q, hq⟩ : ∃ q, n' % xs.length = q := ⟨_, rfl⟩
          have hqn : q < xs.length := by rw [← hq]; exact Nat.mod_lt _ hx
          obtain ⟨y, z0, zf, hyq⟩ := own6.cellJ' hqn
          have htm : (n' : Int).tmod (xs.length : Int) = (q : Int) := by rw [Int.tmod_eq_emod_of_nonneg (by omega), ← hq]; exact (Int.natCast_emod _ _).symm
          have hnn : ¬ xs.length = 0 := by omega
          have hqz : (q : Int) < (xs.length : Int) := by omega
          have hyb := HSM.out y (List.mem_of_getElem? hyq)
          have HD := Lib.hid (audOk_set HV.out hyq hyb)
          clear hq hyq
          have e1 := B1e.c1
          have e8 := B8e.c1
          go_still_tail 19, (by kernel_rfl)
          change wpList _ _ _ _ _ w6.drew
          replace B1e := B1e.drew
          replace B7e := B7e.drew
          replace B8e := B8e.drew
          replace own6 := own6.drew
          replace hB6 := hB6.drew
          replace zf : w6.drew.frozen? ⟨g, q, none⟩ = _ := zf
          replace z0 : w6.drew.cell? ⟨g, q, none⟩ = _ := z0
          clear e1 e8
          generalize w6.drew = w7 at *
          obtain ⟨z, hz⟩ : ∃ z, bits .xor .i64 y 1 = z := ⟨_, rfl⟩
          rw [hz] at HD ⊢
          clear hz
          have own7 := own6.setI q z
          have B1f := B1e.far (p := ⟨g, q, none⟩) (by simp only []; omega) (.int .i64 z)
          have B7f := B7e.far (p := ⟨g, q, none⟩) (by simp only []; omega) (.int .i64 z)
          have B8f := B8e.far (p := ⟨g, q, none⟩) (by simp only []; omega) (.int .i64 z)
          have hB7 := hB6.setCell (p := ⟨g, q, none⟩) (by simp only []; omega) (.int .i64 z)
          have hI := auditValid_any k (s + 1) A1 xs.length c1 xs _ (hsl3.below hB7)
          rw [audOk_sum HV.out] at hI
          have t0 := B7f.c0
          have t1 := B7f.c1
          have t2 := B7f.c2
          clear B1e B7e B8e own6 hB6
          go_wp2_with fail
          generalize w7.setCell ⟨g, q, none⟩ (.int .i64 z) = w8 at *
          refine hI.mono ?_
          rintro e w9 ⟨rfl, hb9⟩
          clear hI t0 t1 t2
          have hB9 := thn hB7 hb9
          replace B1f := B1f.below hb9
          replace B8f := B8f.below hb9
          replace own7 := own7.below hb9
          clear hB7 hb9 z0 zf
          have t1 := B1f.c1
          have t3 := B8f.c0
          have t4 := B8f.c1
          have t5 := B8f.c2
          have hJ := auditValid_any k s (some ⟨g, 0, none⟩) xs.length c9 (xs.set q z) _ (own7.okv encI).sl
          rw [HD.out] at hJ
          go_wp2_with fail
          refine hJ.mono ?_
          rintro e w10 ⟨rfl, hb10⟩
          go_wp2
          go_ret
          exact ⟨rfl, hB3.trans ((thn hB9 hb10).mono hB3.size)⟩
        · have hxz : ¬ (0 : Int) < (xs.length : Int) := by omega
          have hx0 : ((xs.length : Int) == 0) = true := by rw [beq_iff_eq]; omega
          go_wp2_with (at_builtin; refine app_own rfl _ _ appInt rfl encI (w3.heap.size + 2) _ [] rfl own0 _ _ _ xs rfl hnil src (by simp; omega) (by simp) ?_; intro v5 w5 own5 hg5; have hB5 := belowApp hbc own0 hg5 (by omega) hbc.size; have B1d := B1c.app own0 hg5 (by omega); have B7d := B7c.app own0 hg5 (by omega); have B8d := B8c.app own0 hg5 (by omega); clear hg5 own0 src B1c B7c B8c B1b B1a B7 x0 x1 x2 x5 x6 x7 x8 x9 x10 x11 hbc; simp only [List.nil_append] at own5; obtain ⟨A9, c9, rfl, -, -, -⟩ := own5.sl encI; have e0 := B8d.c1; have e1 := B8d.frozen; have B1e := B1d.far (p := ⟨w3.heap.size + 1, 1, none⟩) (by simp only []; omega) (.slice A9 xs.length c9); have B7e := B7d.far (p := ⟨w3.heap.size + 1, 1, none⟩) (by simp) (.slice A9 xs.length c9); have B8e := B8d.set_ 1 (.slice A9 xs.length c9); have own6 := own5.far (p := ⟨w3.heap.size + 1, 1, none⟩) (by simp only []; omega) (.slice A9 xs.length c9); have hB6 := hB5.setCell (p := ⟨w3.heap.size + 1, 1, none⟩) (by simp only []; omega) (.slice A9 xs.length c9); have e2 := B1e.c1; have g0 := B7e.c0; have g1 := B7e.c1; have g2 := B7e.c2)
          generalize w5.setCell ⟨w3.heap.size + 1, 1, none⟩ (.slice A9 xs.length c9) = w6 at *
          have hI := auditValid_any k (s + 1) A1 xs.length c1 xs _ (hsl3.below hB6)
          rw [audOk_sum HV.out] at hI
          clear g0 g1 g2 e0 e1 e2
          refine hI.mono ?_
          rintro e w9 ⟨rfl, hb9⟩
          replace B1e := B1e.below hb9
          have e2 := B1e.c1
          clear hI
          go_wp2
          go_ret
          exact ⟨rfl, hB3.trans ((thn hB6 hb9).mono hB3.size)⟩
    · have hnz' : 1048576 < (n' : Int) := by omega
      go_enter Try.func9, Try.ntmps9
      go_wp2
      go_ret
      exact ⟨rfl, Below.refl _ _⟩
  · have hnz : 1048576 < (n : Int) := by omega
    go_enter Try.func9, Try.ntmps9
    go_wp2
    go_ret
    exact ⟨rfl, Below.refl _ _⟩
end Go.Proofs.Ytffhcifeccdfjaa
