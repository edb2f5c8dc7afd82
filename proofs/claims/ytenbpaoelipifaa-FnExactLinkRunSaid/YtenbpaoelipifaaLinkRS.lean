/- LinkRun of spec. -/
import Derived.Test.YtenbpaoelipifaaLinkR
import Derived.Test.YtenbpaoelipifaaLinkS
import Derived.Deep.CutRange
import Derived.Deep.RegionHeld3
namespace Go.Proofs.Ytenbpaoelipifaa
set_option linter.unusedVariables false
set_option linter.unusedSimpArgs false
open Go.RowKit

theorem pktsOk_mono : ∀ (xs : List (Int × Int)) (a b : Int), pktsOk a xs = true → b ≤ a → pktsOk b xs = true
  | [], _, _, _, _ => rfl
  | (d, v) :: l, a, b, h, hb => by
    simp only [pktsOk, Bool.and_eq_true, inB_true] at h ⊢
    exact ⟨⟨by omega, h.1.2⟩, h.2⟩
theorem pktsOk_drop : ∀ (m : Nat) (xs : List (Int × Int)) (a : Int), pktsOk a xs = true → 0 ≤ a → pktsOk 0 (xs.drop m) = true
  | _, [], a, _, _ => by simp [pktsOk]
  | 0, x :: l, a, h, ha => pktsOk_mono _ a 0 h ha
  | m + 1, (d, v) :: l, a, h, ha => by
    simp only [pktsOk, Bool.and_eq_true, inB_true] at h
    exact pktsOk_drop m l d h.2.2 (by omega)
theorem LK.run {d : Int} {vs : List Int} {xs : List (Int × Int)} {t : Nat} (h : LK d xs t) (ht : t ≤ 1000) (hv : ∀ v, vs[t]? = some v → inB v 0 255 = true) : LK d (runS d vs xs t) t ∧ ∀ v, vs[t]? = some v → lkSend d xs t v = sentL d xs t v := by
  have hx : ∀ v, inB v 0 255 = true → lkSend d xs t v = sentL d xs t v := fun v h9 => by
    unfold lkSend
    rw [h.1, inB_true.2 (show 0 ≤ (t : Int) ∧ (t : Int) ≤ 100000 by omega), h9]
    rfl
  refine ⟨?_, fun v h9 => hx v (hv v h9)⟩
  unfold runS
  cases hq : vs[t]? with
  | none => exact h
  | some v =>
    simp only []
    have hr := hv v hq
    by_cases h20 : xs.length < 20
    · have h9 := h.send (Int.le_refl _) (show 0 ≤ (t : Int) ∧ (t : Int) ≤ 1000 by omega) (inB_true.1 hr) h20
      rw [hx v hr] at h9
      rw [h9.1]
      exact h9.2
    · have hl : xs.length = 20 := by
        have := h.1
        unfold linkOk at this
        simp only [Bool.and_eq_true, decide_eq_true_eq] at this
        omega
      have : sentL d xs t v = ((d, xs), false) := by unfold sentL fullL; rw [decide_eq_true hl]; rfl
      rw [this]
      exact h
theorem LK.drop {d a : Int} {xs : List (Int × Int)} (h : LK d xs a) (m : Nat) : LK d (xs.drop m) (a + 1) := by
  obtain ⟨h1, h2⟩ := h
  unfold linkOk at h1
  simp only [Bool.and_eq_true, decide_eq_true_eq] at h1
  refine ⟨?_, fun p hp => by have := h2 p (List.mem_of_mem_drop hp); omega⟩
  unfold linkOk
  simp only [Bool.and_eq_true, decide_eq_true_eq]
  exact ⟨pktsOk_drop m xs 0 h1.1 (Int.le_refl _), h1.2.1, by rw [List.length_drop]; omega⟩
theorem LK.runL {d : Int} {vs : List Int} (hd : 0 ≤ d ∧ d ≤ 50) : ∀ t : Nat, t ≤ 1000 → (∀ (j : Nat) v, j < t → vs[j]? = some v → inB v 0 255 = true) → LK d (runL d vs t).1 t
  | 0, _, _ => ⟨by simp [Go.Proofs.Ytenbpaoelipifaa.runL, linkOk, pktsOk, inB_true, hd], fun p hp => by simp [Go.Proofs.Ytenbpaoelipifaa.runL] at hp⟩
  | t + 1, ht, hv => by
    have h := LK.runL hd t (by omega) (fun j v hj => hv j v (by omega))
    have h1 := (h.run (vs := vs) (by omega) (fun v => hv t v (by omega))).1
    exact h1.drop _
set_option maxRecDepth 100000 in
set_option maxHeartbeats 4000000 in
theorem specLinkRun_any (d : Int) (A : Option Addr) (n c : Nat) (vs : List Int) (w : World) (hs : Sl w 1 eI A n c vs) :
    Calls Try.prog 37 #[.int .i64 d, .slice A n c] w (Post (fun v => v) fun v w' => Own w' w.heap.size 3 1 eI v (linkRun d vs) ∧ Below w.heap.size w w') := by
  have hle := hs.le
  have hmax := hs.max
  have HL := Lib.hid hs.len
  have hI := fun x y z W => l1In_any x y z W
  have hE := Own.of_blk (base := w.heap.size) (xs := ([] : List Int)) (enc := eI) (Blk.new w 3 #[]) (Nat.le_refl _) encI (by simp [maxLen])
  have hb0 := alo (Below.refl w.heap.size w) (.cells #[] 3)
  simp only [List.length_nil] at hE
  cases h1 : inB d 0 50
  · have hI0 := hI d 0 50
    rw [h1] at hI0
    have hz : linkRun d vs = [] := by unfold linkRun; rw [h1]; rfl
    rw [hz]
    go_enter Try.func37, Try.ntmps37
    go_wp2_with fail
    refine (hI0 _).mono ?_; rintro e w' ⟨rfl, rfl⟩
    go_wp2
    go_ret
    exact ⟨_, rfl, hE, hb0⟩
  · have hI0 := hI d 0 50
    rw [h1] at hI0
    by_cases hn : (n : Int) ≤ 40
    · have h2 : decide ((vs.length : Int) ≤ 40) = true := by rw [HL.out]; exact decide_eq_true hn
      have hd := inB_true.1 h1
      clear h1
      obtain ⟨hd0, hd1⟩ := hd
      obtain ⟨D, rfl⟩ : ∃ D : Nat, d = (D : Int) := ⟨d.toNat, by omega⟩
      have hn40 : n ≤ 40 := by omega
      have hd50 : D ≤ 50 := by omega
      obtain ⟨M, hM⟩ : ∃ M, n + D = M := ⟨_, rfl⟩
      have hM90 : M ≤ 90 := by omega
      have hsum : (n : Int) + (D : Int) = (M : Int) := by omega
      replace hM := Lib.hid hM
      obtain ⟨res, hres⟩ : ∃ res, linkRun (D : Int) vs = res := ⟨_, rfl⟩
      rw [hres]
      replace hres := Lib.hid hres
      replace h2 := Lib.hid h2
      go_enter Try.func37, Try.ntmps37
      go_wp2_with fail
      refine (hI0 _).mono ?_; rintro e w' ⟨rfl, rfl⟩
      have B6 := Blk.new (w.alloc (.cells #[] 3)) 29 #[.int .i64 (D : Int), .slice none 0 0]
      have own0 := hE.alloc (.cells #[.int .i64 (D : Int), .slice none 0 0] 29)
      have hb2 := alo hb0 (.cells #[.int .i64 (D : Int), .slice none 0 0] 29)
      clear hI0
      have hsz : (w.alloc (.cells #[] 3)).heap.size = w.heap.size + 1 := by simp
      rw [hsz] at B6
      clear hsz
      go_wp2_with fail
      go_loopg [5, 7] M (fun gg s5 s7 wr => ∃ (kk : Nat) (v : Value) (A5 : Option Addr) (n5 c5 : Nat), kk ≤ M ∧ M - kk ≤ gg ∧ s5 = v ∧ s7 = .int .i64 kk ∧ Aside (Below w.heap.size w wr) ∧ Aside (Blk wr (w.heap.size + 1) 29 #[.int .i64 (D : Int), .slice A5 n5 c5]) ∧ Aside (Own wr w.heap.size 75 2 eS (.slice A5 n5 c5) (runL D vs kk).1) ∧ Aside (Own wr w.heap.size 3 1 eI v (runL D vs kk).2) ∧ Aside (∀ (j : Nat) x, j < kk → vs[j]? = some x → inB x 0 255 = true))
      case atStart => exact ⟨0, _, none, 0, 0, Nat.zero_le _, by omega, rfl, rfl, (show Aside _ from hb2), (show Aside _ from B6), (show Aside _ from Own.nil), (show Aside _ from own0), (show Aside _ from fun j x hj => absurd hj (Nat.not_lt_zero _))⟩
      case round =>
        obtain ⟨kk, v, A5, n5, c5, hkk, hg, hv5, rfl, BW, BB, OP, OW, AA⟩ := hrel
        subst hv5
        clear B6 hb2 own0
        have B6 := BB.out
        have ownP := OP.out
        have own5 := OW.out
        have hbw := BW.out
        clear BB OP OW BW
        skip
        skip
        have cB6_0 := B6.c0; have cB6_1 := B6.c1; have fB6 := B6.frozen
        by_cases hlt : kk < M
        · have hltz : (kk : Int) < (M : Int) := by omega
          go_upto_if 35 with fail
          go_cut [5, 7] from 24 to 63 (fun s5 s7 wx => s7 = .int .i64 kk ∧ ∃ (A7 : Option Addr) (n7 c7 : Nat), Aside (Below w.heap.size w wx) ∧ Aside (Blk wx (w.heap.size + 1) 29 #[.int .i64 (D : Int), .slice A7 n7 c7]) ∧ Aside (Own wx w.heap.size 75 2 eS (.slice A7 n7 c7) (runS D vs (runL D vs kk).1 kk)) ∧ Aside (Own wx w.heap.size 3 1 eI s5 (runL D vs kk).2) ∧ Aside (∀ x, vs[kk]? = some x → inB x 0 255 = true))
          case first =>
            by_cases hlv : kk < n
            · have hlvz : (kk : Int) < (n : Int) := by omega
              obtain ⟨bb, oo, rfl, y, hx, hc⟩ := hs.nth hlv hbw
              have hc0 := hc 0 _ rfl
              simp only [eI, Nat.add_zero, Nat.mul_one] at hc0
              clear hc
              have hI1 := hI y 0 255
              have hbl := World.block_lt_of_cell? _ _ hc0
              cases hy : inB y 0 255
              · rw [hy] at hI1
                have hz : res = [] := by
                  rw [← hres.out]
                  unfold linkRun
                  have h9 : vs.all (fun v => inB v 0 255) = false := by
                    rw [List.all_eq_false]
                    exact ⟨y, List.mem_of_getElem? hx, by rw [hy]; exact Bool.false_ne_true⟩
                  rw [h9, Bool.and_false, Bool.and_false]
                  rfl
                clear hx
                have hE2 := Own.of_blk (base := w.heap.size) (xs := ([] : List Int)) (enc := eI) (Blk.new wr 3 #[]) hbw.size encI (by simp [maxLen])
                simp only [List.length_nil] at hE2
                go_wp2_with fail
                refine (hI1 _).mono ?_; rintro e w' ⟨rfl, rfl⟩
                go_wp2
                go_ret
                exact ⟨_, rfl, by rw [hz]; exact hE2, alo hbw _⟩
              · rw [hy] at hI1
                have HX := Lib.hid hx
                have HY := Lib.hid hy
                have hLK := LK.runL (d := (D : Int)) (vs := vs) ⟨hd0, hd1⟩ kk (by omega) AA.out
                have hsend := (hLK.run (vs := vs) (by omega) (fun v h9 => by rw [hx] at h9; injection h9 with h9; rw [← h9]; exact hy)).2 y hx
                have HS := Lib.hid (show runS D vs (runL D vs kk).1 kk = (sentL D (runL D vs kk).1 kk y).1.2 by unfold runS; rw [hx])
                replace hsend := Lib.hid hsend
                obtain ⟨A5', c5', hvv, hA5, hsl5, -⟩ := ownP.sl encS
                injection hvv with e1 e2 e3
                subst e1 e3
                have hn5 : n5 ≤ 20 := by rw [e2]; exact (runL_len D vs kk).1
                rw [← e2] at hsl5
                have hsd := fun W (hW : Below wr.heap.size wr W) => specLinkSend_any (D : Int) A5 n5 c5 _ (kk : Int) y (by omega) hA5.1 W (hsl5.below hW)
                simp only [linkV] at hsd
                clear hx hy hLK e2
                have hz6 := B6.lt
                have hy1 : ¬ w.heap.size + 1 = wr.heap.size := by omega
                have hy2 : ¬ wr.heap.size = w.heap.size + 1 := by omega
                have hbl2 : bb < wr.heap.size := hbl
                have hy3 : ¬ bb = wr.heap.size := by omega
                have hy4 : ¬ wr.heap.size = bb := by omega
                go_wp2_with fail
                refine (hI1 _).mono ?_; rintro e w' ⟨rfl, rfl⟩
                go_wp2_with fail
                go_region_held3 (fun w' => w'.cell? ⟨w.heap.size + 1, 0, none⟩ = some (.int .i64 (D : Int)) ∧ w'.cell? ⟨w.heap.size + 1, 1, none⟩ = some (.slice A5 n5 c5) ∧ w'.cell? ⟨bb, oo + kk, none⟩ = some (.int .i64 y)) (go_keep) (first | (go_at_call 43; refine (hsd _ (by with_reducible (repeat (first | exact Below.refl _ _ | apply Below.drew | apply alo)))).mono ?_; rintro e w3 ⟨⟨⟨dS, l7⟩, v7, okS⟩, rfl, own7, hr7, hb3⟩; simp only [lsV] at own7 hr7 ⊢; rw [hsend.out] at hr7; have hdS : dS = (D : Int) := (congrArg (fun z => z.1.1) hr7).trans (sentL_d _ _ _ _); subst hdS; have HL7 := Lib.hid (show l7 = runS D vs (runL D vs kk).1 kk from (congrArg (fun z => z.1.2) hr7).trans HS.out.symm); clear hr7; have hbx : Below wr.heap.size wr w3 := thn (by with_reducible (repeat (first | exact Below.refl _ _ | apply Below.drew | apply alo))) hb3; obtain ⟨A7, c7, rfl, -, -, -⟩ := own7.sl encS; replace own7 := own7.low (Nat.le_trans hbw.size (Below.size (B := wr.heap.size) (by with_reducible (repeat (first | exact Below.refl _ _ | apply Below.drew | apply alo))))); have B6x := B6.below hbx; have cB6x_0 := B6x.c0; have cB6x_1 := B6x.c1; have fB6x := B6x.frozen; have q0 := (hbx.cell (p := ⟨bb, oo + kk, none⟩) hbl).trans hc0; try (have Bn : Blk w3 wr.heap.size 29 #[.int .i64 0, .slice none 0 0] := (((Blk.new wr 29 #[.int .i64 0, .slice none 0 0]).drew).below hb3); have x0 := Bn.c0; have x1 := Bn.c1; have x2 := Bn.frozen); have hz7 := hbx.size; have hy5 : ¬ w.heap.size + 1 = w3.heap.size := Nat.ne_of_lt (Nat.lt_of_lt_of_le hz6 hz7); have hy6 : ¬ w3.heap.size = w.heap.size + 1 := fun h => hy5 h.symm; have hy7 : ¬ bb = w3.heap.size := Nat.ne_of_lt (Nat.lt_of_lt_of_le hbl2 hz7); have hy8 : ¬ w3.heap.size = bb := fun h => hy7 h.symm))
                · have B8 := Blk.new w3 29 #[.int .i64 (D : Int), .slice A7 l7.length c7]
                  have B6y := B6x.alloc (.cells #[.int .i64 (D : Int), .slice A7 l7.length c7] 29)
                  have own7y := own7.alloc (.cells #[.int .i64 (D : Int), .slice A7 l7.length c7] 29)
                  have own5y := (own5.below hbx).alloc (.cells #[.int .i64 (D : Int), .slice A7 l7.length c7] 29)
                  have hby := alo (thn hbw hbx) (.cells #[.int .i64 (D : Int), .slice A7 l7.length c7] 29)
                  have hne : ¬ w.heap.size + 1 = w3.heap.size := Nat.ne_of_lt (Nat.lt_of_lt_of_le hz6 hbx.size)
                  generalize w3.alloc (.cells #[.int .i64 (D : Int), .slice A7 l7.length c7] 29) = w8 at *
                  generalize w3.heap.size = gx at *
                  clear cB6x_0 cB6x_1 fB6x q0 hbx own7 B6x
                  have x3 := B8.c0
                  have x4 := B8.c1
                  have x5 := B6y.c0
                  have x6 := B6y.c1
                  have x7 := B6y.frozen
                  clear hsd hc0 hbl cB6_0 cB6_1 fB6
                  go_wp2_with fail
                  go_meet
                  case rel => exact ⟨rfl, A7, l7.length, c7, (show Aside _ from (hby.setCell (p := ⟨w.heap.size + 1, 0, none⟩) (by simp only []; omega) (.int .i64 (D : Int))).setCell (p := ⟨w.heap.size + 1, 1, none⟩) (by simp only []; omega) (.slice A7 l7.length c7)), (show Aside _ from (B6y.set_ 0 (.int .i64 (D : Int))).set_ 1 (.slice A7 l7.length c7)), (show Aside _ from by rw [← HL7.out]; exact (own7y.farNe (p := ⟨w.heap.size + 1, 0, none⟩) (own7y.neBlk B6y (by decide)) (.int .i64 (D : Int))).farNe (p := ⟨w.heap.size + 1, 1, none⟩) (own7y.neBlk B6y (by decide)) (.slice A7 l7.length c7)), (show Aside _ from (own5y.farNe (p := ⟨w.heap.size + 1, 0, none⟩) (own5y.neBlk B6y (by decide)) (.int .i64 (D : Int))).farNe (p := ⟨w.heap.size + 1, 1, none⟩) (own5y.neBlk B6y (by decide)) (.slice A7 l7.length c7)), (show Aside _ from fun x hx => by rw [HX.out] at hx; injection hx with hx; rw [← hx]; exact HY.out)⟩
                · have Bn : Blk w3 wr.heap.size 29 #[.int .i64 0, .slice none 0 0] := by assumption
                  have B8 : Blk ((w3.setCell ⟨wr.heap.size, 0, none⟩ (.int .i64 (D : Int))).setCell ⟨wr.heap.size, 1, none⟩ (.slice A7 l7.length c7)) wr.heap.size 29 #[.int .i64 (D : Int), .slice A7 l7.length c7] := (Bn.set_ 0 _).set_ 1 _
                  have B6y := (B6x.far (p := ⟨wr.heap.size, 0, none⟩) hy1 (.int .i64 (D : Int))).far (p := ⟨wr.heap.size, 1, none⟩) hy1 (.slice A7 l7.length c7)
                  have own7y := (own7.farNe (p := ⟨wr.heap.size, 0, none⟩) (own7.neBlk Bn (by decide)) (.int .i64 (D : Int))).farNe (p := ⟨wr.heap.size, 1, none⟩) (own7.neBlk Bn (by decide)) (.slice A7 l7.length c7)
                  have own5z := own5.below hbx
                  have own5y := (own5z.farNe (p := ⟨wr.heap.size, 0, none⟩) (own5z.neBlk Bn (by decide)) (.int .i64 (D : Int))).farNe (p := ⟨wr.heap.size, 1, none⟩) (own5z.neBlk Bn (by decide)) (.slice A7 l7.length c7)
                  have hby := ((thn hbw hbx).setCell (p := ⟨wr.heap.size, 0, none⟩) hbw.size (.int .i64 (D : Int))).setCell (p := ⟨wr.heap.size, 1, none⟩) hbw.size (.slice A7 l7.length c7)
                  have hne := hy1
                  clear own5z
                  generalize (w3.setCell ⟨wr.heap.size, 0, none⟩ (.int .i64 (D : Int))).setCell ⟨wr.heap.size, 1, none⟩ (.slice A7 l7.length c7) = w8 at *
                  generalize wr.heap.size = gx at *
                  clear cB6x_0 cB6x_1 fB6x q0 hbx own7 B6x Bn
                  have x3 := B8.c0
                  have x4 := B8.c1
                  have x5 := B6y.c0
                  have x6 := B6y.c1
                  have x7 := B6y.frozen
                  clear hsd hc0 hbl cB6_0 cB6_1 fB6
                  go_wp2_with fail
                  go_meet
                  case rel => exact ⟨rfl, A7, l7.length, c7, (show Aside _ from (hby.setCell (p := ⟨w.heap.size + 1, 0, none⟩) (by simp only []; omega) (.int .i64 (D : Int))).setCell (p := ⟨w.heap.size + 1, 1, none⟩) (by simp only []; omega) (.slice A7 l7.length c7)), (show Aside _ from (B6y.set_ 0 (.int .i64 (D : Int))).set_ 1 (.slice A7 l7.length c7)), (show Aside _ from by rw [← HL7.out]; exact (own7y.farNe (p := ⟨w.heap.size + 1, 0, none⟩) (own7y.neBlk B6y (by decide)) (.int .i64 (D : Int))).farNe (p := ⟨w.heap.size + 1, 1, none⟩) (own7y.neBlk B6y (by decide)) (.slice A7 l7.length c7)), (show Aside _ from (own5y.farNe (p := ⟨w.heap.size + 1, 0, none⟩) (own5y.neBlk B6y (by decide)) (.int .i64 (D : Int))).farNe (p := ⟨w.heap.size + 1, 1, none⟩) (own5y.neBlk B6y (by decide)) (.slice A7 l7.length c7)), (show Aside _ from fun x hx => by rw [HX.out] at hx; injection hx with hx; rw [← hx]; exact HY.out)⟩
            · have hlvz : ¬ (kk : Int) < (n : Int) := by omega
              go_wp2_with fail
              go_meet
              case rel => exact ⟨rfl, A5, n5, c5, (show Aside _ from hbw), (show Aside _ from B6), (show Aside _ from by unfold runS; rw [List.getElem?_eq_none (by rw [HL.out]; omega)]; exact ownP), (show Aside _ from own5), (show Aside _ from fun x hx => by rw [List.getElem?_eq_none (by rw [HL.out]; omega)] at hx; cases hx)⟩
          case rest =>
            obtain ⟨hs7, A7, n7, c7, BW, BB, OP, OW, AY⟩ := hcut
            subst hs7
            clear B6 ownP own5 hbw cB6_0 cB6_1 fB6
            have B6 := BB.out
            have ownP := OP.out
            have own5 := OW.out
            have hbw := BW.out
            clear BB OP OW BW
            have hLK := LK.runL (d := (D : Int)) (vs := vs) ⟨hd0, hd1⟩ kk (by omega) AA.out
            have hLR := (hLK.run (vs := vs) (by omega) AY.out).1
            have hlt9 := Lib.hid (show linkTake (D : Int) (runS D vs (runL D vs kk).1 kk) (kk : Int) = (((D : Int), (runL D vs (kk + 1)).1), takenL (runS D vs (runL D vs kk).1 kk) kk) by
              unfold linkTake
              rw [hLR.1, inB_true.2 (show 0 ≤ (kk : Int) ∧ (kk : Int) ≤ 100000 by omega)]
              rfl)
            have HL9 := Lib.hid (show (runL D vs (kk + 1)).2 = (runL D vs kk).2 ++ takenL (runS D vs (runL D vs kk).1 kk) kk from rfl)
            have AB := Lib.hid (show ∀ (j : Nat) x, j < kk + 1 → vs[j]? = some x → inB x 0 255 = true from fun j x hj hx => by
              by_cases e : j = kk
              · subst e; exact AY.out x hx
              · exact AA.out j x (by omega) hx)
            clear hLK hLR AY AA
            obtain ⟨A7', c7', hvv, hA7, hsl7, -⟩ := ownP.sl encS
            injection hvv with e1 e2 e3
            subst e1 e3
            have hn7 : n7 ≤ 20 := by rw [e2]; exact runS_len (runL_len D vs kk).1
            rw [← e2] at hsl7
            have htk := specLinkTake_any (D : Int) A7 n7 c7 _ (kk : Int) (by omega) hA7.1 wc hsl7
            simp only [linkV] at htk
            clear e2 hsl7 ownP hA7
            skip
            have cB6_0 := B6.c0; have cB6_1 := B6.c1; have fB6 := B6.frozen
            go_wp2_with fail
            refine htk.mono ?_
            rintro e w9 ⟨⟨⟨⟨d8, l8⟩, l9⟩, v8, v9⟩, rfl, own8, own9, hr9, hb9⟩
            simp only [lstV] at own8 own9 hr9 ⊢
            rw [hlt9.out] at hr9
            obtain rfl : d8 = (D : Int) := congrArg (fun z => z.1.1) hr9
            obtain rfl : l8 = (runL D vs (kk + 1)).1 := congrArg (fun z => z.1.2) hr9
            obtain rfl : l9 = takenL (runS D vs (runL D vs kk).1 kk) kk := congrArg (fun z => z.2) hr9
            clear hr9 htk
            obtain ⟨A8, c8, rfl, -, -, -⟩ := own8.sl encS
            obtain ⟨A9, c9, rfl, hA9, hsl9, hfr9⟩ := own9.sl encI
            clear cB6_0 cB6_1 fB6
            replace B6 := B6.below hb9
            have hlen9 : (runL D vs kk).2.length + (takenL (runS D vs (runL D vs kk).1 kk) kk).length ≤ 100000000 := by
              have h8 := (runL_len D vs (kk + 1)).2
              rw [HL9.out, List.length_append] at h8
              omega
            have hbA := alo (((thn hbw hb9).setCell (p := ⟨w.heap.size + 1, 0, none⟩) (by simp only []; omega) (.int .i64 (D : Int))).setCell (p := ⟨w.heap.size + 1, 1, none⟩) (by simp only []; omega) (.slice A8 (runL D vs (kk + 1)).1.length c8)) (.cells #[.int .i64 (D : Int), .slice A8 (runL D vs (kk + 1)).1.length c8] 29)
            have B6a : Blk (((w9.setCell ⟨w.heap.size + 1, 0, none⟩ (.int .i64 (D : Int))).setCell ⟨w.heap.size + 1, 1, none⟩ (.slice A8 (runL D vs (kk + 1)).1.length c8)).alloc (.cells #[.int .i64 (D : Int), .slice A8 (runL D vs (kk + 1)).1.length c8] 29)) (w.heap.size + 1) 29 #[.int .i64 (D : Int), .slice A8 (runL D vs (kk + 1)).1.length c8] := ((B6.set_ 0 _).set_ 1 _).alloc _
            have own5z := own5.below hb9
            have ownA := ((own5z.farNe (p := ⟨w.heap.size + 1, 0, none⟩) (own5z.neBlk B6 (by decide)) (.int .i64 (D : Int))).farNe (p := ⟨w.heap.size + 1, 1, none⟩) (own5z.neBlk B6 (by decide)) (.slice A8 (runL D vs (kk + 1)).1.length c8)).alloc (.cells #[.int .i64 (D : Int), .slice A8 (runL D vs (kk + 1)).1.length c8] 29)
            have own8a := (((own8.farNe (p := ⟨w.heap.size + 1, 0, none⟩) (own8.neBlk B6 (by decide)) (.int .i64 (D : Int))).farNe (p := ⟨w.heap.size + 1, 1, none⟩) (own8.neBlk B6 (by decide)) (.slice A8 (runL D vs (kk + 1)).1.length c8)).alloc (.cells #[.int .i64 (D : Int), .slice A8 (runL D vs (kk + 1)).1.length c8] 29)).low (base' := w.heap.size) hbw.size
            have own9a := ((own9.farNe (p := ⟨w.heap.size + 1, 0, none⟩) (own9.neBlk B6 (by decide)) (.int .i64 (D : Int))).farNe (p := ⟨w.heap.size + 1, 1, none⟩) (own9.neBlk B6 (by decide)) (.slice A8 (runL D vs (kk + 1)).1.length c8)).alloc (.cells #[.int .i64 (D : Int), .slice A8 (runL D vs (kk + 1)).1.length c8] 29)
            obtain ⟨A9', c9', hvv, -, sl9, -⟩ := own9a.sl encI
            injection hvv with e1 e2 e3
            subst e1 e3
            have B6z := B6.alloc (.cells #[.int .i64 (D : Int), .slice A8 (runL D vs (kk + 1)).1.length c8] 29)
            have B8 := Blk.new w9 29 #[.int .i64 (D : Int), .slice A8 (runL D vs (kk + 1)).1.length c8]
            have x0 := B6z.c0
            have x1 := B6z.c1
            have x2 := B6z.frozen
            have x3 := B8.c0
            have x4 := B8.c1
            have x5 := B6.c0
            have x6 := B6.c1
            have x7 := B6.frozen
            have hz9 := B6.lt
            have hnA := hA9.1
            clear own5z own9a own9 own8 hsl9 hfr9 hA9 B8 B6z own5 hlt9
            go_wp2_with (at_builtin; refine app_own rfl _ _ appInt rfl encI w.heap.size _ _ rfl ownA _ _ _ _ rfl hnA sl9 hlen9 (by simp [World.setCell]; omega) ?_; intro v5 w5 own5 hg5; have B6b := B6a.appO hg5 (ownA.neBlk B6a (by decide)); have hbB := belowApp hbA ownA hg5 (Nat.le_refl _) hbA.size; have own8b := own8a.kept hg5 (Own.ne2 own8a ownA (by decide)))
            rw [← HL9.out] at own5
            go_roundg (M - (kk + 1))
            case measure => omega
            case rel => exact ⟨kk + 1, _, A8, _, c8, by omega, by omega, rfl, by go_num, (show Aside _ from hbB), (show Aside _ from B6b), (show Aside _ from own8b), (show Aside _ from own5), (show Aside _ from AB.out)⟩
        · have hltz : ¬ (kk : Int) < (M : Int) := by omega
          obtain rfl : kk = M := by omega
          have hfin : res = (runL D vs kk).2 := by
            rw [← hres.out]
            unfold linkRun
            have h9 : vs.all (fun v => inB v 0 255) = true := by
              rw [List.all_eq_true]
              intro x hx
              obtain ⟨j, hj, rfl⟩ := List.getElem_of_mem hx
              exact AA.out j _ (by have := hM.out; have := HL.out; omega) (List.getElem?_eq_getElem hj)
            rw [h2.out, h9, inB_true.2 ⟨hd0, hd1⟩, ← hM.out, HL.out]
            rfl
          subst hfin
          go_wp2
          go_ret
          exact ⟨_, rfl, own5, hbw⟩
    · have h2 : decide ((vs.length : Int) ≤ 40) = false := by rw [HL.out]; exact decide_eq_false hn
      have hn' : decide ((n : Int) ≤ 40) = false := decide_eq_false hn
      have hn'' : (40 : Int) < (n : Int) := by omega
      have hz : linkRun d vs = [] := by unfold linkRun; rw [h1, h2]; rfl
      rw [hz]
      go_enter Try.func37, Try.ntmps37
      go_wp2_with fail
      refine (hI0 _).mono ?_; rintro e w' ⟨rfl, rfl⟩
      go_wp2
      go_ret
      exact ⟨_, rfl, hE, hb0⟩
end Go.Proofs.Ytenbpaoelipifaa
