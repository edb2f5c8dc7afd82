/- The draw of logs. -/
import Derived.Test.YtffhcifeccdfjaaAudV
import Derived.Test.YtffhcifeccdfjaaOwnX
import Derived.Test.YtffhcifeccdfjaaRelG
import Derived.Test.YtffhcifeccdfjaaHold
import Derived.StillTailTactics
import Derived.Deep.RegionLaw
import Derived.Deep.RegionHeld3
namespace Go.Proofs.Ytffhcifeccdfjaa
set_option linter.unusedVariables false
set_option linter.unusedSimpArgs false
open Go.RowKit

def audS (k s : Int) (x : SV Int) : Value := .agg #[.int .i64 k, x.v, .int .i64 s]
set_option maxHeartbeats 1000000 in
theorem ownAudit_any (k s : Int) (A : Option Addr) (n c : Nat) (xs : List Int) (hn : n ≤ 2000000) (hnil : A = none → c = 0) (w : World) (hs : Sl w 1 eI A n c xs) :
    Calls Try.prog 103 #[.agg #[.int .i64 k, .slice A n c, .int .i64 s]] w (Post (audS k s) fun x w' => Own w' w.heap.size 3 1 eI x.v x.xs ∧ x.xs = xs ∧ Below w.heap.size w w') := by
  have hB1 := alo (alo (alo (alo (Below.refl w.heap.size w) (.cells #[.int .i64 k, .slice A n c, .int .i64 s] 58)) (.cells #[.int .i64 0, .slice none 0 0, .int .i64 0] 58)) (.cells #[.int .i64 k, .slice A n c, .int .i64 s] 58)) (.cells #[] 3)
  have B1 := (((Blk.new w 58 #[.int .i64 k, .slice A n c, .int .i64 s]).alloc (.cells #[.int .i64 0, .slice none 0 0, .int .i64 0] 58)).alloc (.cells #[.int .i64 k, .slice A n c, .int .i64 s] 58)).alloc (.cells #[] 3)
  have B2 := ((Blk.new2 w (.cells #[.int .i64 k, .slice A n c, .int .i64 s] 58) 58 #[.int .i64 0, .slice none 0 0, .int .i64 0]).alloc (.cells #[.int .i64 k, .slice A n c, .int .i64 s] 58)).alloc (.cells #[] 3)
  have B3 : Blk ((((w.alloc (.cells #[.int .i64 k, .slice A n c, .int .i64 s] 58)).alloc (.cells #[.int .i64 0, .slice none 0 0, .int .i64 0] 58)).alloc (.cells #[.int .i64 k, .slice A n c, .int .i64 s] 58)).alloc (.cells #[] 3)) (w.heap.size + 1 + 1) 58 #[.int .i64 k, .slice A n c, .int .i64 s] := by
    have := (Blk.new2 (w.alloc (.cells #[.int .i64 k, .slice A n c, .int .i64 s] 58)) (.cells #[.int .i64 0, .slice none 0 0, .int .i64 0] 58) 58 #[.int .i64 k, .slice A n c, .int .i64 s]).alloc (.cells #[] 3)
    simpa using this
  have own0 : Own ((((w.alloc (.cells #[.int .i64 k, .slice A n c, .int .i64 s] 58)).alloc (.cells #[.int .i64 0, .slice none 0 0, .int .i64 0] 58)).alloc (.cells #[.int .i64 k, .slice A n c, .int .i64 s] 58)).alloc (.cells #[] 3)) (w.heap.size + 3) 3 1 eI (.slice (some ⟨w.heap.size + 1 + 1 + 1, 0, none⟩) 0 0) ([] : List Int) := by
    have h := Own.of_blk (base := w.heap.size + 3) (xs := ([] : List Int)) (enc := eI) (Blk.new (((w.alloc (.cells #[.int .i64 k, .slice A n c, .int .i64 s] 58)).alloc (.cells #[.int .i64 0, .slice none 0 0, .int .i64 0] 58)).alloc (.cells #[.int .i64 k, .slice A n c, .int .i64 s] 58)) 3 #[]) (by simp) encI (by simp [maxLen])
    simpa using h
  have src := hs.below hB1
  have x0 := B1.c0
  have x1 := B1.c1
  have x2 := B1.c2
  go_enter Try.func103, Try.ntmps103
  go_wp2_with (at_builtin; refine app_own rfl _ _ appInt rfl encI (w.heap.size + 3) _ [] rfl own0 _ _ _ xs rfl hnil src (by simp; omega) (by simp) ?_; intro v5 w5 own5 hg5; have hB5 := belowApp hB1 own0 hg5 (by omega) hB1.size; have B2a := B2.app own0 hg5 (by omega); have B3a := B3.app own0 hg5 (by omega); clear hg5 own0 hB1 src B1 B2 B3 x0 x1 x2; simp only [List.nil_append] at own5; obtain ⟨A9, c9, rfl, hA9, hsl9, hfr9⟩ := own5.sl encI; have B3b := B3a.set_ 1 (.slice A9 xs.length c9); have B2b := B2a.far (p := ⟨w.heap.size + 1 + 1, 1, none⟩) (by simp) (.slice A9 xs.length c9); have e0 := B3b.c0; have e1 := B3b.c1; have e2 := B3b.c2; have e3 := B2b.frozen; have e4 := B2b.c0; have e5 := B2b.c1; have e6 := B2b.c2; have e7 := B3a.c1; have e8 := B3a.frozen; have B2c := ((B2b.set_ 0 (.int .i64 k)).set_ 1 (.slice A9 xs.length c9)).set_ 2 (.int .i64 s); have y0 := B2c.c0; have y1 := B2c.c1; have y2 := B2c.c2)
  go_wp2
  exact bodyPost_ret (v := audS k s ⟨A9, xs.length, c9, xs⟩) (by simp [results, Try.results103, go_sem, audS, SV.v, y0, y1, y2]) rfl ⟨⟨A9, xs.length, c9, xs⟩, rfl, ((((own5.far (p := ⟨w.heap.size + 1 + 1, 1, none⟩) (by simp only []; omega) _).far (p := ⟨w.heap.size + 1, 0, none⟩) (by simp only []; omega) _).far (p := ⟨w.heap.size + 1, 1, none⟩) (by simp only []; omega) _).far (p := ⟨w.heap.size + 1, 2, none⟩) (by simp only []; omega) _).low (by omega), rfl, below_set3 (hB5.setCell (p := ⟨w.heap.size + 1 + 1, 1, none⟩) (by simp only []; omega) _) (by omega) _ _ _⟩

theorem audOk_app {k s e : Int} {xs : List Int} (h : audOk k xs s = true) (hl : xs.length < 60) : audOk k (xs ++ [e]) (mixStep s e) = true := by
  simp only [audOk, Bool.and_eq_true, decide_eq_true_eq, beq_iff_eq, inB_true] at h ⊢
  obtain ⟨h1, h2, rfl⟩ := h
  refine ⟨by simp; omega, h2, ?_⟩
  rw [mixAll_app]
  rfl
theorem audOk_bd {k s : Int} {xs : List Int} (h : audOk k xs s = true) : (xs.length ≤ 60 ∧ (0 ≤ k ∧ k ≤ 1048572)) ∧ (0 ≤ s ∧ s ≤ 1048572) := by
  simp only [audOk, Bool.and_eq_true, decide_eq_true_eq, beq_iff_eq, inB_true] at h
  obtain ⟨h1, h2, rfl⟩ := h
  exact ⟨⟨h1, h2⟩, mixAll_bd k xs h2⟩
def apV (k s : Int) (x : SV Int) : Value := .tuple #[audS k s x, .bool true]

set_option maxRecDepth 100000 in
set_option maxHeartbeats 4000000 in
theorem appendAudit_any (k s e : Int) (A : Option Addr) (n c : Nat) (xs : List Int) (hnil : A = none → c = 0) (hx : audOk k xs s = true) (h60 : n < 60) (w : World) (hs : Sl w 1 eI A n c xs) :
    Calls Try.prog 91 #[.agg #[.int .i64 k, .slice A n c, .int .i64 s], .int .i64 e] w (Post (apV k (mixStep s e)) fun x w' => Own w' w.heap.size 3 1 eI x.v (xs ++ [e]) ∧ x.xs = xs ++ [e] ∧ Below w.heap.size w w') := by
  have hl := hs.len
  subst hl
  have hbd := audOk_bd hx
  have hb0 := alo (alo (Below.refl w.heap.size w) (.cells #[.int .i64 k, .slice A xs.length c, .int .i64 s] 58)) (.cells #[.int .i64 0, .slice none 0 0, .int .i64 0] 58)
  have B1 := (Blk.new w 58 #[.int .i64 k, .slice A xs.length c, .int .i64 s]).alloc (.cells #[.int .i64 0, .slice none 0 0, .int .i64 0] 58)
  have B2 := Blk.new2 w (.cells #[.int .i64 k, .slice A xs.length c, .int .i64 s] 58) 58 #[.int .i64 0, .slice none 0 0, .int .i64 0]
  have h1 := ownAudit_any k s A xs.length c xs (by omega) hnil _ (hs.below hb0)
  have HV := Lib.hid (fun A n c W hW => specAuditValid_any k s A n c xs W hW)
  have HX := Lib.hid hx
  have HM := Lib.hid (fun W => specMix_any s (some ⟨W.heap.size, 0, none⟩) 1 1 [e] (W.alloc (.cells #[.int .i64 e] 3)) (Sl.of_blk (xs := [e]) (Blk.new W 3 #[.int .i64 e]) encI (by simp)))
  have HM1 := Lib.hid (mix_one (y := e) hbd.2)
  have hn60 : xs.length ≤ 59 := by omega
  clear hs hx hbd
  have x0 := B1.c0
  have x1 := B1.c1
  have x2 := B1.c2
  go_enter Try.func91, Try.ntmps91
  go_wp2_with fail
  refine h1.mono ?_
  rintro e' w1 ⟨⟨A9, n9, c9, l9⟩, rfl, own9, hl9, hbw1⟩
  clear h1 x0 x1 x2
  simp only [] at hl9
  subst hl9
  simp only [audS, SV.v] at own9 ⊢
  obtain ⟨A5, c5, hv5, -, -, -⟩ := own9.sl encI
  cases hv5
  replace B1 := B1.below hbw1
  replace B2 := B2.below hbw1
  have hb1 := thn hb0 hbw1
  have hz1 : w.heap.size + 1 < w1.heap.size := B2.lt
  have y0 := B1.frozen
  have y1 := B1.c0
  have y2 := B1.c1
  have y3 := B1.c2
  have B1b := ((B1.set_ 0 (.int .i64 k)).set_ 1 (.slice A9 l9.length c9)).set_ 2 (.int .i64 s)
  have B2b := ((B2.far (p := ⟨w.heap.size, 0, none⟩) (by simp) (.int .i64 k)).far (p := ⟨w.heap.size, 1, none⟩) (by simp) (.slice A9 l9.length c9)).far (p := ⟨w.heap.size, 2, none⟩) (by simp) (.int .i64 s)
  have own2 := (((own9.far (p := ⟨w.heap.size, 0, none⟩) (by simp <;> omega) (.int .i64 k)).far (p := ⟨w.heap.size, 1, none⟩) (by simp <;> omega) (.slice A9 l9.length c9)).far (p := ⟨w.heap.size, 2, none⟩) (by simp <;> omega) (.int .i64 s)).low (base' := w.heap.size + 1 + 1) (by simp)
  have hb2 := below_set3 hb1 (Nat.le_refl _) (.int .i64 k) (.slice A9 l9.length c9) (.int .i64 s)
  have z0 := B1b.c0
  have z1 := B1b.c1
  have z2 := B1b.c2
  clear own9
  go_wp2_with fail
  have hV := HV.out A9 l9.length c9 _ (own2.okv encI).sl
  rw [HX.out] at hV
  refine hV.mono ?_
  rintro e3 w3 ⟨rfl, hb3⟩
  clear hV z0 z1 z2
  replace B1b := B1b.below hb3
  replace B2b := B2b.below hb3
  replace own2 := own2.below hb3
  replace hb2 := thn hb2 hb3
  clear hb3 y0 y1 y2 y3 B1 B2 hb1 hbw1
  have hz3 : w.heap.size + 1 < w3.heap.size := B2b.lt
  have hnil9 : A9 = none → c9 = 0 := (own2.okv encI).nil
  have sl2 : Sl w3 1 eI A9 l9.length c9 l9 := (own2.okv encI).sl
  clear own2
  have own0 : Own (w3.alloc (.cells #[] 3)) (w.heap.size + 2) 3 1 eI (.slice (some ⟨w3.heap.size, 0, none⟩) 0 0) ([] : List Int) := Own.of_blk (Blk.new w3 3 #[]) (by omega) encI (by simp [maxLen])
  have own0b : Own ((w3.alloc (.cells #[.int .i64 0, .slice none 0 0, .int .i64 0] 58)).alloc (.cells #[] 3)) (w.heap.size + 2) 3 1 eI (.slice (some ⟨w3.heap.size + 1, 0, none⟩) 0 0) ([] : List Int) := Own.of_blk (Blk.new2 w3 (.cells #[.int .i64 0, .slice none 0 0, .int .i64 0] 58) 3 #[]) (by omega) encI (by simp [maxLen])
  have own0c := own0.alloc (.cells #[.int .i64 0, .slice none 0 0, .int .i64 0] 58)
  have src0 := sl2.below (alo (Below.refl w3.heap.size w3) (.cells #[] 3))
  have src0b := sl2.below (alo (alo (Below.refl w3.heap.size w3) (.cells #[.int .i64 0, .slice none 0 0, .int .i64 0] 58)) (.cells #[] 3))
  have src0c := sl2.below (alo (alo (Below.refl w3.heap.size w3) (.cells #[] 3)) (.cells #[.int .i64 0, .slice none 0 0, .int .i64 0] 58))
  have z0 := B1b.c0
  have z1 := B1b.c1
  have z2 := B1b.c2
  have B1x := B1b.alloc (.cells #[] 3)
  have p0 := B1x.c0
  have p1 := B1x.c1
  have p2 := B1x.c2
  have B1z := B1b.alloc (.cells #[.int .i64 0, .slice none 0 0, .int .i64 0] 58)
  have q0 := B1z.c0
  have q1 := B1z.c1
  have q2 := B1z.c2
  have B1zx := B1z.alloc (.cells #[] 3)
  have r0 := B1zx.c0
  have r1 := B1zx.c1
  have r2 := B1zx.c2
  have B1xz := B1x.alloc (.cells #[.int .i64 0, .slice none 0 0, .int .i64 0] 58)
  have t0 := B1xz.c0
  have t1 := B1xz.c1
  have t2 := B1xz.c2
  have B6b : Blk ((w3.alloc (.cells #[.int .i64 0, .slice none 0 0, .int .i64 0] 58)).alloc (.cells #[] 3)) w3.heap.size 58 #[.int .i64 0, .slice none 0 0, .int .i64 0] := (Blk.new w3 58 #[.int .i64 0, .slice none 0 0, .int .i64 0]).alloc (.cells #[] 3)
  have B6c : Blk ((w3.alloc (.cells #[] 3)).alloc (.cells #[.int .i64 0, .slice none 0 0, .int .i64 0] 58)) (w3.heap.size + 1) 58 #[.int .i64 0, .slice none 0 0, .int .i64 0] := Blk.new2 w3 (.cells #[] 3) 58 #[.int .i64 0, .slice none 0 0, .int .i64 0]
  have hbA := alo hb2 (.cells #[] 3)
  have hbB := alo (alo hb2 (.cells #[.int .i64 0, .slice none 0 0, .int .i64 0] 58)) (.cells #[] 3)
  have hbC := alo (alo hb2 (.cells #[] 3)) (.cells #[.int .i64 0, .slice none 0 0, .int .i64 0] 58)
  have B2x := B2b.alloc (.cells #[] 3)
  have B2zx := (B2b.alloc (.cells #[.int .i64 0, .slice none 0 0, .int .i64 0] 58)).alloc (.cells #[] 3)
  have B2xz := B2x.alloc (.cells #[.int .i64 0, .slice none 0 0, .int .i64 0] 58)
  clear sl2
  go_wp2_with fail
  go_region_held3 (fun w' => w'.cell? ⟨w.heap.size, 0, none⟩ = some (.int .i64 k) ∧ w'.cell? ⟨w.heap.size, 1, none⟩ = some (.slice A9 l9.length c9) ∧ w'.cell? ⟨w.heap.size, 2, none⟩ = some (.int .i64 s)) (first | exact ⟨z0, z1, z2⟩ | exact ⟨p0, p1, p2⟩ | exact ⟨q0, q1, q2⟩ | exact ⟨r0, r1, r2⟩ | exact ⟨t0, t1, t2⟩ | exact ⟨e0, e1, e2⟩ | exact ⟨i0, i1, i2⟩ | exact ⟨j0, j1, j2⟩) (first | (refine app_step rfl _ _ appInt rfl encI (w.heap.size + 2) _ [] (by simp [Act.eval, Act.put]) (own0.drew) _ _ _ l9 (by simp [Act.eval, Act.put]) hnil9 (src0.keep (Nat.le_refl _) (fun _ _ _ => rfl)) (by simp; omega) (by simp; omega) ?_; intro v5 w5 own5 hg5; have B1a := B1x.drew.app own0.drew hg5 (by omega); have B2a := B2x.drew.app own0.drew hg5 (by omega); have hB5 := belowApp hbA.drew own0.drew hg5 (by omega) (by simp; omega); simp only [List.nil_append] at own5; obtain ⟨A5, c5, rfl, _, _, _⟩ := own5.sl encI; have e0 := B1a.c0; have e1 := B1a.c1; have e2 := B1a.c2; have hz5 : w3.heap.size + 1 ≤ w5.heap.size := Nat.le_trans (by simp <;> omega) hg5.size; have B1z' := B1a.alloc (.cells #[.int .i64 0, .slice none 0 0, .int .i64 0] 58); have B1d := B1a.alloc (.cells #[.int .i64 k, .slice A5 l9.length c5, .int .i64 s] 58); have B2d := B2a.alloc (.cells #[.int .i64 k, .slice A5 l9.length c5, .int .i64 s] 58); have B6a := Blk.new w5 58 #[.int .i64 0, .slice none 0 0, .int .i64 0]; have B6d := Blk.new w5 58 #[.int .i64 k, .slice A5 l9.length c5, .int .i64 s]; have i0 := B1z'.c0; have i1 := B1z'.c1; have i2 := B1z'.c2; have hB6 := alo hB5 (.cells #[.int .i64 k, .slice A5 l9.length c5, .int .i64 s] 58); have own6 := own5.alloc (.cells #[.int .i64 k, .slice A5 l9.length c5, .int .i64 s] 58); have g0 := B6a.frozen; have g1 := B6a.c0; have g2 := B6a.c1; have g3 := B6a.c2; clear B1z'; have hG : w.heap.size + 1 < w5.heap.size := (by omega); have j0 := B1d.c0; have j1 := B1d.c1; have j2 := B1d.c2; clear B1a B2a B6a hB5 own5 hg5) | (refine app_step rfl _ _ appInt rfl encI (w.heap.size + 2) _ [] (by simp [Act.eval, Act.put]) (own0b.drew) _ _ _ l9 (by simp [Act.eval, Act.put]) hnil9 (src0b.keep (Nat.le_refl _) (fun _ _ _ => rfl)) (by simp; omega) (by simp; omega) ?_; intro v5 w5 own5 hg5; have B1a := B1zx.drew.app own0b.drew hg5 (by omega); have B2a := B2zx.drew.app own0b.drew hg5 (by omega); have hB5 := belowApp hbB.drew own0b.drew hg5 (by omega) (by simp; omega); simp only [List.nil_append] at own5; obtain ⟨A5, c5, rfl, _, _, _⟩ := own5.sl encI; have e0 := B1a.c0; have e1 := B1a.c1; have e2 := B1a.c2; have hz5 : w3.heap.size + 1 ≤ w5.heap.size := Nat.le_trans (by simp <;> omega) hg5.size; have B6a := Blk.appO B6b.drew hg5 (by simp [Value.ownBlock]); have g0 := B6a.frozen; have g1 := B6a.c0; have g2 := B6a.c1; have g3 := B6a.c2; have B1d := (((B1a.far (p := ⟨w3.heap.size, 0, none⟩) (by simp only []; omega) (.int .i64 k)).far (p := ⟨w3.heap.size, 1, none⟩) (by simp only []; omega) (.slice A5 l9.length c5)).far (p := ⟨w3.heap.size, 2, none⟩) (by simp only []; omega) (.int .i64 s)); have B2d := (((B2a.far (p := ⟨w3.heap.size, 0, none⟩) (by simp only []; omega) (.int .i64 k)).far (p := ⟨w3.heap.size, 1, none⟩) (by simp only []; omega) (.slice A5 l9.length c5)).far (p := ⟨w3.heap.size, 2, none⟩) (by simp only []; omega) (.int .i64 s)); have hne5 := own5.neBlk B6a (by decide); have own6 := (((own5.farNe (p := ⟨w3.heap.size, 0, none⟩) hne5 (.int .i64 k)).farNe (p := ⟨w3.heap.size, 1, none⟩) hne5 (.slice A5 l9.length c5)).farNe (p := ⟨w3.heap.size, 2, none⟩) hne5 (.int .i64 s)); have B6d := ((B6a.set_ 0 (.int .i64 k)).set_ 1 (.slice A5 l9.length c5)).set_ 2 (.int .i64 s); have hB6 := below_set3 hB5 (by omega : w.heap.size ≤ w3.heap.size) (.int .i64 k) (.slice A5 l9.length c5) (.int .i64 s); clear hne5; have hG : w.heap.size + 1 < w3.heap.size := (by omega); have j0 := B1d.c0; have j1 := B1d.c1; have j2 := B1d.c2; clear B1a B2a B6a hB5 own5 hg5) | (refine app_step rfl _ _ appInt rfl encI (w.heap.size + 2) _ [] (by simp [Act.eval, Act.put]) (own0c.drew) _ _ _ l9 (by simp [Act.eval, Act.put]) hnil9 (src0c.keep (Nat.le_refl _) (fun _ _ _ => rfl)) (by simp; omega) (by simp; omega) ?_; intro v5 w5 own5 hg5; have B1a := B1xz.drew.app own0c.drew hg5 (by omega); have B2a := B2xz.drew.app own0c.drew hg5 (by omega); have hB5 := belowApp hbC.drew own0c.drew hg5 (by omega) (by simp; omega); simp only [List.nil_append] at own5; obtain ⟨A5, c5, rfl, _, _, _⟩ := own5.sl encI; have e0 := B1a.c0; have e1 := B1a.c1; have e2 := B1a.c2; have hz5 : w3.heap.size + 1 ≤ w5.heap.size := Nat.le_trans (by simp <;> omega) hg5.size; have B6a := Blk.appO B6c.drew hg5 (by simp [Value.ownBlock]); have g0 := B6a.frozen; have g1 := B6a.c0; have g2 := B6a.c1; have g3 := B6a.c2; have B1d := (((B1a.far (p := ⟨(w3.heap.size + 1), 0, none⟩) (by simp only []; omega) (.int .i64 k)).far (p := ⟨(w3.heap.size + 1), 1, none⟩) (by simp only []; omega) (.slice A5 l9.length c5)).far (p := ⟨(w3.heap.size + 1), 2, none⟩) (by simp only []; omega) (.int .i64 s)); have B2d := (((B2a.far (p := ⟨(w3.heap.size + 1), 0, none⟩) (by simp only []; omega) (.int .i64 k)).far (p := ⟨(w3.heap.size + 1), 1, none⟩) (by simp only []; omega) (.slice A5 l9.length c5)).far (p := ⟨(w3.heap.size + 1), 2, none⟩) (by simp only []; omega) (.int .i64 s)); have hne5 := own5.neBlk B6a (by decide); have own6 := (((own5.farNe (p := ⟨(w3.heap.size + 1), 0, none⟩) hne5 (.int .i64 k)).farNe (p := ⟨(w3.heap.size + 1), 1, none⟩) hne5 (.slice A5 l9.length c5)).farNe (p := ⟨(w3.heap.size + 1), 2, none⟩) hne5 (.int .i64 s)); have B6d := ((B6a.set_ 0 (.int .i64 k)).set_ 1 (.slice A5 l9.length c5)).set_ 2 (.int .i64 s); have hB6 := below_set3 hB5 (by omega : w.heap.size ≤ (w3.heap.size + 1)) (.int .i64 k) (.slice A5 l9.length c5) (.int .i64 s); clear hne5; have hG : w.heap.size + 1 < (w3.heap.size + 1) := (by omega); have j0 := B1d.c0; have j1 := B1d.c1; have j2 := B1d.c2; clear B1a B2a B6a hB5 own5 hg5))
  · clear i0 i1 i2
    generalize w5.alloc (.cells #[.int .i64 k, .slice A5 l9.length c5, .int .i64 s] 58) = w6 at *
    generalize w5.heap.size = g6 at *
    clear B1b B2b own0 own0b own0c src0 src0b src0c B1x B1z B1zx B1xz B6b B6c hbA hbB hbC B2x B2zx B2xz hb2 z0 z1 z2 p0 p1 p2 q0 q1 q2 r0 r1 r2 t0 t1 t2 e0 e1 e2 g0 g1 g2 g3 j0 j1 j2
    have hne6 := own6.neBlk B6d (by decide)
    have a0 := B1d.c0
    have a1 := B1d.c1
    have a2 := B1d.c2
    have b1 := B6d.c1
    have B1e := B1d.alloc (.cells #[.int .i64 e] 3)
    have B2e := B2d.alloc (.cells #[.int .i64 e] 3)
    have B6e := B6d.alloc (.cells #[.int .i64 e] 3)
    have own7 := own6.alloc (.cells #[.int .i64 e] 3)
    have hB7 := alo hB6 (.cells #[.int .i64 e] 3)
    have src := Sl.of_blk (xs := [e]) (Blk.new w6 3 #[.int .i64 e]) encI (by simp)
    have d1 := B6e.c1
    have hz6 : w.heap.size + 1 < w6.heap.size := B2d.lt
    have hz60 : ¬ (l9.length : Int) = 60 := by omega
    have hz61 : ((l9.length : Int) == 60) = false := by rw [beq_eq_false_iff_ne]; exact hz60
    go_wp2_with (at_builtin; (refine app_own rfl _ _ appInt rfl encI (w.heap.size + 2) _ l9 rfl own7 _ 1 1 [e] rfl (fun e => by cases e) src (by omega) (by simp <;> omega) ?_); intro v8 w8 own8 hg8; have B1f := B1e.app own7 hg8 (by omega); have B2f := B2e.app own7 hg8 (by omega); have B6f := B6e.appO hg8 (own7.neBlk B6e (by decide)); have hB8 := belowApp hB7 own7 hg8 (by omega) hB7.size; obtain ⟨A8, c8, hv8, -, -, -⟩ := own8.sl encI; rw [show (l9 ++ [e]).length = l9.length + 1 from by simp] at hv8; subst hv8; have f0 := B6f.frozen; have f1 := B6f.c1; have hne8 := own8.neBlk B6f (by decide); have B1g := B1f.far (p := ⟨g6, 1, none⟩) (by simp only []; omega) (.slice A8 (l9.length + 1) c8); have B2g := B2f.far (p := ⟨g6, 1, none⟩) (by simp only []; omega) (.slice A8 (l9.length + 1) c8); have B6g := B6f.set_ 1 (.slice A8 (l9.length + 1) c8); have own9 := own8.farNe (p := ⟨g6, 1, none⟩) hne8 (.slice A8 (l9.length + 1) c8); have hB9 := hB8.setCell (p := ⟨g6, 1, none⟩) (by simp only []; omega) (.slice A8 (l9.length + 1) c8); have m2 := B1g.c2; clear own7 hg8 src B1e B2e B6e hB7 d1)
    clear a0 a1 a2 b1 f0 f1 m2
    have hM := HM.out (w8.setCell ⟨g6, 1, none⟩ (.slice A8 (l9.length + 1) c8))
    rw [HM1.out, show (w8.setCell ⟨g6, 1, none⟩ (.slice A8 (l9.length + 1) c8)).heap.size = w8.heap.size from by simp] at hM
    generalize w8.setCell ⟨g6, 1, none⟩ (.slice A8 (l9.length + 1) c8) = w9 at *
    refine hM.mono ?_
    rintro e9 w10 ⟨rfl, hb10⟩
    clear hM
    have hb11 := thn (alo hB9 (.cells #[.int .i64 e] 3)) hb10
    replace own9 := (own9.alloc (.cells #[.int .i64 e] 3)).below hb10
    replace B1g := (B1g.alloc (.cells #[.int .i64 e] 3)).below hb10
    replace B2g := (B2g.alloc (.cells #[.int .i64 e] 3)).below hb10
    replace B6g := (B6g.alloc (.cells #[.int .i64 e] 3)).below hb10
    clear hB9 hb10
    obtain ⟨t9, ht9⟩ : ∃ t9, mixStep s e = t9 := ⟨_, rfl⟩
    rw [ht9]
    have HT := Lib.hid ht9
    clear ht9
    have f0 := B6g.frozen
    have f1 := B6g.c2
    have hne9 := own9.neBlk B6g (by decide)
    have B6h := B6g.set_ 2 (.int .i64 t9)
    have B2h := B2g.far (p := ⟨g6, 2, none⟩) (by simp only []; omega) (.int .i64 t9)
    have own10 := own9.farNe (p := ⟨g6, 2, none⟩) hne9 (.int .i64 t9)
    have hB11 := hb11.setCell (p := ⟨g6, 2, none⟩) (by simp only []; omega) (.int .i64 t9)
    have h0 := B6h.c0
    have h1 := B6h.c1
    have h2 := B6h.c2
    have h3 := B2h.frozen
    have h4 := B2h.c0
    have h5 := B2h.c1
    have h6 := B2h.c2
    have B2i := ((B2h.set_ 0 (.int .i64 k)).set_ 1 (.slice A8 (l9.length + 1) c8)).set_ 2 (.int .i64 t9)
    have k0 := B2i.c0
    have k1 := B2i.c1
    have k2 := B2i.c2
    go_wp2
    exact bodyPost_ret (v := apV k t9 ⟨A8, l9.length + 1, c8, l9 ++ [e]⟩) (by simp [results, Try.results91, go_sem, apV, audS, SV.v, k0, k1, k2]) rfl ⟨⟨A8, l9.length + 1, c8, l9 ++ [e]⟩, by rw [HT.out], (((own10.far (p := ⟨w.heap.size + 1, 0, none⟩) (by simp only []; omega) _).far (p := ⟨w.heap.size + 1, 1, none⟩) (by simp only []; omega) _).far (p := ⟨w.heap.size + 1, 2, none⟩) (by simp only []; omega) _).low (by omega), rfl, below_set3 hB11 (by omega) _ _ _⟩
  · generalize ((w5.setCell ⟨(w3.heap.size + 1), 0, none⟩ (.int .i64 k)).setCell ⟨(w3.heap.size + 1), 1, none⟩ (.slice A5 l9.length c5)).setCell ⟨(w3.heap.size + 1), 2, none⟩ (.int .i64 s) = w6 at *
    generalize w3.heap.size + 1 = g6 at *
    clear B1b B2b own0 own0b own0c src0 src0b src0c B1x B1z B1zx B1xz B6b B6c hbA hbB hbC B2x B2zx B2xz hb2 z0 z1 z2 p0 p1 p2 q0 q1 q2 r0 r1 r2 t0 t1 t2 e0 e1 e2 g0 g1 g2 g3 j0 j1 j2
    have hne6 := own6.neBlk B6d (by decide)
    have a0 := B1d.c0
    have a1 := B1d.c1
    have a2 := B1d.c2
    have b1 := B6d.c1
    have B1e := B1d.alloc (.cells #[.int .i64 e] 3)
    have B2e := B2d.alloc (.cells #[.int .i64 e] 3)
    have B6e := B6d.alloc (.cells #[.int .i64 e] 3)
    have own7 := own6.alloc (.cells #[.int .i64 e] 3)
    have hB7 := alo hB6 (.cells #[.int .i64 e] 3)
    have src := Sl.of_blk (xs := [e]) (Blk.new w6 3 #[.int .i64 e]) encI (by simp)
    have d1 := B6e.c1
    have hz6 : w.heap.size + 1 < w6.heap.size := B2d.lt
    have hz60 : ¬ (l9.length : Int) = 60 := by omega
    have hz61 : ((l9.length : Int) == 60) = false := by rw [beq_eq_false_iff_ne]; exact hz60
    go_wp2_with (at_builtin; (refine app_own rfl _ _ appInt rfl encI (w.heap.size + 2) _ l9 rfl own7 _ 1 1 [e] rfl (fun e => by cases e) src (by omega) (by simp <;> omega) ?_); intro v8 w8 own8 hg8; have B1f := B1e.app own7 hg8 (by omega); have B2f := B2e.app own7 hg8 (by omega); have B6f := B6e.appO hg8 (own7.neBlk B6e (by decide)); have hB8 := belowApp hB7 own7 hg8 (by omega) hB7.size; obtain ⟨A8, c8, hv8, -, -, -⟩ := own8.sl encI; rw [show (l9 ++ [e]).length = l9.length + 1 from by simp] at hv8; subst hv8; have f0 := B6f.frozen; have f1 := B6f.c1; have hne8 := own8.neBlk B6f (by decide); have B1g := B1f.far (p := ⟨g6, 1, none⟩) (by simp only []; omega) (.slice A8 (l9.length + 1) c8); have B2g := B2f.far (p := ⟨g6, 1, none⟩) (by simp only []; omega) (.slice A8 (l9.length + 1) c8); have B6g := B6f.set_ 1 (.slice A8 (l9.length + 1) c8); have own9 := own8.farNe (p := ⟨g6, 1, none⟩) hne8 (.slice A8 (l9.length + 1) c8); have hB9 := hB8.setCell (p := ⟨g6, 1, none⟩) (by simp only []; omega) (.slice A8 (l9.length + 1) c8); have m2 := B1g.c2; clear own7 hg8 src B1e B2e B6e hB7 d1)
    clear a0 a1 a2 b1 f0 f1 m2
    have hM := HM.out (w8.setCell ⟨g6, 1, none⟩ (.slice A8 (l9.length + 1) c8))
    rw [HM1.out, show (w8.setCell ⟨g6, 1, none⟩ (.slice A8 (l9.length + 1) c8)).heap.size = w8.heap.size from by simp] at hM
    generalize w8.setCell ⟨g6, 1, none⟩ (.slice A8 (l9.length + 1) c8) = w9 at *
    refine hM.mono ?_
    rintro e9 w10 ⟨rfl, hb10⟩
    clear hM
    have hb11 := thn (alo hB9 (.cells #[.int .i64 e] 3)) hb10
    replace own9 := (own9.alloc (.cells #[.int .i64 e] 3)).below hb10
    replace B1g := (B1g.alloc (.cells #[.int .i64 e] 3)).below hb10
    replace B2g := (B2g.alloc (.cells #[.int .i64 e] 3)).below hb10
    replace B6g := (B6g.alloc (.cells #[.int .i64 e] 3)).below hb10
    clear hB9 hb10
    obtain ⟨t9, ht9⟩ : ∃ t9, mixStep s e = t9 := ⟨_, rfl⟩
    rw [ht9]
    have HT := Lib.hid ht9
    clear ht9
    have f0 := B6g.frozen
    have f1 := B6g.c2
    have hne9 := own9.neBlk B6g (by decide)
    have B6h := B6g.set_ 2 (.int .i64 t9)
    have B2h := B2g.far (p := ⟨g6, 2, none⟩) (by simp only []; omega) (.int .i64 t9)
    have own10 := own9.farNe (p := ⟨g6, 2, none⟩) hne9 (.int .i64 t9)
    have hB11 := hb11.setCell (p := ⟨g6, 2, none⟩) (by simp only []; omega) (.int .i64 t9)
    have h0 := B6h.c0
    have h1 := B6h.c1
    have h2 := B6h.c2
    have h3 := B2h.frozen
    have h4 := B2h.c0
    have h5 := B2h.c1
    have h6 := B2h.c2
    have B2i := ((B2h.set_ 0 (.int .i64 k)).set_ 1 (.slice A8 (l9.length + 1) c8)).set_ 2 (.int .i64 t9)
    have k0 := B2i.c0
    have k1 := B2i.c1
    have k2 := B2i.c2
    go_wp2
    exact bodyPost_ret (v := apV k t9 ⟨A8, l9.length + 1, c8, l9 ++ [e]⟩) (by simp [results, Try.results91, go_sem, apV, audS, SV.v, k0, k1, k2]) rfl ⟨⟨A8, l9.length + 1, c8, l9 ++ [e]⟩, by rw [HT.out], (((own10.far (p := ⟨w.heap.size + 1, 0, none⟩) (by simp only []; omega) _).far (p := ⟨w.heap.size + 1, 1, none⟩) (by simp only []; omega) _).far (p := ⟨w.heap.size + 1, 2, none⟩) (by simp only []; omega) _).low (by omega), rfl, below_set3 hB11 (by omega) _ _ _⟩
  · generalize ((w5.setCell ⟨w3.heap.size, 0, none⟩ (.int .i64 k)).setCell ⟨w3.heap.size, 1, none⟩ (.slice A5 l9.length c5)).setCell ⟨w3.heap.size, 2, none⟩ (.int .i64 s) = w6 at *
    generalize w3.heap.size = g6 at *
    clear B1b B2b own0 own0b own0c src0 src0b src0c B1x B1z B1zx B1xz B6b B6c hbA hbB hbC B2x B2zx B2xz hb2 z0 z1 z2 p0 p1 p2 q0 q1 q2 r0 r1 r2 t0 t1 t2 e0 e1 e2 g0 g1 g2 g3 j0 j1 j2
    have hne6 := own6.neBlk B6d (by decide)
    have a0 := B1d.c0
    have a1 := B1d.c1
    have a2 := B1d.c2
    have b1 := B6d.c1
    have B1e := B1d.alloc (.cells #[.int .i64 e] 3)
    have B2e := B2d.alloc (.cells #[.int .i64 e] 3)
    have B6e := B6d.alloc (.cells #[.int .i64 e] 3)
    have own7 := own6.alloc (.cells #[.int .i64 e] 3)
    have hB7 := alo hB6 (.cells #[.int .i64 e] 3)
    have src := Sl.of_blk (xs := [e]) (Blk.new w6 3 #[.int .i64 e]) encI (by simp)
    have d1 := B6e.c1
    have hz6 : w.heap.size + 1 < w6.heap.size := B2d.lt
    have hz60 : ¬ (l9.length : Int) = 60 := by omega
    have hz61 : ((l9.length : Int) == 60) = false := by rw [beq_eq_false_iff_ne]; exact hz60
    go_wp2_with (at_builtin; (refine app_own rfl _ _ appInt rfl encI (w.heap.size + 2) _ l9 rfl own7 _ 1 1 [e] rfl (fun e => by cases e) src (by omega) (by simp <;> omega) ?_); intro v8 w8 own8 hg8; have B1f := B1e.app own7 hg8 (by omega); have B2f := B2e.app own7 hg8 (by omega); have B6f := B6e.appO hg8 (own7.neBlk B6e (by decide)); have hB8 := belowApp hB7 own7 hg8 (by omega) hB7.size; obtain ⟨A8, c8, hv8, -, -, -⟩ := own8.sl encI; rw [show (l9 ++ [e]).length = l9.length + 1 from by simp] at hv8; subst hv8; have f0 := B6f.frozen; have f1 := B6f.c1; have hne8 := own8.neBlk B6f (by decide); have B1g := B1f.far (p := ⟨g6, 1, none⟩) (by simp only []; omega) (.slice A8 (l9.length + 1) c8); have B2g := B2f.far (p := ⟨g6, 1, none⟩) (by simp only []; omega) (.slice A8 (l9.length + 1) c8); have B6g := B6f.set_ 1 (.slice A8 (l9.length + 1) c8); have own9 := own8.farNe (p := ⟨g6, 1, none⟩) hne8 (.slice A8 (l9.length + 1) c8); have hB9 := hB8.setCell (p := ⟨g6, 1, none⟩) (by simp only []; omega) (.slice A8 (l9.length + 1) c8); have m2 := B1g.c2; clear own7 hg8 src B1e B2e B6e hB7 d1)
    clear a0 a1 a2 b1 f0 f1 m2
    have hM := HM.out (w8.setCell ⟨g6, 1, none⟩ (.slice A8 (l9.length + 1) c8))
    rw [HM1.out, show (w8.setCell ⟨g6, 1, none⟩ (.slice A8 (l9.length + 1) c8)).heap.size = w8.heap.size from by simp] at hM
    generalize w8.setCell ⟨g6, 1, none⟩ (.slice A8 (l9.length + 1) c8) = w9 at *
    refine hM.mono ?_
    rintro e9 w10 ⟨rfl, hb10⟩
    clear hM
    have hb11 := thn (alo hB9 (.cells #[.int .i64 e] 3)) hb10
    replace own9 := (own9.alloc (.cells #[.int .i64 e] 3)).below hb10
    replace B1g := (B1g.alloc (.cells #[.int .i64 e] 3)).below hb10
    replace B2g := (B2g.alloc (.cells #[.int .i64 e] 3)).below hb10
    replace B6g := (B6g.alloc (.cells #[.int .i64 e] 3)).below hb10
    clear hB9 hb10
    obtain ⟨t9, ht9⟩ : ∃ t9, mixStep s e = t9 := ⟨_, rfl⟩
    rw [ht9]
    have HT := Lib.hid ht9
    clear ht9
    have f0 := B6g.frozen
    have f1 := B6g.c2
    have hne9 := own9.neBlk B6g (by decide)
    have B6h := B6g.set_ 2 (.int .i64 t9)
    have B2h := B2g.far (p := ⟨g6, 2, none⟩) (by simp only []; omega) (.int .i64 t9)
    have own10 := own9.farNe (p := ⟨g6, 2, none⟩) hne9 (.int .i64 t9)
    have hB11 := hb11.setCell (p := ⟨g6, 2, none⟩) (by simp only []; omega) (.int .i64 t9)
    have h0 := B6h.c0
    have h1 := B6h.c1
    have h2 := B6h.c2
    have h3 := B2h.frozen
    have h4 := B2h.c0
    have h5 := B2h.c1
    have h6 := B2h.c2
    have B2i := ((B2h.set_ 0 (.int .i64 k)).set_ 1 (.slice A8 (l9.length + 1) c8)).set_ 2 (.int .i64 t9)
    have k0 := B2i.c0
    have k1 := B2i.c1
    have k2 := B2i.c2
    go_wp2
    exact bodyPost_ret (v := apV k t9 ⟨A8, l9.length + 1, c8, l9 ++ [e]⟩) (by simp [results, Try.results91, go_sem, apV, audS, SV.v, k0, k1, k2]) rfl ⟨⟨A8, l9.length + 1, c8, l9 ++ [e]⟩, by rw [HT.out], (((own10.far (p := ⟨w.heap.size + 1, 0, none⟩) (by simp only []; omega) _).far (p := ⟨w.heap.size + 1, 1, none⟩) (by simp only []; omega) _).far (p := ⟨w.heap.size + 1, 2, none⟩) (by simp only []; omega) _).low (by omega), rfl, below_set3 hB11 (by omega) _ _ _⟩
end Go.Proofs.Ytffhcifeccdfjaa
