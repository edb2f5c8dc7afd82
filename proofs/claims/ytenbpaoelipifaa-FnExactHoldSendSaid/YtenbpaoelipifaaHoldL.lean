/- HoldSend and HoldTake of impl, HoldSend of spec, of the kind ChanLast. -/
import Derived.Test.YtenbpaoelipifaaHold
namespace Go.Proofs.Ytenbpaoelipifaa
set_option linter.unusedVariables false
set_option linter.unusedSimpArgs false
open Go.RowKit

theorem ownHold_any (A : Option Addr) (n c : Nat) (xs : List Int) (hn : n ≤ 2000000) (hnil : A = none → c = 0) (w : World) (hs : Sl w 1 eI A n c xs) :
    Calls Try.prog 68 #[.agg #[.slice A n c]] w (Post (fun s : SV Int => .agg #[s.v]) fun s w' => SV.ok w' w.heap.size 1 eI s ∧ s.xs = xs ∧ Below w.heap.size w w') := by
  have hB1 := alo (alo (alo (alo (Below.refl w.heap.size w) (.cells #[.slice A n c] 52)) (.cells #[.slice none 0 0] 52)) (.cells #[.slice A n c] 52)) (.cells #[] 3)
  have B1 := (((Blk.new w 52 #[.slice A n c]).alloc (.cells #[.slice none 0 0] 52)).alloc (.cells #[.slice A n c] 52)).alloc (.cells #[] 3)
  have B2 := ((Blk.new2 w (.cells #[.slice A n c] 52) 52 #[.slice none 0 0]).alloc (.cells #[.slice A n c] 52)).alloc (.cells #[] 3)
  have B3 : Blk ((((w.alloc (.cells #[.slice A n c] 52)).alloc (.cells #[.slice none 0 0] 52)).alloc (.cells #[.slice A n c] 52)).alloc (.cells #[] 3)) (w.heap.size + 1 + 1) 52 #[.slice A n c] := by
    have := (Blk.new2 (w.alloc (.cells #[.slice A n c] 52)) (.cells #[.slice none 0 0] 52) 52 #[.slice A n c]).alloc (.cells #[] 3)
    simpa using this
  have own0 : Own ((((w.alloc (.cells #[.slice A n c] 52)).alloc (.cells #[.slice none 0 0] 52)).alloc (.cells #[.slice A n c] 52)).alloc (.cells #[] 3)) (w.heap.size + 3) 3 1 eI (.slice (some ⟨w.heap.size + 1 + 1 + 1, 0, none⟩) 0 0) ([] : List Int) := by
    have h := Own.of_blk (base := w.heap.size + 3) (xs := ([] : List Int)) (enc := eI) (Blk.new (((w.alloc (.cells #[.slice A n c] 52)).alloc (.cells #[.slice none 0 0] 52)).alloc (.cells #[.slice A n c] 52)) 3 #[]) (by simp) encI (by simp [maxLen])
    simpa using h
  have src := hs.below hB1
  skip
  skip
  have cB1_0 := B1.c0; have fB1 := B1.frozen; have cB2_0 := B2.c0; have fB2 := B2.frozen; have cB3_0 := B3.c0; have fB3 := B3.frozen
  go_enter Try.func68, Try.ntmps68
  go_wp2_with (at_builtin; refine app_own rfl _ _ appInt rfl encI (w.heap.size + 3) _ [] rfl own0 _ _ _ xs rfl hnil src (by simp; omega) (by simp) ?_; intro v5 w5 own5 hg5; have hB5 := belowApp hB1 own0 hg5 (by omega) hB1.size; have B1a := B1.app own0 hg5 (by omega); have B2a := B2.app own0 hg5 (by omega); have B3a := B3.app own0 hg5 (by omega); clear hg5 own0 hB1 src B1 B2 B3; simp only [List.nil_append] at own5; have e1 := B1a.c0; have e2 := B2a.c0; have e3 := B3a.c0; have e4 := B2a.frozen; have e5 := B3a.frozen; obtain ⟨A9, c9, rfl, hA9, hsl9, hfr9⟩ := own5.sl encI; have hok : SV.ok w5 (w.heap.size + 3) 1 eI ⟨A9, xs.length, c9, xs⟩ := ⟨hsl9, fun b o e => (hfr9 b o e).1, hA9.1, hA9.2⟩)
  go_wp2
  exact bodyPost_ret (v := .agg #[SV.v ⟨A9, xs.length, c9, xs⟩]) (by simp [results, Try.results68, go_sem, SV.v, e2, e3]) rfl ⟨⟨A9, xs.length, c9, xs⟩, rfl, okSetH (okSetH (base' := w.heap.size + 3) hok (by omega) (Nat.le_refl _) _) (by omega) (by omega) _, rfl, (hB5.setCell (p := ⟨w.heap.size + 1 + 1, 0, none⟩) (by simp only []; omega) _).setCell (p := ⟨w.heap.size + 1, 0, none⟩) (by simp only []; omega) _⟩

theorem okOne (w : World) (base g : Nat) (m : Int) (h : Blk w g 3 #[.int .i64 m]) (hb : base ≤ g) : SV.ok w base 1 eI ⟨some ⟨g, 0, none⟩, 1, 1, [m]⟩ :=
  ⟨Sl.of_blk (xs := [m]) h encI (by simp), (fun b o e => by injection e with e; injection e with e1 e2; omega), (fun e => by cases e), (fun ad e => by injection e with e; rw [← e])⟩
theorem sendLast_any (A : Option Addr) (n c : Nat) (m : Int) (w : World) :
    Calls Try.prog 80 #[.agg #[.slice A n c], .int .i64 1, .int .i64 1, .int .i64 m] w (Post hdV fun x w' => SV.ok w' w.heap.size 1 eI x.1 ∧ x.1.xs = [m] ∧ x.2 = 0 ∧ Below w.heap.size w w') := by
  have hb0 := alo (alo (alo (Below.refl w.heap.size w) (.cells #[.slice A n c] 52)) (.cells #[.slice (some ⟨w.heap.size + 1 + 1, 0, none⟩) 1 1] 52)) (.cells #[.int .i64 m] 3)
  have B9 : Blk (((w.alloc (.cells #[.slice A n c] 52)).alloc (.cells #[.slice (some ⟨w.heap.size + 1 + 1, 0, none⟩) 1 1] 52)).alloc (.cells #[.int .i64 m] 3)) (w.heap.size + 1 + 1) 3 #[.int .i64 m] := by
    have := Blk.new2 (w.alloc (.cells #[.slice A n c] 52)) (.cells #[.slice (some ⟨w.heap.size + 1 + 1, 0, none⟩) 1 1] 52) 3 #[.int .i64 m]
    simpa using this
  have B8 := (Blk.new2 w (.cells #[.slice A n c] 52) 52 #[.slice (some ⟨w.heap.size + 1 + 1, 0, none⟩) 1 1]).alloc (.cells #[.int .i64 m] 3)
  have c8 := B8.c0
  have hok := okOne _ w.heap.size _ m B9 (by omega)
  go_enter Try.func80, Try.ntmps80
  go_wp2
  exact bodyPost_ret (v := hdV (⟨some ⟨w.heap.size + 1 + 1, 0, none⟩, 1, 1, [m]⟩, 0)) (by simp [results, Try.results80, go_sem, hdV, SV.v, c8]) rfl ⟨(⟨some ⟨w.heap.size + 1 + 1, 0, none⟩, 1, 1, [m]⟩, 0), rfl, hok, rfl, rfl, hb0⟩
theorem holdOk_one {m : Int} (h : 0 ≤ m ∧ m ≤ 255) : holdOk [m] 1 1 = true := by
  simp only [holdOk, sizedOk, Bool.and_eq_true, decide_eq_true_eq, List.all_eq_true, List.mem_singleton, forall_eq, inB_true]
  exact ⟨rfl, by simp, h⟩
set_option maxHeartbeats 1000000 in
theorem holdSendLast_any (A : Option Addr) (n c : Nat) (xs : List Int) (m : Int) (hm : 0 ≤ m ∧ m ≤ 255) (hx : holdOk xs 1 1 = true) (w : World) (hs : Sl w 1 eI A n c xs) :
    Calls Try.prog 48 #[.agg #[.slice A n c], .int .i64 1, .int .i64 1, .int .i64 m] w (Post hdV fun x w' => SV.ok w' w.heap.size 1 eI x.1 ∧ x.1.xs = [m] ∧ x.2 = 0 ∧ Below w.heap.size w w') := by
  have hb0 := alo (alo (Below.refl w.heap.size w) (.cells #[.slice A n c] 52)) (.cells #[.slice none 0 0] 52)
  have B4 := (Blk.new w 52 #[.slice A n c]).alloc (.cells #[.slice none 0 0] 52)
  have B8 := Blk.new2 w (.cells #[.slice A n c] 52) 52 #[.slice none 0 0]
  skip
  skip
  have cB4_0 := B4.c0; have fB4 := B4.frozen; have cB8_0 := B8.c0; have fB8 := B8.frozen
  have h1 := holdValid_any A n c xs 1 1 _ (hs.below hb0)
  rw [hx] at h1
  have h2 := fun W => isValue_any m W
  rw [inB_true.2 hm] at h2
  have h3 := fun W => sendLast_any A n c m W
  clear hs hx hm
  go_enter Try.func48, Try.ntmps48
  go_wp2_with fail; refine (h1).mono ?_; rintro e w1 ⟨rfl, hbw1⟩; replace B4 := Blk.belowOf B4 hbw1 (by repeat (first | exact B4 | apply Blk.alloc | apply Blk.drew | (apply Blk.far; rotate_left; (first | assumption | exact Ne.symm (by assumption))) | apply Blk.set_)); replace B8 := Blk.belowOf B8 hbw1 (by repeat (first | exact B8 | apply Blk.alloc | apply Blk.drew | (apply Blk.far; rotate_left; (first | assumption | exact Ne.symm (by assumption))) | apply Blk.set_))
  go_wp2_with fail; refine (h2 _).mono ?_; rintro e w' ⟨rfl, rfl⟩
  clear cB4_0 fB4 cB8_0 fB8
  have hb1 := thn hb0 hbw1
  have hz1 : w.heap.size + 1 < w1.heap.size := B8.lt
  have cB4_0 := B4.c0; have fB4 := B4.frozen; have cB8_0 := B8.c0; have fB8 := B8.frozen
  go_wp2_with fail
  refine (h3 _).mono ?_
  rintro e w2 ⟨⟨⟨A9, n9, c9, l9⟩, z⟩, rfl, hok, hl, hz, hb2⟩
  simp only [hdV, SV.v] at hok hl hz ⊢
  have HZ := Lib.hid hz
  clear hz
  replace B8 := B8.below hb2
  have hb3 := thn hb1 hb2
  skip
  have cB8_0 := B8.c0; have fB8 := B8.frozen
  go_wp2
  exact bodyPost_ret (v := hdV (⟨A9, n9, c9, l9⟩, z)) (by simp [results, Try.results48, go_sem, hdV, SV.v, cB8_0]) rfl ⟨(⟨A9, n9, c9, l9⟩, z), rfl, okSetH hok hz1 (by omega) _, hl, HZ.out, hb3.setCell (p := ⟨w.heap.size + 1, 0, none⟩) (by simp only []; omega) _⟩
set_option maxHeartbeats 1000000 in
theorem holdTakeLast_any (b o c : Nat) (y : Int) (hy : 0 ≤ y ∧ y ≤ 255) (w : World) (hs : Sl w 1 eI (some ⟨b, o, none⟩) 1 c [y]) :
    Calls Try.prog 33 #[.agg #[.slice (some ⟨b, o, none⟩) 1 c], .int .i64 1, .int .i64 1] w (Post hdV fun x w' => SV.ok w' w.heap.size 1 eI x.1 ∧ x.1.xs = [y] ∧ x.2 = y ∧ Below w.heap.size w w') := by
  obtain ⟨A, hA⟩ : ∃ A, (some ⟨b, o, none⟩ : Option Addr) = A := ⟨_, rfl⟩
  obtain ⟨n, hn⟩ : ∃ n, (1 : Nat) = n := ⟨_, rfl⟩
  subst hA hn
  have hb0 := alo (alo (Below.refl w.heap.size w) (.cells #[.slice (some ⟨b, o, none⟩) 1 c] 52)) (.cells #[.slice none 0 0] 52)
  have B4 := (Blk.new w 52 #[.slice (some ⟨b, o, none⟩) 1 c]).alloc (.cells #[.slice none 0 0] 52)
  have B8 := Blk.new2 w (.cells #[.slice (some ⟨b, o, none⟩) 1 c] 52) 52 #[.slice none 0 0]
  skip
  have cB4_0 := B4.c0; have fB4 := B4.frozen; have cB8_0 := B8.c0; have fB8 := B8.frozen
  have h1 := holdValid_any _ _ _ [y] 1 1 _ (hs.below hb0)
  rw [holdOk_one hy] at h1
  have h3 := fun W hW => takeLast_any b o 1 c [y] y (by omega) rfl W (hs.below hW)
  clear hs hy
  go_enter Try.func33, Try.ntmps33
  go_wp2_with fail; refine (h1).mono ?_; rintro e w1 ⟨rfl, hbw1⟩; replace B4 := Blk.belowOf B4 hbw1 (by repeat (first | exact B4 | apply Blk.alloc | apply Blk.drew | (apply Blk.far; rotate_left; (first | assumption | exact Ne.symm (by assumption))) | apply Blk.set_)); replace B8 := Blk.belowOf B8 hbw1 (by repeat (first | exact B8 | apply Blk.alloc | apply Blk.drew | (apply Blk.far; rotate_left; (first | assumption | exact Ne.symm (by assumption))) | apply Blk.set_))
  clear cB4_0 fB4 cB8_0 fB8
  have hb1 := thn hb0 hbw1
  have hz1 : w.heap.size + 1 < w1.heap.size := B8.lt
  have cB4_0 := B4.c0; have fB4 := B4.frozen; have cB8_0 := B8.c0; have fB8 := B8.frozen
  go_wp2_with fail
  refine (h3 _ hb1).mono ?_
  rintro e w2 ⟨⟨⟨A9, n9, c9, l9⟩, z⟩, rfl, hok, hl, hz, hb2⟩
  simp only [hdV, SV.v] at hok hl hz ⊢
  have HZ := Lib.hid hz
  clear hz
  replace B8 := B8.below hb2
  have hb3 := thn hb1 hb2
  skip
  have cB8_0 := B8.c0; have fB8 := B8.frozen
  go_wp2
  exact bodyPost_ret (v := hdV (⟨A9, n9, c9, l9⟩, z)) (by simp [results, Try.results33, go_sem, hdV, SV.v, cB8_0]) rfl ⟨(⟨A9, n9, c9, l9⟩, z), rfl, okSetH hok hz1 (by omega) _, hl, HZ.out, hb3.setCell (p := ⟨w.heap.size + 1, 0, none⟩) (by simp only []; omega) _⟩
set_option maxHeartbeats 1000000 in
theorem specHoldSendLast_any (m : Int) (hm : 0 ≤ m ∧ m ≤ 255) (w : World) :
    Calls Try.prog 47 #[.agg #[.slice none 0 0], .int .i64 1, .int .i64 1, .int .i64 m] w (Post hdV fun x w' => SV.ok w' w.heap.size 1 eI x.1 ∧ x.1.xs = [m] ∧ x.2 = 0 ∧ Below w.heap.size w w') := by
  have hb0 := alo (alo (Below.refl w.heap.size w) (.cells #[.slice none 0 0] 52)) (.cells #[.slice none 0 0] 52)
  have B4 := (Blk.new w 52 #[.slice none 0 0]).alloc (.cells #[.slice none 0 0] 52)
  have B8 := Blk.new2 w (.cells #[.slice none 0 0] 52) 52 #[.slice none 0 0]
  skip
  have cB4_0 := B4.c0; have fB4 := B4.frozen; have cB8_0 := B8.c0; have fB8 := B8.frozen
  have h1 := fun W => ownHold_any none 0 0 [] (by omega) (fun _ => rfl) W (slN W 1 eI)
  have h2 := fun W => l1In_any m 0 255 W
  rw [inB_true.2 hm] at h2
  clear hm
  go_enter Try.func47, Try.ntmps47
  go_wp2_with fail
  refine (h1 _).mono ?_
  rintro e w1 ⟨⟨A9, n9, c9, l9⟩, rfl, ⟨hsl9, -, -, -⟩, hl9, hbw1⟩
  simp only [SV.v] at hsl9 hl9 ⊢
  subst hl9
  replace B4 := B4.below hbw1
  replace B8 := B8.below hbw1
  have hb1 := thn hb0 hbw1
  have hz1 : w.heap.size + 1 < w1.heap.size := B8.lt
  skip
  clear cB4_0 fB4 cB8_0 fB8
  have hv := specHoldValid_any A9 n9 c9 [] 1 1 (w1.setCell ⟨w.heap.size, 0, none⟩ (.slice A9 n9 c9)) ⟨hsl9.len, hsl9.le, hsl9.max, fun h => by have := hsl9.len; simp at this; omega⟩
  rw [show holdOk [] 1 1 = true from rfl] at hv
  have B4a : Blk (w1.setCell ⟨w.heap.size, 0, none⟩ (.slice A9 n9 c9)) w.heap.size 52 #[.slice A9 n9 c9] := B4.set_ 0 _
  have B8a := B8.far (p := ⟨w.heap.size, 0, none⟩) (by simp only []; omega) (.slice A9 n9 c9)
  have hb2 := hb1.setCell (p := ⟨w.heap.size, 0, none⟩) (Nat.le_refl _) (.slice A9 n9 c9)
  have c4 := B4.c0
  have f4 := B4.frozen
  have c4a := B4a.c0
  go_wp2_with fail
  refine hv.mono ?_
  rintro e w3 ⟨rfl, hb3⟩
  replace B4a := B4a.below hb3
  replace B8a := B8a.below hb3
  have hz3 : w.heap.size + 1 < w3.heap.size := B8a.lt
  have B8b : Blk (w3.setCell ⟨w.heap.size + 1, 0, none⟩ (.slice (some ⟨w3.heap.size, 0, none⟩) 1 1)) (w.heap.size + 1) 52 #[.slice (some ⟨w3.heap.size, 0, none⟩) 1 1] := B8a.set_ 0 _
  have hb4 := alo ((thn hb2 hb3).setCell (p := ⟨w.heap.size + 1, 0, none⟩) (by simp only []; omega) (.slice (some ⟨w3.heap.size, 0, none⟩) 1 1)) (.cells #[.int .i64 m] 3)
  have hsz : (w3.setCell ⟨w.heap.size + 1, 0, none⟩ (.slice (some ⟨w3.heap.size, 0, none⟩) 1 1)).heap.size = w3.heap.size := by simp [World.setCell]
  have hnew := Blk.new (w3.setCell ⟨w.heap.size + 1, 0, none⟩ (.slice (some ⟨w3.heap.size, 0, none⟩) 1 1)) 3 #[.int .i64 m]
  rw [hsz] at hnew
  have hok := okOne _ w.heap.size _ m hnew (by omega)
  have c8b := (B8b.alloc (.cells #[.int .i64 m] 3)).c0
  clear hsz hnew B8b
  have B8c := B8a.alloc (.cells #[.int .i64 m] 3)
  have c8 := B8c.c0
  have f8 := B8c.frozen
  clear B8c
  go_wp2_with fail
  refine (h2 _).mono ?_
  rintro e w' ⟨rfl, rfl⟩
  go_wp2
  exact bodyPost_ret (v := hdV (⟨some ⟨w3.heap.size, 0, none⟩, 1, 1, [m]⟩, 0)) (by simp [results, Try.results47, go_sem, hdV, SV.v, c8b]) rfl ⟨(⟨some ⟨w3.heap.size, 0, none⟩, 1, 1, [m]⟩, 0), rfl, hok, rfl, rfl, hb4⟩
end Go.Proofs.Ytenbpaoelipifaa
