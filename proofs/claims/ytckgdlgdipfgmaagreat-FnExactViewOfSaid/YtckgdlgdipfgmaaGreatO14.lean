/- The exact laws' mark functions at a machine: they write only into its own blocks, and no header. markSetup, markMachine. Rows of slices apart. The walk of FnExactViewOf. -/
import Derived.Test.YtckgdlgdipfgmaaGreatO5
import Derived.Test.YtckgdlgdipfgmaaGreatO8
import Derived.Test.YtckgdlgdipfgmaaGreatO10
import Derived.Test.YtckgdlgdipfgmaaGreatO12
import Derived.Test.YtckgdlgdipfgmaaGreatO13

namespace Go.Proofs.YtckgdlgdipfgmaaGreat
set_option linter.unusedVariables false
set_option linter.unusedSimpArgs false
open Go.RowKit

/-- No slice header. -/
def noSl (v : Value) : Prop := ∀ A n c, v ≠ .slice A n c
theorem noSl_int (z : Int) : noSl (.int .i64 z) := fun _ _ _ e => by cases e
theorem noSl_bool (z : Bool) : noSl (.bool z) := fun _ _ _ e => by cases e
/-- A cell behind marks: as before, or no header before and behind. -/
def CellRel (v v' : Value) : Prop := v' = v ∨ (noSl v ∧ noSl v')
theorem CellRel.refl (v : Value) : CellRel v v := .inl rfl
theorem CellRel.trans {a b c : Value} (h : CellRel a b) (k : CellRel b c) : CellRel a c := by
  rcases h with rfl | ⟨h1, h2⟩
  · exact k
  · rcases k with rfl | ⟨k1, k2⟩
    · exact .inr ⟨h1, h2⟩
    · exact .inr ⟨h1, k2⟩
theorem CellRel.no {a b : Value} (h : CellRel a b) (ha : noSl a) : noSl b := by
  rcases h with rfl | ⟨_, h2⟩
  · exact ha
  · exact h2
theorem CellRel.sl {A : Option Addr} {n c : Nat} {b : Value} (h : CellRel (.slice A n c) b) : b = .slice A n c := by
  rcases h with rfl | ⟨h1, _⟩
  · rfl
  · exact absurd rfl (h1 A n c)
/-- What marks do: only blocks lo .. hi-1 turn, cell by cell. -/
structure Mk (lo hi : Nat) (w w' : World) : Prop where
  os : w'.os = w.os
  tape : w'.tape = w.tape
  output : w'.output = w.output
  size : w.heap.size ≤ w'.heap.size
  out : ∀ i, i < w.heap.size → ¬ (lo ≤ i ∧ i < hi) → w'.heap[i]? = w.heap[i]?
  cells : ∀ (i : Nat) (cs : Array Value) (t : TypeId), Blk w i t cs → ∃ cs' : Array Value, Blk w' i t cs' ∧ ∀ (j : Nat) (v : Value), cs[j]? = some v → ∃ v', cs'[j]? = some v' ∧ CellRel v v'
theorem Mk.refl (lo hi : Nat) (w : World) : Mk lo hi w w := ⟨rfl, rfl, rfl, Nat.le_refl _, fun _ _ _ => rfl, fun i cs t h => ⟨cs, h, fun j v hv => ⟨v, hv, .refl v⟩⟩⟩
theorem Mk.trans {lo hi : Nat} {a b c : World} (h : Mk lo hi a b) (k : Mk lo hi b c) : Mk lo hi a c :=
  ⟨k.os.trans h.os, k.tape.trans h.tape, k.output.trans h.output, Nat.le_trans h.size k.size, fun i hi' hn => (k.out i (Nat.lt_of_lt_of_le hi' h.size) hn).trans (h.out i hi' hn), fun i cs t hB => by
    obtain ⟨cs1, B1, h1⟩ := h.cells i cs t hB
    obtain ⟨cs2, B2, h2⟩ := k.cells i cs1 t B1
    refine ⟨cs2, B2, fun j v hv => ?_⟩
    obtain ⟨v1, e1, r1⟩ := h1 j v hv
    obtain ⟨v2, e2, r2⟩ := h2 j v1 e1
    exact ⟨v2, e2, r1.trans r2⟩⟩
theorem Mk.alloc {lo hi : Nat} {a b : World} (h : Mk lo hi a b) (o : Obj) : Mk lo hi a (b.alloc o) :=
  h.trans ⟨rfl, rfl, rfl, by simp, fun i hi' _ => Below.heap_alloc b o i hi', fun i cs t hB => ⟨cs, hB.alloc o, fun j v hv => ⟨v, hv, .refl v⟩⟩⟩
theorem Mk.set {lo hi : Nat} {w : World} {g i : Nat} {t : TypeId} {cs : Array Value} {v u : Value} (B : Blk w g t cs) (hlo : lo ≤ g) (hhi : g < hi) (hv : cs[i]? = some v) (hn : noSl v) (hu : noSl u) : Mk lo hi w (w.setCell ⟨g, i, none⟩ u) := by
  refine ⟨rfl, rfl, rfl, by simp [World.setCell], fun j _ hj => Below.heap_setCell _ _ _ _ (by rintro rfl; exact hj ⟨hlo, hhi⟩), fun j cs' t' hB => ?_⟩
  by_cases e : j = g
  · subst e
    have h1 : cs' = cs ∧ t' = t := by
      unfold Blk at hB B
      rw [B] at hB
      injection hB with hB
      injection hB with h1 h2
      exact ⟨h1.symm, h2.symm⟩
    obtain ⟨rfl, rfl⟩ := h1
    refine ⟨_, B.set_ i u, fun k x hx => ?_⟩
    by_cases e : k = i
    · subst e
      rw [hv] at hx
      injection hx with hx
      subst hx
      have hk : k < cs'.size := (Array.getElem?_eq_some_iff.1 hv).1
      exact ⟨u, Array.getElem?_setIfInBounds_self_of_lt hk, .inr ⟨hn, hu⟩⟩
    · exact ⟨x, by rw [Array.getElem?_setIfInBounds_ne (Ne.symm e)]; exact hx, .refl x⟩
  · exact ⟨cs', hB.far e u, fun k x hx => ⟨x, hx, .refl x⟩⟩
theorem belowMk {lo hi B : Nat} {a w w' : World} (h : Below B a w) (m : Mk lo hi w w') (hB : B ≤ lo) (hs : B ≤ w.heap.size) : Below B a w' :=
  h.trans ⟨m.os, m.tape, m.output, m.size, fun i hi => m.out i (by omega) (by omega)⟩
theorem Sl.marked {α : Type} {w w' : World} {k n c lo hi : Nat} {enc : α → List Value} {A : Option Addr} {xs : List α} (h : Sl w k enc A n c xs) (m : Mk lo hi w w') (hA : ∀ b o, A = some ⟨b, o, none⟩ → b < w.heap.size ∧ ¬ (lo ≤ b ∧ b < hi)) : Sl w' k enc A n c xs :=
  h.keep m.size (fun b o e => m.out b (hA b o e).1 (hA b o e).2)
/-- A slice that can be marked. -/
def mkL {α : Type} (lo hi : Nat) (w : World) (k : Nat) (enc : α → List Value) (s : SV α) : Prop :=
  s.xs.length = s.n ∧ s.n ≤ 9223372036854775807 ∧ ∃ g t cs, s.A = some ⟨g, 0, none⟩ ∧ lo ≤ g ∧ g < hi ∧ Blk w g t cs ∧ ∀ (i : Nat) (x : α) (j : Nat) (v : Value), s.xs[i]? = some x → (enc x)[j]? = some v → ∃ v', cs[i * k + j]? = some v' ∧ CellRel v v'
section
variable {α : Type} {lo hi k : Nat} {enc : α → List Value} {w w' : World} {s : SV α}
theorem mkL.mk (h : mkL lo hi w k enc s) (m : Mk lo hi w w') : mkL lo hi w' k enc s := by
  obtain ⟨h1, h2, g, t, cs, hA, hlo, hhi, B, hc⟩ := h
  obtain ⟨cs', B', hr⟩ := m.cells g cs t B
  refine ⟨h1, h2, g, t, cs', hA, hlo, hhi, B', fun i x j v hx hv => ?_⟩
  obtain ⟨v1, e1, r1⟩ := hc i x j v hx hv
  obtain ⟨v2, e2, r2⟩ := hr _ v1 e1
  exact ⟨v2, e2, r1.trans r2⟩
theorem mkL.addr (h : mkL lo hi w k enc s) : ∃ g, s.A = some ⟨g, 0, none⟩ ∧ lo ≤ g ∧ g < hi ∧ s.n ≤ 9223372036854775807 := by
  obtain ⟨h1, h2, g, t, cs, hA, hlo, hhi, B, hc⟩ := h
  exact ⟨g, hA, hlo, hhi, h2⟩
theorem mkL.at {g n c : Nat} {xs : List α} (h : mkL lo hi w k enc ⟨some ⟨g, 0, none⟩, n, c, xs⟩) {kk : Nat} (hk : kk < n) : ∃ x t cs, xs[kk]? = some x ∧ Blk w g t cs ∧ ∀ (j : Nat) (v : Value), (enc x)[j]? = some v → ∃ v', cs[kk * k + j]? = some v' ∧ CellRel v v' := by
  obtain ⟨h1, -, g', t, cs, hA, hlo, hhi, B, hc⟩ := h
  simp only [] at hA h1 hc
  injection hA with hA
  injection hA with hA _
  subst hA
  have hx : xs[kk]? = some xs[kk] := List.getElem?_eq_getElem (by omega)
  exact ⟨_, t, cs, hx, B, fun j v hv => hc kk _ j v hx hv⟩
theorem mkL.of (h : Sl w k enc s.A s.n s.c s.xs) (hf : Fr w lo s.A) (hs : w.heap.size ≤ hi) : mkL lo hi w k enc s := by
  obtain ⟨g, t, cs, hA, hlo, B⟩ := hf
  have hlt := B.lt
  have hle := h.le
  have hmax := h.max
  refine ⟨h.len, by omega, g, t, cs, hA, hlo, by omega, B, fun i x j v hx hv => ?_⟩
  have hi' : i < s.xs.length := (List.getElem?_eq_some_iff.1 hx).1
  have hl := h.len
  obtain ⟨b, o, e, -, hc⟩ := h.cells (by omega)
  rw [hA] at e
  injection e with e
  injection e with e1 e2
  subst e1 e2
  have h9 := hc i x hx j v hv
  rw [B.cell, Nat.zero_add] at h9
  exact ⟨v, h9, .refl v⟩
end
set_option maxHeartbeats 2000000 in
theorem markI_mk {lo hi : Nat} (s : SV Int) (k : Int) (hk : 0 ≤ k ∧ k ≤ 100000000000000) (hn : s.n ≤ 1048576) (w : World) (h : mkL lo hi w 1 eI s) :
    Calls Tryz.prog 18 #[s.v, .int .i64 k] w (Post (fun m : Int => .int .i64 m) fun m w' => (k ≤ m ∧ m ≤ k + 4194304) ∧ Mk lo hi w w') := by
  obtain ⟨A, n, c, xs⟩ := s
  obtain ⟨g, hA, hlo, hhi, -⟩ := h.addr
  simp only [] at hA
  subst hA
  simp only [SV.v] at hn ⊢
  obtain ⟨hk0, hk1⟩ := hk
  go_enter Tryz.func18, Tryz.ntmps18
  go_wp2
  go_loopg [1, 5] n (fun gg s1 s5 wr => ∃ (kk : Nat) (m : Int), kk ≤ n ∧ n - kk ≤ gg ∧ s1 = .int .i64 m ∧ s5 = .int .i64 kk ∧ (k ≤ m ∧ m ≤ k + 1 * kk) ∧ Aside (Mk lo hi w wr))
  case atStart => exact ⟨0, k, Nat.zero_le _, by omega, rfl, rfl, by omega, (show Aside _ from Mk.refl _ _ _)⟩
  case round =>
    obtain ⟨kk, m, hkk, hg, rfl, rfl, ⟨hm0, hm1⟩, MM⟩ := hrel
    have hM := MM.out
    clear MM
    by_cases hlt : kk < n
    · have hltz : (kk : Int) < (n : Int) := by omega
      obtain ⟨x, t, cs, hxx, B, hc⟩ := (h.mk hM).at hlt
      obtain ⟨v0, e0, r0⟩ := hc 0 _ rfl
      have n0 := r0.no (by intro _ _ _ e; cases e)
      simp only [Nat.add_zero, Nat.mul_one] at e0
      clear hc r0 hxx
      have x0 := (B.cell (kk)).trans e0
      have f0 := B.frozen
      go_wp2
      go_roundg (n - (kk + 1))
      case measure => omega
      case rel => exact ⟨kk + 1, m + 1, by omega, by omega, by go_num, by go_num, by omega, (show Aside _ from hM.trans (Mk.set B hlo hhi e0 n0 (noSl_int _)))⟩
    · have hltz : ¬ (kk : Int) < (n : Int) := by omega
      obtain rfl : n = kk := by omega
      go_wp2
      go_ret
      exact ⟨m, rfl, ⟨hm0, by omega⟩, hM⟩
set_option maxHeartbeats 2000000 in
theorem markW_mk {lo hi : Nat} (s : SV Win) (k : Int) (hk : 0 ≤ k ∧ k ≤ 100000000000000) (hn : s.n ≤ 1048576) (w : World) (h : mkL lo hi w 3 Win.cells s) :
    Calls Tryz.prog 124 #[s.v, .int .i64 k] w (Post (fun m : Int => .int .i64 m) fun m w' => (k ≤ m ∧ m ≤ k + 4194304) ∧ Mk lo hi w w') := by
  obtain ⟨A, n, c, xs⟩ := s
  obtain ⟨g, hA, hlo, hhi, -⟩ := h.addr
  simp only [] at hA
  subst hA
  simp only [SV.v] at hn ⊢
  obtain ⟨hk0, hk1⟩ := hk
  go_enter Tryz.func124, Tryz.ntmps124
  go_wp2
  go_loopg [1, 5] n (fun gg s1 s5 wr => ∃ (kk : Nat) (m : Int), kk ≤ n ∧ n - kk ≤ gg ∧ s1 = .int .i64 m ∧ s5 = .int .i64 kk ∧ (k ≤ m ∧ m ≤ k + 3 * kk) ∧ Aside (Mk lo hi w wr))
  case atStart => exact ⟨0, k, Nat.zero_le _, by omega, rfl, rfl, by omega, (show Aside _ from Mk.refl _ _ _)⟩
  case round =>
    obtain ⟨kk, m, hkk, hg, rfl, rfl, ⟨hm0, hm1⟩, MM⟩ := hrel
    have hM := MM.out
    clear MM
    by_cases hlt : kk < n
    · have hltz : (kk : Int) < (n : Int) := by omega
      obtain ⟨x, t, cs, hxx, B, hc⟩ := (h.mk hM).at hlt
      obtain ⟨y0, y1, y2⟩ := x
      obtain ⟨v0, e0, r0⟩ := hc 0 _ rfl
      have n0 := r0.no (by intro _ _ _ e; cases e)
      obtain ⟨v1, e1, r1⟩ := hc 1 _ rfl
      have n1 := r1.no (by intro _ _ _ e; cases e)
      obtain ⟨v2, e2, r2⟩ := hc 2 _ rfl
      have n2 := r2.no (by intro _ _ _ e; cases e)
      simp only [Nat.add_zero, Nat.mul_one] at e0 e1 e2
      clear hc r0 r1 r2 hxx
      have x0 := (B.cell (kk * 3)).trans e0
      have f0 := B.frozen
      have BB0 := B.set_ (kk * 3) (.int .i64 m)
      replace e1 := (Array.getElem?_setIfInBounds_ne (xs := _) (i := kk * 3) (j := kk * 3 + 1) (a := (.int .i64 m)) (by omega)).trans e1
      replace e2 := (Array.getElem?_setIfInBounds_ne (xs := _) (i := kk * 3) (j := kk * 3 + 2) (a := (.int .i64 m)) (by omega)).trans e2
      have x1 := (BB0.cell (kk * 3 + 1)).trans e1
      have f1 := BB0.frozen
      have BB1 := BB0.set_ (kk * 3 + 1) (.int .i64 (m + 1))
      replace e2 := (Array.getElem?_setIfInBounds_ne (xs := _) (i := kk * 3 + 1) (j := kk * 3 + 2) (a := (.int .i64 (m + 1))) (by omega)).trans e2
      have x2 := (BB1.cell (kk * 3 + 2)).trans e2
      have f2 := BB1.frozen
      go_wp2
      go_roundg (n - (kk + 1))
      case measure => omega
      case rel => exact ⟨kk + 1, m + 3, by omega, by omega, by go_num, by go_num, by omega, (show Aside _ from hM.trans ((Mk.set B hlo hhi e0 n0 (noSl_int _)).trans ((Mk.set BB0 hlo hhi e1 n1 (noSl_int _)).trans (Mk.set BB1 hlo hhi e2 n2 (noSl_bool _)))))⟩
    · have hltz : ¬ (kk : Int) < (n : Int) := by omega
      obtain rfl : n = kk := by omega
      go_wp2
      go_ret
      exact ⟨m, rfl, ⟨hm0, by omega⟩, hM⟩
set_option maxHeartbeats 2000000 in
theorem markC_mk {lo hi : Nat} (s : SV ChanT) (k : Int) (hk : 0 ≤ k ∧ k ≤ 100000000000000) (hn : s.n ≤ 1048576) (w : World) (h : mkL lo hi w 4 eC s) :
    Calls Tryz.prog 95 #[s.v, .int .i64 k] w (Post (fun m : Int => .int .i64 m) fun m w' => (k ≤ m ∧ m ≤ k + 4194304) ∧ Mk lo hi w w') := by
  obtain ⟨A, n, c, xs⟩ := s
  obtain ⟨g, hA, hlo, hhi, -⟩ := h.addr
  simp only [] at hA
  subst hA
  simp only [SV.v] at hn ⊢
  obtain ⟨hk0, hk1⟩ := hk
  go_enter Tryz.func95, Tryz.ntmps95
  go_wp2
  go_loopg [1, 5] n (fun gg s1 s5 wr => ∃ (kk : Nat) (m : Int), kk ≤ n ∧ n - kk ≤ gg ∧ s1 = .int .i64 m ∧ s5 = .int .i64 kk ∧ (k ≤ m ∧ m ≤ k + 4 * kk) ∧ Aside (Mk lo hi w wr))
  case atStart => exact ⟨0, k, Nat.zero_le _, by omega, rfl, rfl, by omega, (show Aside _ from Mk.refl _ _ _)⟩
  case round =>
    obtain ⟨kk, m, hkk, hg, rfl, rfl, ⟨hm0, hm1⟩, MM⟩ := hrel
    have hM := MM.out
    clear MM
    by_cases hlt : kk < n
    · have hltz : (kk : Int) < (n : Int) := by omega
      obtain ⟨x, t, cs, hxx, B, hc⟩ := (h.mk hM).at hlt
      obtain ⟨y0, y1, y2, y3⟩ := x
      obtain ⟨v0, e0, r0⟩ := hc 0 _ rfl
      have n0 := r0.no (by intro _ _ _ e; cases e)
      obtain ⟨v1, e1, r1⟩ := hc 1 _ rfl
      have n1 := r1.no (by intro _ _ _ e; cases e)
      obtain ⟨v2, e2, r2⟩ := hc 2 _ rfl
      have n2 := r2.no (by intro _ _ _ e; cases e)
      obtain ⟨v3, e3, r3⟩ := hc 3 _ rfl
      have n3 := r3.no (by intro _ _ _ e; cases e)
      simp only [Nat.add_zero, Nat.mul_one] at e0 e1 e2 e3
      clear hc r0 r1 r2 r3 hxx
      have x0 := (B.cell (kk * 4)).trans e0
      have f0 := B.frozen
      have BB0 := B.set_ (kk * 4) (.int .i64 m)
      replace e1 := (Array.getElem?_setIfInBounds_ne (xs := _) (i := kk * 4) (j := kk * 4 + 1) (a := (.int .i64 m)) (by omega)).trans e1
      replace e2 := (Array.getElem?_setIfInBounds_ne (xs := _) (i := kk * 4) (j := kk * 4 + 2) (a := (.int .i64 m)) (by omega)).trans e2
      replace e3 := (Array.getElem?_setIfInBounds_ne (xs := _) (i := kk * 4) (j := kk * 4 + 3) (a := (.int .i64 m)) (by omega)).trans e3
      have x1 := (BB0.cell (kk * 4 + 1)).trans e1
      have f1 := BB0.frozen
      have BB1 := BB0.set_ (kk * 4 + 1) (.int .i64 (m + 1))
      replace e2 := (Array.getElem?_setIfInBounds_ne (xs := _) (i := kk * 4 + 1) (j := kk * 4 + 2) (a := (.int .i64 (m + 1))) (by omega)).trans e2
      replace e3 := (Array.getElem?_setIfInBounds_ne (xs := _) (i := kk * 4 + 1) (j := kk * 4 + 3) (a := (.int .i64 (m + 1))) (by omega)).trans e3
      have x2 := (BB1.cell (kk * 4 + 2)).trans e2
      have f2 := BB1.frozen
      have BB2 := BB1.set_ (kk * 4 + 2) (.int .i64 (m + 1 + 1))
      replace e3 := (Array.getElem?_setIfInBounds_ne (xs := _) (i := kk * 4 + 2) (j := kk * 4 + 3) (a := (.int .i64 (m + 1 + 1))) (by omega)).trans e3
      have x3 := (BB2.cell (kk * 4 + 3)).trans e3
      have f3 := BB2.frozen
      go_wp2
      go_roundg (n - (kk + 1))
      case measure => omega
      case rel => exact ⟨kk + 1, m + 4, by omega, by omega, by go_num, by go_num, by omega, (show Aside _ from hM.trans ((Mk.set B hlo hhi e0 n0 (noSl_int _)).trans ((Mk.set BB0 hlo hhi e1 n1 (noSl_int _)).trans ((Mk.set BB1 hlo hhi e2 n2 (noSl_int _)).trans (Mk.set BB2 hlo hhi e3 n3 (noSl_int _))))))⟩
    · have hltz : ¬ (kk : Int) < (n : Int) := by omega
      obtain rfl : n = kk := by omega
      go_wp2
      go_ret
      exact ⟨m, rfl, ⟨hm0, by omega⟩, hM⟩
set_option maxHeartbeats 2000000 in
theorem markS_mk {lo hi : Nat} (s : SV (Int × Int)) (k : Int) (hk : 0 ≤ k ∧ k ≤ 100000000000000) (hn : s.n ≤ 1048576) (w : World) (h : mkL lo hi w 2 eS s) :
    Calls Tryz.prog 96 #[s.v, .int .i64 k] w (Post (fun m : Int => .int .i64 m) fun m w' => (k ≤ m ∧ m ≤ k + 4194304) ∧ Mk lo hi w w') := by
  obtain ⟨A, n, c, xs⟩ := s
  obtain ⟨g, hA, hlo, hhi, -⟩ := h.addr
  simp only [] at hA
  subst hA
  simp only [SV.v] at hn ⊢
  obtain ⟨hk0, hk1⟩ := hk
  go_enter Tryz.func96, Tryz.ntmps96
  go_wp2
  go_loopg [1, 5] n (fun gg s1 s5 wr => ∃ (kk : Nat) (m : Int), kk ≤ n ∧ n - kk ≤ gg ∧ s1 = .int .i64 m ∧ s5 = .int .i64 kk ∧ (k ≤ m ∧ m ≤ k + 2 * kk) ∧ Aside (Mk lo hi w wr))
  case atStart => exact ⟨0, k, Nat.zero_le _, by omega, rfl, rfl, by omega, (show Aside _ from Mk.refl _ _ _)⟩
  case round =>
    obtain ⟨kk, m, hkk, hg, rfl, rfl, ⟨hm0, hm1⟩, MM⟩ := hrel
    have hM := MM.out
    clear MM
    by_cases hlt : kk < n
    · have hltz : (kk : Int) < (n : Int) := by omega
      obtain ⟨x, t, cs, hxx, B, hc⟩ := (h.mk hM).at hlt
      obtain ⟨y0, y1⟩ := x
      obtain ⟨v0, e0, r0⟩ := hc 0 _ rfl
      have n0 := r0.no (by intro _ _ _ e; cases e)
      obtain ⟨v1, e1, r1⟩ := hc 1 _ rfl
      have n1 := r1.no (by intro _ _ _ e; cases e)
      simp only [Nat.add_zero, Nat.mul_one] at e0 e1
      clear hc r0 r1 hxx
      have x0 := (B.cell (kk * 2)).trans e0
      have f0 := B.frozen
      have BB0 := B.set_ (kk * 2) (.int .i64 m)
      replace e1 := (Array.getElem?_setIfInBounds_ne (xs := _) (i := kk * 2) (j := kk * 2 + 1) (a := (.int .i64 m)) (by omega)).trans e1
      have x1 := (BB0.cell (kk * 2 + 1)).trans e1
      have f1 := BB0.frozen
      go_wp2
      go_roundg (n - (kk + 1))
      case measure => omega
      case rel => exact ⟨kk + 1, m + 2, by omega, by omega, by go_num, by go_num, by omega, (show Aside _ from hM.trans ((Mk.set B hlo hhi e0 n0 (noSl_int _)).trans (Mk.set BB0 hlo hhi e1 n1 (noSl_int _))))⟩
    · have hltz : ¬ (kk : Int) < (n : Int) := by omega
      obtain rfl : n = kk := by omega
      go_wp2
      go_ret
      exact ⟨m, rfl, ⟨hm0, by omega⟩, hM⟩
set_option maxHeartbeats 2000000 in
theorem markO_mk {lo hi : Nat} (s : SV (Int × Int × Int)) (k : Int) (hk : 0 ≤ k ∧ k ≤ 100000000000000) (hn : s.n ≤ 1048576) (w : World) (h : mkL lo hi w 3 eO s) :
    Calls Tryz.prog 97 #[s.v, .int .i64 k] w (Post (fun m : Int => .int .i64 m) fun m w' => (k ≤ m ∧ m ≤ k + 4194304) ∧ Mk lo hi w w') := by
  obtain ⟨A, n, c, xs⟩ := s
  obtain ⟨g, hA, hlo, hhi, -⟩ := h.addr
  simp only [] at hA
  subst hA
  simp only [SV.v] at hn ⊢
  obtain ⟨hk0, hk1⟩ := hk
  go_enter Tryz.func97, Tryz.ntmps97
  go_wp2
  go_loopg [1, 5] n (fun gg s1 s5 wr => ∃ (kk : Nat) (m : Int), kk ≤ n ∧ n - kk ≤ gg ∧ s1 = .int .i64 m ∧ s5 = .int .i64 kk ∧ (k ≤ m ∧ m ≤ k + 3 * kk) ∧ Aside (Mk lo hi w wr))
  case atStart => exact ⟨0, k, Nat.zero_le _, by omega, rfl, rfl, by omega, (show Aside _ from Mk.refl _ _ _)⟩
  case round =>
    obtain ⟨kk, m, hkk, hg, rfl, rfl, ⟨hm0, hm1⟩, MM⟩ := hrel
    have hM := MM.out
    clear MM
    by_cases hlt : kk < n
    · have hltz : (kk : Int) < (n : Int) := by omega
      obtain ⟨x, t, cs, hxx, B, hc⟩ := (h.mk hM).at hlt
      obtain ⟨y0, y1, y2⟩ := x
      obtain ⟨v0, e0, r0⟩ := hc 0 _ rfl
      have n0 := r0.no (by intro _ _ _ e; cases e)
      obtain ⟨v1, e1, r1⟩ := hc 1 _ rfl
      have n1 := r1.no (by intro _ _ _ e; cases e)
      obtain ⟨v2, e2, r2⟩ := hc 2 _ rfl
      have n2 := r2.no (by intro _ _ _ e; cases e)
      simp only [Nat.add_zero, Nat.mul_one] at e0 e1 e2
      clear hc r0 r1 r2 hxx
      have x0 := (B.cell (kk * 3)).trans e0
      have f0 := B.frozen
      have BB0 := B.set_ (kk * 3) (.int .i64 m)
      replace e1 := (Array.getElem?_setIfInBounds_ne (xs := _) (i := kk * 3) (j := kk * 3 + 1) (a := (.int .i64 m)) (by omega)).trans e1
      replace e2 := (Array.getElem?_setIfInBounds_ne (xs := _) (i := kk * 3) (j := kk * 3 + 2) (a := (.int .i64 m)) (by omega)).trans e2
      have x1 := (BB0.cell (kk * 3 + 1)).trans e1
      have f1 := BB0.frozen
      have BB1 := BB0.set_ (kk * 3 + 1) (.int .i64 (m + 1))
      replace e2 := (Array.getElem?_setIfInBounds_ne (xs := _) (i := kk * 3 + 1) (j := kk * 3 + 2) (a := (.int .i64 (m + 1))) (by omega)).trans e2
      have x2 := (BB1.cell (kk * 3 + 2)).trans e2
      have f2 := BB1.frozen
      go_wp2
      go_roundg (n - (kk + 1))
      case measure => omega
      case rel => exact ⟨kk + 1, m + 3, by omega, by omega, by go_num, by go_num, by omega, (show Aside _ from hM.trans ((Mk.set B hlo hhi e0 n0 (noSl_int _)).trans ((Mk.set BB0 hlo hhi e1 n1 (noSl_int _)).trans (Mk.set BB1 hlo hhi e2 n2 (noSl_int _)))))⟩
    · have hltz : ¬ (kk : Int) < (n : Int) := by omega
      obtain rfl : n = kk := by omega
      go_wp2
      go_ret
      exact ⟨m, rfl, ⟨hm0, by omega⟩, hM⟩
set_option maxHeartbeats 2000000 in
theorem markP_mk {lo hi : Nat} (s : SV PartV) (k : Int) (hk : 0 ≤ k ∧ k ≤ 50000000000000) (hn : s.n ≤ 1048576) (w : World) (h : mkL lo hi w 2 eP s) (hx : ∀ x ∈ s.xs, mkL lo hi w 3 Win.cells x.1 ∧ x.1.n ≤ 1048576) :
    Calls Tryz.prog 94 #[s.v, .int .i64 k] w (Post (fun m : Int => .int .i64 m) fun m w' => (k ≤ m ∧ m ≤ k + 5000000000000) ∧ Mk lo hi w w') := by
  obtain ⟨A, n, c, xs⟩ := s
  obtain ⟨g, hA, hlo, hhi, -⟩ := h.addr
  simp only [] at hA
  subst hA
  simp only [SV.v] at hn hx ⊢
  obtain ⟨hk0, hk1⟩ := hk
  replace hx := Lib.hid hx
  go_enter Tryz.func94, Tryz.ntmps94
  go_wp2
  go_loopg [1, 5] n (fun gg s1 s5 wr => ∃ (kk : Nat) (m : Int), kk ≤ n ∧ n - kk ≤ gg ∧ s1 = .int .i64 m ∧ s5 = .int .i64 kk ∧ (k ≤ m ∧ m ≤ k + 4194306 * kk) ∧ Aside (Mk lo hi w wr))
  case atStart => exact ⟨0, k, Nat.zero_le _, by omega, rfl, rfl, by omega, (show Aside _ from Mk.refl _ _ _)⟩
  case round =>
    obtain ⟨kk, m, hkk, hg, rfl, rfl, ⟨hm0, hm1⟩, MM⟩ := hrel
    have hM := MM.out
    clear MM
    by_cases hlt : kk < n
    · have hltz : (kk : Int) < (n : Int) := by omega
      obtain ⟨x, t, cs, hxx, B, hc⟩ := (h.mk hM).at hlt
      have hin := hx.out x (List.mem_of_getElem? hxx)
      have hcal := markW_mk x.1 m ⟨by omega, by omega⟩ hin.2 wr (hin.1.mk hM)
      have H := Lib.hid hc
      clear hin hxx
      obtain ⟨⟨A9, n9, c9, x9⟩, y1⟩ := x
      obtain ⟨v0, e0, r0⟩ := hc 0 _ rfl
      simp only [eP, SV.v, Nat.add_zero, Nat.mul_one] at e0 r0 hcal
      obtain rfl := r0.sl
      have c0 := (B.cell _).trans e0
      clear hc r0 e0
      go_wp2_with fail
      refine hcal.mono ?_
      rintro e w1 ⟨m1, rfl, ⟨hm2, hm3⟩, hM1⟩
      clear hcal c0
      have hM2 := hM.trans hM1
      obtain ⟨cs1, B1, hr1⟩ := hM1.cells g cs t B
      obtain ⟨u1, d1, t1⟩ := H.out 1 _ rfl
      obtain ⟨v1, e1, r1⟩ := hr1 _ _ d1
      have n1 := (t1.trans r1).no (by intro _ _ _ e; cases e)
      clear d1 t1 r1
      have x1 := (B1.cell (kk * 2 + 1)).trans e1
      have f1 := B1.frozen
      go_wp2
      go_roundg (n - (kk + 1))
      case measure => omega
      case rel => exact ⟨kk + 1, m1 + 1, by omega, by omega, by go_num, by go_num, by omega, (show Aside _ from hM2.trans (Mk.set B1 hlo hhi e1 n1 (noSl_int _)))⟩
    · have hltz : ¬ (kk : Int) < (n : Int) := by omega
      obtain rfl : n = kk := by omega
      go_wp2
      go_ret
      exact ⟨m, rfl, ⟨hm0, by omega⟩, hM⟩
set_option maxHeartbeats 2000000 in
theorem markOL_mk {lo hi : Nat} (s : SV OrdL) (k : Int) (hk : 0 ≤ k ∧ k ≤ 50000000000000) (hn : s.n ≤ 1048576) (w : World) (h : mkL lo hi w 1 eOL s) (hx : ∀ x ∈ s.xs, mkL lo hi w 3 eO x ∧ x.n ≤ 1048576) :
    Calls Tryz.prog 51 #[s.v, .int .i64 k] w (Post (fun m : Int => .int .i64 m) fun m w' => (k ≤ m ∧ m ≤ k + 5000000000000) ∧ Mk lo hi w w') := by
  obtain ⟨A, n, c, xs⟩ := s
  obtain ⟨g, hA, hlo, hhi, -⟩ := h.addr
  simp only [] at hA
  subst hA
  simp only [SV.v] at hn hx ⊢
  obtain ⟨hk0, hk1⟩ := hk
  replace hx := Lib.hid hx
  go_enter Tryz.func51, Tryz.ntmps51
  go_wp2
  go_loopg [1, 5] n (fun gg s1 s5 wr => ∃ (kk : Nat) (m : Int), kk ≤ n ∧ n - kk ≤ gg ∧ s1 = .int .i64 m ∧ s5 = .int .i64 kk ∧ (k ≤ m ∧ m ≤ k + 4194305 * kk) ∧ Aside (Mk lo hi w wr))
  case atStart => exact ⟨0, k, Nat.zero_le _, by omega, rfl, rfl, by omega, (show Aside _ from Mk.refl _ _ _)⟩
  case round =>
    obtain ⟨kk, m, hkk, hg, rfl, rfl, ⟨hm0, hm1⟩, MM⟩ := hrel
    have hM := MM.out
    clear MM
    by_cases hlt : kk < n
    · have hltz : (kk : Int) < (n : Int) := by omega
      obtain ⟨x, t, cs, hxx, B, hc⟩ := (h.mk hM).at hlt
      have hin := hx.out x (List.mem_of_getElem? hxx)
      have hcal := markO_mk x m ⟨by omega, by omega⟩ hin.2 wr (hin.1.mk hM)
      have H := Lib.hid hc
      clear hin hxx
      obtain ⟨A9, n9, c9, x9⟩ := x
      obtain ⟨v0, e0, r0⟩ := hc 0 _ rfl
      simp only [eOL, SV.v, Nat.add_zero, Nat.mul_one] at e0 r0 hcal
      obtain rfl := r0.sl
      have c0 := (B.cell _).trans e0
      clear hc r0 e0
      go_wp2_with fail
      refine hcal.mono ?_
      rintro e w1 ⟨m1, rfl, ⟨hm2, hm3⟩, hM1⟩
      clear hcal c0
      have hM2 := hM.trans hM1
      go_wp2
      go_roundg (n - (kk + 1))
      case measure => omega
      case rel => exact ⟨kk + 1, m1, by omega, by omega, rfl, by go_num, by omega, (show Aside _ from hM2)⟩
    · have hltz : ¬ (kk : Int) < (n : Int) := by omega
      obtain rfl : n = kk := by omega
      go_wp2
      go_ret
      exact ⟨m, rfl, ⟨hm0, by omega⟩, hM⟩
set_option maxHeartbeats 2000000 in
theorem markCo_mk {lo hi : Nat} (s : SV CoreT) (k : Int) (hk : 0 ≤ k ∧ k ≤ 50000000000000) (hn : s.n ≤ 1048576) (w : World) (h : mkL lo hi w 3 eCo s) (hx : ∀ x ∈ s.xs, mkL lo hi w 1 eI x.1 ∧ x.1.n ≤ 1048576) :
    Calls Tryz.prog 52 #[s.v, .int .i64 k] w (Post (fun m : Int => .int .i64 m) fun m w' => (k ≤ m ∧ m ≤ k + 5000000000000) ∧ Mk lo hi w w') := by
  obtain ⟨A, n, c, xs⟩ := s
  obtain ⟨g, hA, hlo, hhi, -⟩ := h.addr
  simp only [] at hA
  subst hA
  simp only [SV.v] at hn hx ⊢
  obtain ⟨hk0, hk1⟩ := hk
  replace hx := Lib.hid hx
  go_enter Tryz.func52, Tryz.ntmps52
  go_wp2
  go_loopg [1, 5] n (fun gg s1 s5 wr => ∃ (kk : Nat) (m : Int), kk ≤ n ∧ n - kk ≤ gg ∧ s1 = .int .i64 m ∧ s5 = .int .i64 kk ∧ (k ≤ m ∧ m ≤ k + 4194307 * kk) ∧ Aside (Mk lo hi w wr))
  case atStart => exact ⟨0, k, Nat.zero_le _, by omega, rfl, rfl, by omega, (show Aside _ from Mk.refl _ _ _)⟩
  case round =>
    obtain ⟨kk, m, hkk, hg, rfl, rfl, ⟨hm0, hm1⟩, MM⟩ := hrel
    have hM := MM.out
    clear MM
    by_cases hlt : kk < n
    · have hltz : (kk : Int) < (n : Int) := by omega
      obtain ⟨x, t, cs, hxx, B, hc⟩ := (h.mk hM).at hlt
      have hin := hx.out x (List.mem_of_getElem? hxx)
      have hcal := markI_mk x.1 m ⟨by omega, by omega⟩ hin.2 wr (hin.1.mk hM)
      have H := Lib.hid hc
      clear hin hxx
      obtain ⟨⟨A9, n9, c9, x9⟩, y1, y2⟩ := x
      obtain ⟨v0, e0, r0⟩ := hc 0 _ rfl
      simp only [eCo, SV.v, Nat.add_zero, Nat.mul_one] at e0 r0 hcal
      obtain rfl := r0.sl
      have c0 := (B.cell _).trans e0
      clear hc r0 e0
      go_wp2_with fail
      refine hcal.mono ?_
      rintro e w1 ⟨m1, rfl, ⟨hm2, hm3⟩, hM1⟩
      clear hcal c0
      have hM2 := hM.trans hM1
      obtain ⟨cs1, B1, hr1⟩ := hM1.cells g cs t B
      obtain ⟨u1, d1, t1⟩ := H.out 1 _ rfl
      obtain ⟨v1, e1, r1⟩ := hr1 _ _ d1
      have n1 := (t1.trans r1).no (by intro _ _ _ e; cases e)
      clear d1 t1 r1
      obtain ⟨u2, d2, t2⟩ := H.out 2 _ rfl
      obtain ⟨v2, e2, r2⟩ := hr1 _ _ d2
      have n2 := (t2.trans r2).no (by intro _ _ _ e; cases e)
      clear d2 t2 r2
      have x1 := (B1.cell (kk * 3 + 1)).trans e1
      have f1 := B1.frozen
      have BB1 := B1.set_ (kk * 3 + 1) (.int .i64 m1)
      replace e2 := (Array.getElem?_setIfInBounds_ne (xs := _) (i := kk * 3 + 1) (j := kk * 3 + 2) (a := (.int .i64 m1)) (by omega)).trans e2
      have x2 := (BB1.cell (kk * 3 + 2)).trans e2
      have f2 := BB1.frozen
      go_wp2
      go_roundg (n - (kk + 1))
      case measure => omega
      case rel => exact ⟨kk + 1, m1 + 2, by omega, by omega, by go_num, by go_num, by omega, (show Aside _ from hM2.trans ((Mk.set B1 hlo hhi e1 n1 (noSl_int _)).trans (Mk.set BB1 hlo hhi e2 n2 (noSl_bool _))))⟩
    · have hltz : ¬ (kk : Int) < (n : Int) := by omega
      obtain rfl : n = kk := by omega
      go_wp2
      go_ret
      exact ⟨m, rfl, ⟨hm0, by omega⟩, hM⟩
set_option maxHeartbeats 2000000 in
theorem markH_mk {lo hi : Nat} (s : SV HoldR) (k : Int) (hk : 0 ≤ k ∧ k ≤ 50000000000000) (hn : s.n ≤ 1048576) (w : World) (h : mkL lo hi w 1 eHr s) (hx : ∀ x ∈ s.xs, mkL lo hi w 1 eI x ∧ x.n ≤ 1048576) :
    Calls Tryz.prog 53 #[s.v, .int .i64 k] w (Post (fun m : Int => .int .i64 m) fun m w' => (k ≤ m ∧ m ≤ k + 5000000000000) ∧ Mk lo hi w w') := by
  obtain ⟨A, n, c, xs⟩ := s
  obtain ⟨g, hA, hlo, hhi, -⟩ := h.addr
  simp only [] at hA
  subst hA
  simp only [SV.v] at hn hx ⊢
  obtain ⟨hk0, hk1⟩ := hk
  replace hx := Lib.hid hx
  go_enter Tryz.func53, Tryz.ntmps53
  go_wp2
  go_loopg [1, 5] n (fun gg s1 s5 wr => ∃ (kk : Nat) (m : Int), kk ≤ n ∧ n - kk ≤ gg ∧ s1 = .int .i64 m ∧ s5 = .int .i64 kk ∧ (k ≤ m ∧ m ≤ k + 4194305 * kk) ∧ Aside (Mk lo hi w wr))
  case atStart => exact ⟨0, k, Nat.zero_le _, by omega, rfl, rfl, by omega, (show Aside _ from Mk.refl _ _ _)⟩
  case round =>
    obtain ⟨kk, m, hkk, hg, rfl, rfl, ⟨hm0, hm1⟩, MM⟩ := hrel
    have hM := MM.out
    clear MM
    by_cases hlt : kk < n
    · have hltz : (kk : Int) < (n : Int) := by omega
      obtain ⟨x, t, cs, hxx, B, hc⟩ := (h.mk hM).at hlt
      have hin := hx.out x (List.mem_of_getElem? hxx)
      have hcal := markI_mk x m ⟨by omega, by omega⟩ hin.2 wr (hin.1.mk hM)
      have H := Lib.hid hc
      clear hin hxx
      obtain ⟨A9, n9, c9, x9⟩ := x
      obtain ⟨v0, e0, r0⟩ := hc 0 _ rfl
      simp only [eHr, SV.v, Nat.add_zero, Nat.mul_one] at e0 r0 hcal
      obtain rfl := r0.sl
      have c0 := (B.cell _).trans e0
      clear hc r0 e0
      go_wp2_with fail
      refine hcal.mono ?_
      rintro e w1 ⟨m1, rfl, ⟨hm2, hm3⟩, hM1⟩
      clear hcal c0
      have hM2 := hM.trans hM1
      go_wp2
      go_roundg (n - (kk + 1))
      case measure => omega
      case rel => exact ⟨kk + 1, m1, by omega, by omega, rfl, by go_num, by omega, (show Aside _ from hM2)⟩
    · have hltz : ¬ (kk : Int) < (n : Int) := by omega
      obtain rfl : n = kk := by omega
      go_wp2
      go_ret
      exact ⟨m, rfl, ⟨hm0, by omega⟩, hM⟩
end Go.Proofs.YtckgdlgdipfgmaaGreat

namespace Go.Proofs.YtckgdlgdipfgmaaGreat
set_option linter.unusedVariables false
set_option linter.unusedSimpArgs false
open Go.RowKit

/-- What a machine says is short. -/
def shC (C : MacC) : Prop :=
  (C.1.1.length ≤ 1048576 ∧ ∀ p ∈ C.1.1, p.1.length ≤ 1048576) ∧ C.1.2.1.length ≤ 1048576 ∧ C.1.2.2.length ≤ 1048576 ∧
  (C.2.1.length ≤ 1048576 ∧ ∀ o ∈ C.2.1, o.length ≤ 1048576) ∧ (C.2.2.1.length ≤ 1048576 ∧ ∀ x ∈ C.2.2.1, x.1.length ≤ 1048576) ∧ (C.2.2.2.1.length ≤ 1048576 ∧ ∀ x ∈ C.2.2.2.1, x.length ≤ 1048576)
theorem shC_of {w : World} {m : MacR} (h : okM w m) (hs : smM m) : shC (cM m) := by
  obtain ⟨⟨h1, h2, h3⟩, h4, h5, h6⟩ := h
  obtain ⟨⟨s1, s2, s3⟩, s4, s5, s6⟩ := hs
  refine ⟨⟨?_, ?_⟩, ?_, ?_, ⟨?_, ?_⟩, ⟨?_, ?_⟩, ⟨?_, ?_⟩⟩
  · show (m.1.1.xs.map cP).length ≤ _
    rw [List.length_map, h1.1.len]; exact s1.1
  · intro p hp
    obtain ⟨x, hx, rfl⟩ := List.mem_map.1 (show p ∈ m.1.1.xs.map cP from hp)
    have := Sl.len (h1.2 x hx)
    have := s1.2 x hx
    simp only [smP] at this
    simp only [cP]
    omega
  · show m.1.2.1.xs.length ≤ _
    have := Sl.len h2
    omega
  · show m.1.2.2.xs.length ≤ _
    have := Sl.len h3
    omega
  · show (m.2.1.xs.map cO).length ≤ _
    rw [List.length_map, h4.1.len]; exact s4.1
  · intro p hp
    obtain ⟨x, hx, rfl⟩ := List.mem_map.1 (show p ∈ m.2.1.xs.map cO from hp)
    have := Sl.len (h4.2 x hx)
    have := s4.2 x hx
    simp only [smO] at this
    simp only [cO]
    omega
  · show (m.2.2.1.xs.map cC).length ≤ _
    rw [List.length_map, h5.1.len]; exact s5.1
  · intro p hp
    obtain ⟨x, hx, rfl⟩ := List.mem_map.1 (show p ∈ m.2.2.1.xs.map cC from hp)
    have := Sl.len (h5.2 x hx)
    have := s5.2 x hx
    simp only [smC] at this
    simp only [cC]
    omega
  · show (m.2.2.2.1.xs.map cH).length ≤ _
    rw [List.length_map, h6.1.len]; exact s6.1
  · intro p hp
    obtain ⟨x, hx, rfl⟩ := List.mem_map.1 (show p ∈ m.2.2.2.1.xs.map cH from hp)
    have := Sl.len (h6.2 x hx)
    have := s6.2 x hx
    simp only [smH] at this
    simp only [cH]
    omega
def mkS (lo hi : Nat) (w : World) (s : SetR) : Prop :=
  (mkL lo hi w 2 eP s.1 ∧ s.1.n ≤ 1048576 ∧ ∀ x ∈ s.1.xs, mkL lo hi w 3 Win.cells x.1 ∧ x.1.n ≤ 1048576) ∧ (mkL lo hi w 4 eC s.2.1 ∧ s.2.1.n ≤ 1048576) ∧ (mkL lo hi w 2 eS s.2.2 ∧ s.2.2.n ≤ 1048576)
def mkM (lo hi : Nat) (w : World) (m : MacR) : Prop :=
  mkS lo hi w m.1 ∧ (mkL lo hi w 1 eOL m.2.1 ∧ m.2.1.n ≤ 1048576 ∧ ∀ x ∈ m.2.1.xs, mkL lo hi w 3 eO x ∧ x.n ≤ 1048576) ∧
  (mkL lo hi w 3 eCo m.2.2.1 ∧ m.2.2.1.n ≤ 1048576 ∧ ∀ x ∈ m.2.2.1.xs, mkL lo hi w 1 eI x.1 ∧ x.1.n ≤ 1048576) ∧
  (mkL lo hi w 1 eHr m.2.2.2.1 ∧ m.2.2.2.1.n ≤ 1048576 ∧ ∀ x ∈ m.2.2.2.1.xs, mkL lo hi w 1 eI x ∧ x.n ≤ 1048576)
section
variable {lo hi : Nat} {w w' : World}
theorem mkS.mk {s : SetR} (h : mkS lo hi w s) (m : Mk lo hi w w') : mkS lo hi w' s :=
  ⟨⟨h.1.1.mk m, h.1.2.1, fun x hx => ⟨(h.1.2.2 x hx).1.mk m, (h.1.2.2 x hx).2⟩⟩, ⟨h.2.1.1.mk m, h.2.1.2⟩, ⟨h.2.2.1.mk m, h.2.2.2⟩⟩
theorem mkM.mk {s : MacR} (h : mkM lo hi w s) (m : Mk lo hi w w') : mkM lo hi w' s :=
  ⟨h.1.mk m, ⟨h.2.1.1.mk m, h.2.1.2.1, fun x hx => ⟨(h.2.1.2.2 x hx).1.mk m, (h.2.1.2.2 x hx).2⟩⟩, ⟨h.2.2.1.1.mk m, h.2.2.1.2.1, fun x hx => ⟨(h.2.2.1.2.2 x hx).1.mk m, (h.2.2.1.2.2 x hx).2⟩⟩, ⟨h.2.2.2.1.mk m, h.2.2.2.2.1, fun x hx => ⟨(h.2.2.2.2.2 x hx).1.mk m, (h.2.2.2.2.2 x hx).2⟩⟩⟩
theorem mkM.of {m : MacR} (h : liM w lo m) (hs : shC (cM m)) (hz : w.heap.size ≤ hi) : mkM lo hi w m := by
  obtain ⟨⟨h1, h2, h3⟩, h4, h5, h6⟩ := h
  obtain ⟨s1, s2, s3, s4, s5, s6⟩ := hs
  simp only [liLP, liF, liLO, liLC, liLH] at h1 h2 h3 h4 h5 h6
  refine ⟨⟨⟨mkL.of h1.1.1 h1.1.2 hz, ?_, fun x hx => ⟨mkL.of (h1.2 x hx).1 (h1.2 x hx).2 hz, ?_⟩⟩, ⟨mkL.of h2.1 h2.2 hz, ?_⟩, ⟨mkL.of h3.1 h3.2 hz, ?_⟩⟩, ⟨mkL.of h4.1.1 h4.1.2 hz, ?_, fun x hx => ⟨mkL.of (h4.2 x hx).1 (h4.2 x hx).2 hz, ?_⟩⟩, ⟨mkL.of h5.1.1 h5.1.2 hz, ?_, fun x hx => ⟨mkL.of (h5.2 x hx).1 (h5.2 x hx).2 hz, ?_⟩⟩, ⟨mkL.of h6.1.1 h6.1.2 hz, ?_, fun x hx => ⟨mkL.of (h6.2 x hx).1 (h6.2 x hx).2 hz, ?_⟩⟩⟩
  · have := s1.1
    rw [show (cM m).1.1 = m.1.1.xs.map cP from rfl, List.length_map, h1.1.1.len] at this
    exact this
  · have h9 := s1.2 (cP x) (List.mem_map_of_mem hx)
    have h8 := Sl.len (h1.2 x hx).1
    simp only [cP] at h9
    omega
  · have := s2
    rw [show (cM m).1.2.1 = m.1.2.1.xs from rfl, Sl.len h2.1] at this
    exact this
  · have := s3
    rw [show (cM m).1.2.2 = m.1.2.2.xs from rfl, Sl.len h3.1] at this
    exact this
  · have := s4.1
    rw [show (cM m).2.1 = m.2.1.xs.map cO from rfl, List.length_map, h4.1.1.len] at this
    exact this
  · have h9 := s4.2 (cO x) (List.mem_map_of_mem hx)
    have h8 := Sl.len (h4.2 x hx).1
    simp only [cO] at h9
    omega
  · have := s5.1
    rw [show (cM m).2.2.1 = m.2.2.1.xs.map cC from rfl, List.length_map, h5.1.1.len] at this
    exact this
  · have h9 := s5.2 (cC x) (List.mem_map_of_mem hx)
    have h8 := Sl.len (h5.2 x hx).1
    simp only [cC] at h9
    omega
  · have := s6.1
    rw [show (cM m).2.2.2.1 = m.2.2.2.1.xs.map cH from rfl, List.length_map, h6.1.1.len] at this
    exact this
  · have h9 := s6.2 (cH x) (List.mem_map_of_mem hx)
    have h8 := Sl.len (h6.2 x hx).1
    simp only [cH] at h9
    omega
theorem Blk.marked {g t : Nat} {cs : Array Value} (h : Blk w g t cs) (m : Mk lo hi w w') (hg : hi ≤ g) : Blk w' g t cs := (m.out g h.lt (by omega)).trans h
end
set_option maxHeartbeats 1000000 in
theorem markSetup_mk {lo hi : Nat} (s : SetR) (k : Int) (hk : 0 ≤ k ∧ k ≤ 1000000000000) (w : World) (h : mkS lo hi w s) (hhi : hi ≤ w.heap.size) :
    Calls Tryz.prog 50 #[setV s, .int .i64 k] w (Post (fun m : Int => .int .i64 m) fun m w' => (k ≤ m ∧ m ≤ k + 6000000000000) ∧ Mk lo hi w w') := by
  obtain ⟨a, b, c⟩ := s
  obtain ⟨⟨h1, n1, i1⟩, ⟨h2, n2⟩, ⟨h3, n3⟩⟩ := h
  simp only [] at h1 n1 i1 h2 n2 h3 n3
  simp only [setV]
  obtain ⟨hk0, hk1⟩ := hk
  have hM := (Mk.refl lo hi w).alloc (.cells #[a.v, b.v, c.v] 38)
  have B := Blk.new w 38 #[a.v, b.v, c.v]
  have x0 := blk_cells B 0 _ rfl
  go_enter Tryz.func50, Tryz.ntmps50
  go_wp2_with fail
  refine (markP_mk a k ⟨by omega, by omega⟩ n1 _ (h1.mk hM) (fun x hx => ⟨(i1 x hx).1.mk hM, (i1 x hx).2⟩)).mono ?_
  rintro e w1 ⟨m1, rfl, ⟨hl1, hu1⟩, hmw1⟩
  replace hM := hM.trans hmw1
  replace B := B.marked hmw1 hhi
  clear x0
  have x1 := blk_cells B 1 _ rfl
  go_wp2_with fail
  refine (markC_mk b m1 ⟨by omega, by omega⟩ n2 _ (h2.mk hM)).mono ?_
  rintro e w2 ⟨m2, rfl, ⟨hl2, hu2⟩, hmw2⟩
  replace hM := hM.trans hmw2
  replace B := B.marked hmw2 hhi
  clear x1
  have x2 := blk_cells B 2 _ rfl
  go_wp2_with fail
  refine (markS_mk c m2 ⟨by omega, by omega⟩ n3 _ (h3.mk hM)).mono ?_
  rintro e w3 ⟨m3, rfl, ⟨hl3, hu3⟩, hmw3⟩
  replace hM := hM.trans hmw3
  replace B := B.marked hmw3 hhi
  go_wp2
  go_ret
  exact ⟨m3, rfl, ⟨by omega, by omega⟩, hM⟩
set_option maxHeartbeats 1000000 in
theorem markMachine_mk {lo hi : Nat} (s : MacR) (k : Int) (hk : 0 ≤ k ∧ k ≤ 1000000) (w : World) (h : mkM lo hi w s) (hhi : hi ≤ w.heap.size) :
    Calls Tryz.prog 17 #[macV s, .int .i64 k] w (Post (fun m : Int => .int .i64 m) fun m w' => (k ≤ m ∧ m ≤ k + 60000000000000) ∧ Mk lo hi w w') := by
  have hS := fun W (hW : Mk lo hi w W) => markSetup_mk s.1 k ⟨hk.1, by omega⟩ W (h.1.mk hW) (Nat.le_trans hhi hW.size)
  obtain ⟨⟨a, b, c⟩, o, p, q, t⟩ := s
  obtain ⟨-, ⟨h1, n1, i1⟩, ⟨h2, n2, i2⟩, ⟨h3, n3, i3⟩⟩ := h
  simp only [] at h1 n1 i1 h2 n2 i2 h3 n3 i3
  simp only [macV, setV] at hS ⊢
  obtain ⟨hk0, hk1⟩ := hk
  have hM := (Mk.refl lo hi w).alloc (.cells #[a.v, b.v, c.v, o.v, p.v, q.v, .int .i64 t] 43)
  have B := Blk.new w 43 #[a.v, b.v, c.v, o.v, p.v, q.v, .int .i64 t]
  have x0 := blk_cells B 0 _ rfl
  have x1 := blk_cells B 1 _ rfl
  have x2 := blk_cells B 2 _ rfl
  go_enter Tryz.func17, Tryz.ntmps17
  go_wp2_with fail
  refine (hS _ hM).mono ?_
  rintro e w1 ⟨m1, rfl, ⟨hl1, hu1⟩, hmw1⟩
  replace hM := hM.trans hmw1
  replace B := B.marked hmw1 hhi
  clear x0 x1 x2 hS
  have x3 := blk_cells B 3 _ rfl
  go_wp2_with fail
  refine (markOL_mk o m1 ⟨by omega, by omega⟩ n1 _ (h1.mk hM) (fun x hx => ⟨(i1 x hx).1.mk hM, (i1 x hx).2⟩)).mono ?_
  rintro e w2 ⟨m2, rfl, ⟨hl2, hu2⟩, hmw2⟩
  replace hM := hM.trans hmw2
  replace B := B.marked hmw2 hhi
  clear x3
  have x4 := blk_cells B 4 _ rfl
  go_wp2_with fail
  refine (markCo_mk p m2 ⟨by omega, by omega⟩ n2 _ (h2.mk hM) (fun x hx => ⟨(i2 x hx).1.mk hM, (i2 x hx).2⟩)).mono ?_
  rintro e w3 ⟨m3, rfl, ⟨hl3, hu3⟩, hmw3⟩
  replace hM := hM.trans hmw3
  replace B := B.marked hmw3 hhi
  clear x4
  have x5 := blk_cells B 5 _ rfl
  go_wp2_with fail
  refine (markH_mk q m3 ⟨by omega, by omega⟩ n3 _ (h3.mk hM) (fun x hx => ⟨(i3 x hx).1.mk hM, (i3 x hx).2⟩)).mono ?_
  rintro e w4 ⟨m4, rfl, ⟨hl4, hu4⟩, hmw4⟩
  replace hM := hM.trans hmw4
  replace B := B.marked hmw4 hhi
  go_wp2
  go_ret
  exact ⟨m4, rfl, ⟨by omega, by omega⟩, hM⟩
end Go.Proofs.YtckgdlgdipfgmaaGreat

namespace Go.Proofs.YtckgdlgdipfgmaaGreat
set_option linter.unusedVariables false
set_option linter.unusedSimpArgs false
open Go.RowKit

theorem addr_lt {α : Type} {w : World} {k n c : Nat} {enc : α → List Value} {A : Option Addr} {xs : List α} {row : Option Nat} {G : Nat} (hlt : ∀ b o, A = some ⟨b, o, none⟩ → b < G) (hr : ∀ g, row = some g → G ≤ g) : ∀ b o, A = some ⟨b, o, none⟩ → row ≠ some b := fun b o e e' => by have := hlt b o e; have := hr b e'; omega

theorem row_some {α : Type} {g o n c b : Nat} {xs : List α} (h : SV.row ⟨some ⟨g, o, none⟩, n, c, xs⟩ = some b) : b = g := by
  unfold SV.row at h
  split at h
  · simpa using h.symm
  · cases h
theorem WS.other2 {α β : Type} {w w' : World} {base base' E E' k k' : Nat} {enc : α → List Value} {enc' : β → List Value} {s : SV α} {s' : SV β} (h : WS w base E k enc s) (h' : WS w base' E' k' enc' s') (hE : E ≠ E') (hg : w.grownBy w' s'.row) : WS w' base E k enc s := by
  by_cases hn : 0 < s.n
  · obtain ⟨g, o, cs, e, B, hc⟩ := h.wr hn
    have hne : s'.row ≠ some g := h'.rowNe B hE
    exact h.other hg (fun b o' e' => by
      rw [e] at e'
      injection e' with e'
      injection e' with e1 _
      subst e1
      exact hne)
  · exact ⟨⟨⟨h.ok.sl.len, h.ok.sl.le, h.ok.sl.max, fun h => absurd h hn⟩, h.ok.fresh, h.ok.nil, h.ok.spot⟩, fun h => absurd h hn⟩
end Go.Proofs.YtckgdlgdipfgmaaGreat

namespace Go.Proofs.YtckgdlgdipfgmaaGreat
set_option linter.unusedVariables false
set_option linter.unusedSimpArgs false
open Go.RowKit

theorem viewC_len (c : MacC) (n : Int) : (viewC c n).length ≤ 1000 := by
  unfold viewC
  cases h : seenC c n
  · simp
  · simp only [if_true]
    obtain ⟨h1, h2, h3⟩ := seenC_out h
    obtain ⟨k, hk⟩ : ∃ k, c.2.2.1[n.toNat]? = some k := ⟨_, List.getElem?_eq_getElem (by omega)⟩
    rw [viewL_eq hk, List.length_append]
    have h4 := headL_len (n := n) h1 (List.mem_of_getElem? hk)
    have h5 := view_bd (n := n) h1 c.1.2.1.length
    have h6 := su_nc (mo_setup h1)
    omega
theorem belowToMk {w w' : World} (lo hi : Nat) (h : Below w.heap.size w w') : Mk lo hi w w' :=
  ⟨h.os, h.tape, h.output, h.size, fun i hi' _ => h.block i hi', fun i cs t hB => ⟨cs, hB.below h, fun j v hv => ⟨v, hv, .refl v⟩⟩⟩
theorem Sl.marks {α : Type} {w w' : World} {k n c lo hi : Nat} {enc : α → List Value} {A : Option Addr} {xs : List α} (h : Sl w k enc A n c xs) (m : Mk lo hi w w') (hA : ∀ b o, A = some ⟨b, o, none⟩ → ¬ (lo ≤ b ∧ b < hi)) : Sl w' k enc A n c xs := by
  by_cases hn : 0 < n
  · obtain ⟨b, o, rfl, hb, -⟩ := h.cells hn
    refine h.keep m.size fun b' o' e => ?_
    injection e with e
    injection e with e1 e2
    subst e1
    exact m.out b hb (hA b o rfl)
  · exact ⟨h.len, h.le, h.max, fun h9 => absurd h9 hn⟩
theorem WS.marks {α : Type} {w w' : World} {base E k lo hi : Nat} {enc : α → List Value} {s : SV α} (h : WS w base E k enc s) (m : Mk lo hi w w') (hb : hi ≤ base) : WS w' base E k enc s :=
  ⟨⟨h.ok.sl.marks m (fun b o e => by have := h.ok.fresh b o e; omega), h.ok.fresh, h.ok.nil, h.ok.spot⟩, fun hn => by
    obtain ⟨g, o, cs, e, B, hc⟩ := h.wr hn
    have := h.ok.fresh g o e
    exact ⟨g, o, cs, e, B.marked m (by omega), hc⟩⟩
def relVO9 (q : Nat) (va vx : Value) (C : MacC) : Nat → Value → World → Prop
  | 0, v, _ => v = vx
  | 1, v, _ => v = va
  | 2, v, W => ∃ m9 : MacR, v = macV m9 ∧ liM W (q) m9 ∧ cM m9 = C
  | 3, v, _ => v = .bool true
  | 4, v, _ => v = .bool false
  | _, _, _ => True
theorem relVO9_below (q : Nat) (va vx : Value) (C : MacC) {i : Nat} {v : Value} {w w' : World} (h : relVO9 q va vx C i v w) (hb : Below w.heap.size w w') : relVO9 q va vx C i v w' := by
  match i, h with
  | 0, h => exact h
  | 1, h => exact h
  | 2, ⟨m9, e, h, l⟩ => exact ⟨m9, e, h.below hb, l⟩
  | 3, h => exact h
  | 4, h => exact h
  | n + 5, _ => trivial

set_option maxRecDepth 100000 in
set_option maxHeartbeats 4000000 in
theorem lawExactViewOf (a : MacR) (n : Int) (w : World) (ha : okM w a) :
    Calls Tryz.prog 5 #[macV a, .int .i64 n] w fun e w' => .returned (.bool true) = e ∧ Below w.heap.size w w' := by
  have hz1 := fun W hW => szMachine_any a 1048576 (by omega) W (ha.below hW)
  have hT := fun W hW hsm => toMachine_any a hsm W (ha.below hW)
  have hsh := Lib.hid (fun (h : smM a) => shC_of ha h)
  clear ha
  obtain ⟨⟨⟨A1, n1, c1, x1⟩, ⟨A2, n2, c2, x2⟩, ⟨A3, n3, c3, x3⟩⟩, ⟨A4, n4, c4, x4⟩, ⟨A5, n5, c5, x5⟩, ⟨A6, n6, c6, x6⟩, tick⟩ := a
  have hb0 := alo (Below.refl w.heap.size w) (.cells #[.slice A1 n1 c1, .slice A2 n2 c2, .slice A3 n3 c3, .slice A4 n4 c4, .slice A5 n5 c5, .slice A6 n6 c6, .int .i64 tick] 31)
  have B1 := Blk.new w 31 #[.slice A1 n1 c1, .slice A2 n2 c2, .slice A3 n3 c3, .slice A4 n4 c4, .slice A5 n5 c5, .slice A6 n6 c6, .int .i64 tick]
  obtain ⟨C, hC⟩ : ∃ C : MacC, cM ((((⟨A1, n1, c1, x1⟩, ⟨A2, n2, c2, x2⟩, ⟨A3, n3, c3, x3⟩) : SetR), ⟨A4, n4, c4, x4⟩, ⟨A5, n5, c5, x5⟩, ⟨A6, n6, c6, x6⟩, tick) : MacR) = C := ⟨_, rfl⟩
  simp only [hC] at hT hsh
  have hX := viewC_len C n
  obtain ⟨X, hXe⟩ : ∃ X, viewC C n = X := ⟨_, rfl⟩
  rw [hXe] at hX
  have hSp := fun (W : World) (q : Nat) (m : MacR) (hm : liM W q m) (hc : cM m = C) => show Calls Tryz.prog 14 #[macV m, .int .i64 n] W (Post (fun v => v) fun v w' => Own w' W.heap.size 3 1 eI v X ∧ Below W.heap.size W w') by rw [← hXe, ← hc]; exact specViewOf_any m n W hm.ok hm.nl
  have hIm := fun (W : World) (q : Nat) (m : MacR) (hm : liM W q m) (hc : cM m = C) => show Calls Tryz.prog 15 #[macV m, .int .i64 n] W (Post SV.v fun s w' => WS w' W.heap.size 3 1 eI s ∧ s.xs = X ∧ Below W.heap.size W w') by rw [← hXe, ← hc]; exact viewOf_any m n W hm.ok hm.nl
  simp only [macV, setV, SV.v_mk] at hz1 hT ⊢
  clear hC hXe
  obtain ⟨L, hL⟩ : ∃ L, X.length = L := ⟨_, rfl⟩
  have HL := Lib.hid hL
  rw [hL] at hX
  clear hL
  skip
  skip
  have cB1_0 := B1.c0; have cB1_1 := B1.c1; have cB1_2 := B1.c2; have cB1_3 := B1.c3; have cB1_4 := B1.c4; have cB1_5 := B1.c5; have cB1_6 := B1.c6; have fB1 := B1.frozen
  go_enter Tryz.func5, Tryz.ntmps5
  go_wp2_with fail
  refine (hz1 _ hb0).mono ?_
  rintro e w1 ⟨m1, rfl, hm1, hsm1, hb1⟩
  have hB1 := thn hb0 hb1
  replace B1 := B1.below hb1
  clear cB1_0 cB1_1 cB1_2 cB1_3 cB1_4 cB1_5 cB1_6 fB1
  clear hz1 hb1 hb0
  by_cases hneg : m1 < 0
  · go_wp2
    go_ret
    exact ⟨rfl, hB1⟩
  · have hsm1 := hsm1 (by omega)
    have hT := fun W hW => hT W hW hsm1
    have hsC := Lib.hid (hsh.out hsm1)
    clear hsm1 hsh
    have cB1_0 := B1.c0; have cB1_1 := B1.c1; have cB1_2 := B1.c2; have cB1_3 := B1.c3; have cB1_4 := B1.c4; have cB1_5 := B1.c5; have cB1_6 := B1.c6; have fB1 := B1.frozen
    go_wp2_with fail
    clear hneg hm1
    refine (hT _ hB1).mono ?_
    rintro e w2 ⟨m2, rfl, l2, hc2, hb2⟩
    have hB2 := thn hB1 hb2
    replace B1 := B1.below hb2
    clear cB1_0 cB1_1 cB1_2 cB1_3 cB1_4 cB1_5 cB1_6 fB1
    have hsp := hSp _ _ _ l2 hc2
    clear hB1 hb2 hSp hc2
    go_wp2_with fail
    refine hsp.mono ?_
    rintro e w3 ⟨vS, rfl, ownS, hb3⟩
    have hB3 := thn hB2 hb3
    replace B1 := B1.below hb3
    obtain ⟨AS, cS, rfl, -, slS, frS⟩ := ownS.sl encI
    rw [HL.out] at slS ⊢
    have ltS : ∀ b o, AS = some ⟨b, o, none⟩ → b < w3.heap.size := fun b o e => (frS b o e).2
    have hw3l := B1.lt
    clear hsp hB2 hb3 ownS frS l2
    have cB1_0 := B1.c0; have cB1_1 := B1.c1; have cB1_2 := B1.c2; have cB1_3 := B1.c3; have cB1_4 := B1.c4; have cB1_5 := B1.c5; have cB1_6 := B1.c6; have fB1 := B1.frozen
    go_wp2_with fail
    refine (hT _ hB3).mono ?_
    rintro e w4 ⟨m4, rfl, l4, hc4, hb4⟩
    have hB4 := thn hB3 hb4
    replace B1 := B1.below hb4
    replace slS := slS.below hb4
    clear cB1_0 cB1_1 cB1_2 cB1_3 cB1_4 cB1_5 cB1_6 fB1
    have hw34 := hb4.size
    have hw3 := hB3.size
    have mk4 := mkM.of l4 (by rw [hc4]; exact hsC.out) (Nat.le_refl _)
    clear hB3 hb4
    obtain ⟨⟨⟨F1, f1, g1, u1⟩, ⟨F2, f2, g2, u2⟩, ⟨F3, f3, g3, u3⟩⟩, ⟨F4, f4, g4, u4⟩, ⟨F5, f5, g5, u5⟩, ⟨F6, f6, g6, u6⟩, tack⟩ := m4
    have hbx := alo (Below.refl w4.heap.size w4) (.cells #[.slice F1 f1 g1, .slice F2 f2 g2, .slice F3 f3 g3, .slice F4 f4 g4, .slice F5 f5 g5, .slice F6 f6 g6, .int .i64 tack] 43)
    have hBx := thn hB4 hbx
    have l4 := l4.below hbx
    replace mk4 := mk4.mk (belowToMk _ _ hbx)
    have B5 := Blk.new w4 43 #[.slice F1 f1 g1, .slice F2 f2 g2, .slice F3 f3 g3, .slice F4 f4 g4, .slice F5 f5 g5, .slice F6 f6 g6, .int .i64 tack]
    replace B1 := B1.alloc (.cells #[.slice F1 f1 g1, .slice F2 f2 g2, .slice F3 f3 g3, .slice F4 f4 g4, .slice F5 f5 g5, .slice F6 f6 g6, .int .i64 tack] 43)
    replace slS := slS.below hbx
    have hq := hIm _ _ _ l4 hc4
    simp only [macV, setV, SV.v_mk] at hq ⊢
    clear hB4 hbx
    have hsz5 : w4.heap.size + 1 = (w4.alloc (.cells #[.slice F1 f1 g1, .slice F2 f2 g2, .slice F3 f3 g3, .slice F4 f4 g4, .slice F5 f5 g5, .slice F6 f6 g6, .int .i64 tack] 43)).heap.size := by simp
    skip
    have cB1_0 := B1.c0; have cB1_1 := B1.c1; have cB1_2 := B1.c2; have cB1_3 := B1.c3; have cB1_4 := B1.c4; have cB1_5 := B1.c5; have cB1_6 := B1.c6; have fB1 := B1.frozen; have cB5_0 := B5.c0; have cB5_1 := B5.c1; have cB5_2 := B5.c2; have cB5_3 := B5.c3; have cB5_4 := B5.c4; have cB5_5 := B5.c5; have cB5_6 := B5.c6; have fB5 := B5.frozen
    go_wp2_with fail
    generalize w4.alloc (.cells #[.slice F1 f1 g1, .slice F2 f2 g2, .slice F3 f3 g3, .slice F4 f4 g4, .slice F5 f5 g5, .slice F6 f6 g6, .int .i64 tack] 43) = w5 at *
    refine hq.mono ?_
    rintro e w6 ⟨⟨AI, nI, cI, lI⟩, rfl, wsI, hlI, hb6⟩
    simp only [SV.v] at wsI hlI ⊢
    subst hlI
    have hnI : lI.length = nI := wsI.ok.sl.len
    rw [HL.out] at hnI
    subst hnI
    replace wsI := wsI.mono (show w4.heap.size ≤ w5.heap.size by omega)
    have hB6 := thn hBx hb6
    replace B1 := B1.below hb6
    replace B5 := B5.below hb6
    replace slS := slS.below hb6
    have l4 := l4.below hb6
    replace mk4 := mk4.mk (belowToMk _ _ hb6)
    have hs6 := hb6.size
    clear cB1_0 cB1_1 cB1_2 cB1_3 cB1_4 cB1_5 cB1_6 fB1 cB5_0 cB5_1 cB5_2 cB5_3 cB5_4 cB5_5 cB5_6 fB5
    clear hq hBx hb6
    go_wp2_with fail; refine (eqIntS_any AI AS L cI cS lI _ wsI.ok.sl slS).mono ?_; rintro e w7 ⟨rfl, hbw7⟩; replace B1 := Blk.belowOf B1 hbw7 (by repeat (first | exact B1 | apply Blk.alloc | apply Blk.drew | (apply Blk.far; rotate_left; (first | assumption | exact Ne.symm (by assumption))) | apply Blk.set_)); replace B5 := Blk.belowOf B5 hbw7 (by repeat (first | exact B5 | apply Blk.alloc | apply Blk.drew | (apply Blk.far; rotate_left; (first | assumption | exact Ne.symm (by assumption))) | apply Blk.set_))
    replace wsI := wsI.below hbw7
    replace slS := slS.below hbw7
    have l4 := l4.below hbw7
    replace mk4 := mk4.mk (belowToMk _ _ hbw7)
    have hB7 := thn hB6 hbw7
    have hs7 := hbw7.size
    clear hB6 hbw7
    have hT2 := fun W hW => hT W (thn hB7 hW)
    have hE := fun W (hW : Below w7.heap.size w7 W) m (hm : liM W w7.heap.size m) (hc : cM m = C) => eqMachine_any _ m W (l4.ok.below hW) hm.ok (hc4.trans hc.symm)
    simp only [macV, setV, SV.v_mk] at hE
    go_wp2_with fail
    refine region_rel (by kernel_rfl) (fun iz vz wz => relVO9 w7.heap.size (.agg #[.slice A1 n1 c1, .slice A2 n2 c2, .slice A3 n3 c3, .slice A4 n4 c4, .slice A5 n5 c5, .slice A6 n6 c6, .int .i64 tick]) (.agg #[.slice F1 f1 g1, .slice F2 f2 g2, .slice F3 f3 g3, .slice F4 f4 g4, .slice F5 f5 g5, .slice F6 f6 g6, .int .i64 tack]) C iz vz wz) (fun wz wz' => Below wz.heap.size wz wz') (fun _ wz' => Below w7.heap.size w7 wz') 5 _ w7 (by kernel_rfl) (by kernel_rfl) (fun iz vz wz wz' h hb => relVO9_below w7.heap.size (.agg #[.slice A1 n1 c1, .slice A2 n2 c2, .slice A3 n3 c3, .slice A4 n4 c4, .slice A5 n5 c5, .slice A6 n6 c6, .int .i64 tick]) (.agg #[.slice F1 f1 g1, .slice F2 f2 g2, .slice F3 f3 g3, .slice F4 f4 g4, .slice F5 f5 g5, .slice F6 f6 g6, .int .i64 tack]) C h hb) (fun wz => Below.refl _ _) (fun _ _ _ _ h => h) (show Below w7.heap.size w7 w7.drew from (Below.refl _ _).drew) ?_ ?_
    · intro i o him ho a wa cc hcc hJ hfr hdep
      have B1 := B1.below hJ
      have B5 := B5.below hJ
      have cB1_0 := B1.c0; have cB1_1 := B1.c1; have cB1_2 := B1.c2; have cB1_3 := B1.c3; have cB1_4 := B1.c4; have cB1_5 := B1.c5; have cB1_6 := B1.c6; have fB1 := B1.frozen; have cB5_0 := B5.c0; have cB5_1 := B5.c1; have cB5_2 := B5.c2; have cB5_3 := B5.c3; have cB5_4 := B5.c4; have cB5_5 := B5.c5; have cB5_6 := B5.c6; have fB5 := B5.frozen
      match i, ho, him with
      | 0, ho, _ =>
        injection ho with ho
        subst ho
        have h7 := hfr.2.2 7 (drawFrM_spec (by kernel_rfl))
        clear hdep hfr
        simp only [Array.getD_eq_getD_getElem?] at h7
        refine .inl ⟨rfl, ?_⟩
        unfold Oper.wp
        go_simp
        exact LeavesR.val rfl (Below.refl _ _) hJ
      | 1, ho, _ =>
        injection ho with ho
        subst ho
        have h2 := hfr.2.2 2 (drawFrM_spec (by kernel_rfl))
        clear hdep hfr
        simp only [Array.getD_eq_getD_getElem?] at h2
        refine .inl ⟨rfl, ?_⟩
        unfold Oper.wp
        go_simp
        exact LeavesR.val rfl (Below.refl _ _) hJ
      | 2, ho, _ =>
        injection ho with ho
        subst ho
        have h32 := hdep ⟨1, .data⟩ (by simp) (by kernel_rfl) _ 32 rfl rfl
        clear hdep hfr
        replace h32 : a.tmps.getD 32 undef = (.agg #[.slice A1 n1 c1, .slice A2 n2 c2, .slice A3 n3 c3, .slice A4 n4 c4, .slice A5 n5 c5, .slice A6 n6 c6, .int .i64 tick]) := h32
        simp only [Array.getD_eq_getD_getElem?] at h32
        refine .inl ⟨rfl, ?_⟩
        unfold Oper.wp
        go_simp
        refine (hT2 _ hJ).mono ?_
        rintro e wb ⟨m9, rfl, l9, c9, hb'⟩
        exact LeavesR.val ⟨m9, rfl, l9.mono (by have := hJ.size; omega), c9⟩ hb' (thn hJ hb')
      | 3, ho, _ =>
        injection ho with ho
        subst ho
        have h31 := hdep ⟨0, .data⟩ (by simp) (by kernel_rfl) _ 31 rfl rfl
        have h33 := hdep ⟨2, .data⟩ (by simp) (by kernel_rfl) _ 33 rfl rfl
        clear hdep hfr
        replace h31 : a.tmps.getD 31 undef = (.agg #[.slice F1 f1 g1, .slice F2 f2 g2, .slice F3 f3 g3, .slice F4 f4 g4, .slice F5 f5 g5, .slice F6 f6 g6, .int .i64 tack]) := h31
        simp only [Array.getD_eq_getD_getElem?] at h31
        obtain ⟨m33, h33, S33, L33⟩ := h33
        simp only [Array.getD_eq_getD_getElem?] at h33
        refine .inl ⟨rfl, ?_⟩
        unfold Oper.wp
        go_simp
        refine (hE _ hJ _ S33 L33).mono ?_
        rintro e wb ⟨rfl, hb'⟩
        exact LeavesR.val rfl hb' (thn hJ hb')
      | 4, ho, _ =>
        injection ho with ho
        subst ho
        have h34 := hdep ⟨3, .data⟩ (by simp) (by kernel_rfl) _ 34 rfl rfl
        clear hdep hfr
        replace h34 : a.tmps.getD 34 undef = .bool true := h34
        simp only [Array.getD_eq_getD_getElem?] at h34
        refine .inl ⟨rfl, ?_⟩
        unfold Oper.wp
        go_simp
        exact LeavesR.val rfl (Below.refl _ _) hJ
      | n + 5, _, him => exact absurd him (by omega)
    · intro V w8 hV hJ
      have hV0 := hV 0 _ 31 (by decide) rfl rfl
      replace hV0 : V 0 = (.agg #[.slice F1 f1 g1, .slice F2 f2 g2, .slice F3 f3 g3, .slice F4 f4 g4, .slice F5 f5 g5, .slice F6 f6 g6, .int .i64 tack]) := hV0
      have hV1 := hV 1 _ 32 (by decide) rfl rfl
      replace hV1 : V 1 = (.agg #[.slice A1 n1 c1, .slice A2 n2 c2, .slice A3 n3 c3, .slice A4 n4 c4, .slice A5 n5 c5, .slice A6 n6 c6, .int .i64 tick]) := hV1
      obtain ⟨mE33, hV2, SE33, LE33⟩ := hV 2 _ 33 (by decide) rfl rfl
      have hV3 := hV 3 _ 34 (by decide) rfl rfl
      replace hV3 : V 3 = .bool true := hV3
      have hV4 := hV 4 _ 35 (by decide) rfl rfl
      replace hV4 : V 4 = .bool false := hV4
      clear hV
      simp only [puts, List.drop, Act.put, List.getElem?_toArray, List.getElem?_cons_succ, List.getElem?_cons_zero, List.setIfInBounds_toArray, List.set_cons_succ, List.set_cons_zero, hV0, hV1, hV2, hV3, hV4]
      clear hV0 hV1 hV2 hV3 hV4
      replace B1 := B1.below hJ
      replace B5 := B5.below hJ
      have hB8 := thn hB7 hJ
      replace wsI := wsI.below hJ
      replace slS := slS.below hJ
      replace mk4 := mk4.mk (belowToMk _ _ hJ)
      have hs8 := hJ.size
      clear hT2 hE hB7 hJ SE33 LE33 l4 hc4
      have hmk := markMachine_mk _ 1 ⟨by omega, by omega⟩ w8 mk4 (by omega)
      simp only [macV, setV, SV.v_mk] at hmk
      have cB1_0 := B1.c0; have cB1_1 := B1.c1; have cB1_2 := B1.c2; have cB1_3 := B1.c3; have cB1_4 := B1.c4; have cB1_5 := B1.c5; have cB1_6 := B1.c6; have fB1 := B1.frozen; have cB5_0 := B5.c0; have cB5_1 := B5.c1; have cB5_2 := B5.c2; have cB5_3 := B5.c3; have cB5_4 := B5.c4; have cB5_5 := B5.c5; have cB5_6 := B5.c6; have fB5 := B5.frozen
      go_wp2_with fail
      refine hmk.mono ?_
      rintro e w9 ⟨k9, rfl, ⟨hk9, -⟩, mk9⟩
      have hB9 := belowMk hB8 mk9 hw3 hB8.size
      replace B1 : Blk w9 w.heap.size 31 #[.slice A1 n1 c1, .slice A2 n2 c2, .slice A3 n3 c3, .slice A4 n4 c4, .slice A5 n5 c5, .slice A6 n6 c6, .int .i64 tick] := (mk9.out _ B1.lt (by omega)).trans B1
      replace slS := slS.marks mk9 (fun b o e => by have := ltS b o e; omega)
      replace wsI := wsI.marks mk9 (Nat.le_refl _)
      have hs9 := mk9.size
      clear cB1_0 cB1_1 cB1_2 cB1_3 cB1_4 cB1_5 cB1_6 fB1 cB5_0 cB5_1 cB5_2 cB5_3 cB5_4 cB5_5 cB5_6 fB5
      clear hmk mk4 mk9 B5 hB8
      skip
      have hk0 : ¬ k9 < 0 := by omega
      go_wp2_with fail; refine (eqIntS_any AI AS L cI cS lI _ wsI.ok.sl slS).mono ?_; rintro e w10 ⟨rfl, hbw10⟩; replace B1 := Blk.belowOf B1 hbw10 (by repeat (first | exact B1 | apply Blk.alloc | apply Blk.drew | (apply Blk.far; rotate_left; (first | assumption | exact Ne.symm (by assumption))) | apply Blk.set_))
      replace wsI := wsI.below hbw10
      replace slS := slS.below hbw10
      have hB10 := thn hB9 hbw10
      clear hB9 hbw10 hk9
      have hM := markIntS_any ⟨AI, L, cI, lI⟩ 1 w4.heap.size (by omega) (by simp only []; omega) _ wsI
      simp only [SV.v] at hM
      go_wp2_with fail
      refine hM.mono ?_
      rintro e w11 ⟨rfl, hg11, ws11⟩
      have hB11 := Below.other hB10 hg11 (fun g e => by have := (wsI.rowGe e).1; omega) hB10.size
      have B1w := B1.other hg11 (fun e => by have := (wsI.rowGe e).1; omega)
      replace slS := slS.other hg11 (fun b o e e' => by have := (wsI.rowGe e').1; have := ltS b o e; omega)
      have slM := ws11.ok.sl
      simp only [] at slM
      replace B1 := B1w
      clear wsI hg11 hM hB10 ws11 B1w hk0
      have hk1 : ¬ (1 + (L : Int)) < 0 := by omega
      go_wp2_with fail; refine (heldIntS_any AI L cI 1 (by omega) (by omega) _ slM).mono ?_; rintro e w12 ⟨rfl, hbw12⟩; replace B1 := Blk.belowOf B1 hbw12 (by repeat (first | exact B1 | apply Blk.alloc | apply Blk.drew | (apply Blk.far; rotate_left; (first | assumption | exact Ne.symm (by assumption))) | apply Blk.set_))
      replace slS := slS.below hbw12
      replace slM := slM.below hbw12
      have hB12 := thn hB11 hbw12
      clear hbw12 hB11
      have cB1_0 := B1.c0; have cB1_1 := B1.c1; have cB1_2 := B1.c2; have cB1_3 := B1.c3; have cB1_4 := B1.c4; have cB1_5 := B1.c5; have cB1_6 := B1.c6; have fB1 := B1.frozen
      go_wp2_with fail
      refine (hT _ hB12).mono ?_
      rintro e w13 ⟨m13, rfl, l13, hc13, hb13⟩
      have hB13 := thn hB12 hb13
      replace slS := slS.below hb13
      replace slM := slM.below hb13
      have hq := hIm _ _ _ l13 hc13
      clear cB1_0 cB1_1 cB1_2 cB1_3 cB1_4 cB1_5 cB1_6 fB1
      clear hB12 hb13 l13 hc13 B1 hT hIm
      go_wp2_with fail
      refine hq.mono ?_
      rintro e w14 ⟨⟨AJ, nJ, cJ, lJ⟩, rfl, wsJ, hlJ, hb14⟩
      simp only [SV.v] at wsJ hlJ ⊢
      subst hlJ
      have hnJ : lJ.length = nJ := wsJ.ok.sl.len
      rw [HL.out] at hnJ
      subst hnJ
      have hB14 := thn hB13 hb14
      replace slS := slS.below hb14
      replace slM := slM.below hb14
      clear hq hB13 hb14
      skip
      go_wp2_with fail; refine (eqIntS_any AJ AS L cJ cS lJ _ wsJ.ok.sl slS).mono ?_; rintro e w15 ⟨rfl, hbw15⟩
      replace slM := slM.below hbw15
      have hB15 := thn hB14 hbw15
      go_wp2_with fail; refine (heldIntS_any AI L cI 1 (by omega) (by omega) _ slM).mono ?_; rintro e w16 ⟨rfl, hbw16⟩
      go_wp2
      go_ret
      exact ⟨rfl, thn hB15 hbw16⟩
end Go.Proofs.YtckgdlgdipfgmaaGreat
