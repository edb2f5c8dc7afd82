/- The reader: l20Open, pick, odd. -/
import Derived.Test.YtmlodhogfejdjaaBase
import Derived.Test.YtmlodhogfejdjaaChecked
import Derived.OpenShut
namespace Go.Proofs.Ytmlodhogfejdjaa
set_option linter.unusedVariables false
set_option linter.unusedSimpArgs false
open Go.RowKit


theorem pick_zero (r A n c zs p k w) (h : RdAt w r 97 A n c zs p) (hp0 : 0 ≤ p) (hp : p ≤ 1000000000) (hk : k < 1) :
    Calls Try.prog 62 #[.pointer (some ⟨r, 0, none⟩), .int .i64 k] w fun e w' =>
      e = .returned (.int .i64 0) ∧ w' = w.setCell ⟨r, 1, none⟩ (.int .i64 (p + 1)) := by
  have h0 : w.cell? ⟨r, 0, none⟩ = some (.slice A n c) := by simp [World.cell?, h.blk]
  have h1 : w.cell? ⟨r, 1, none⟩ = some (.int .i64 p) := by simp [World.cell?, h.blk]
  have hf : w.frozen? ⟨r, 1, none⟩ = false := by simp [World.frozen?, h.blk]
  clear h
  go_enter Try.func62, Try.ntmps62
  go_wp2
  go_ret
  exact ⟨rfl, rfl⟩

theorem pick_empty (r A c zs p k w) (h : RdAt w r 97 A 0 c zs p) (hp0 : 0 ≤ p) (hp : p ≤ 1000000000) (hk : 1 ≤ k) :
    Calls Try.prog 62 #[.pointer (some ⟨r, 0, none⟩), .int .i64 k] w fun e w' =>
      e = .returned (.int .i64 0) ∧ w' = w.setCell ⟨r, 1, none⟩ (.int .i64 (p + 1)) := by
  have h0 : w.cell? ⟨r, 0, none⟩ = some (.slice A 0 c) := by simp [World.cell?, h.blk]
  have h1 : w.cell? ⟨r, 1, none⟩ = some (.int .i64 p) := by simp [World.cell?, h.blk]
  have hf : w.frozen? ⟨r, 1, none⟩ = false := by simp [World.frozen?, h.blk]
  clear h
  go_enter Try.func62, Try.ntmps62
  go_wp2
  go_ret
  exact ⟨rfl, rfl⟩

theorem pick_byte (r b o n c zs k w) (p : Nat) (h : RdAt w r 97 (some ⟨b, o, none⟩) n c zs p) (hb : b < r) (hc : ∀ i, i < n → w.cell? ⟨b, o + i, none⟩ = some (.int .u8 (zs[i]?.getD 0)))
    (hk : 1 ≤ k) (hpn : p < n) :
    Calls Try.prog 62 #[.pointer (some ⟨r, 0, none⟩), .int .i64 k] w fun e w' =>
      e = .returned (.int .i64 (zs[p]?.getD 0 % k)) ∧ w' = w.setCell ⟨r, 1, none⟩ (.int .i64 (p + 1)) := by
  have h0 : w.cell? ⟨r, 0, none⟩ = some (.slice (some ⟨b, o, none⟩) n c) := by simp [World.cell?, h.blk]
  have h1 : w.cell? ⟨r, 1, none⟩ = some (.int .i64 p) := by simp [World.cell?, h.blk]
  have hf : w.frozen? ⟨r, 1, none⟩ = false := by simp [World.frozen?, h.blk]
  have hcp := hc p hpn
  have hne : ¬ b = r := by omega
  have hz := h.byte p
  have h2000 := h.n2000
  have hn0 : ((n : Int) == 0) = false := by simp; omega
  have hi1 : (0 : Int) ≤ p := by omega
  have hi2 : (p : Int) < n := by omega
  clear h hc
  go_enter Try.func62, Try.ntmps62
  go_wp2
  go_ret
  exact ⟨rfl, rfl⟩

theorem ofInt_i64 (a : Nat) (ha : a < 9223372036854775808) : (BitVec.ofInt 64 (a : Int)).toNat = a := by
  rw [BitVec.ofInt_natCast, BitVec.toNat_ofNat]; exact Nat.mod_eq_of_lt (by omega)
theorem i64_xor_nat (a b : Nat) (ha : a < 9223372036854775808) (hb : b < 9223372036854775808) : bits .xor .i64 (a : Int) (b : Int) = ((a ^^^ b : Nat) : Int) := by
  have hx : a ^^^ b < 2 ^ 63 := Nat.xor_lt_two_pow (by omega) (by omega)
  show IntKind.i64.wrap ((BitVec.ofInt 64 (a : Int) ^^^ BitVec.ofInt 64 (b : Int)).toNat : Int) = _
  rw [BitVec.toNat_xor, ofInt_i64 a ha, ofInt_i64 b hb, IntKind.wrap_i64]
  omega
theorem xor_nonneg (x : Int) (h0 : 0 ≤ x) (h1 : x ≤ 1000000000000) : 0 ≤ bits .xor .i64 x (x / 64) := by
  obtain ⟨a, rfl⟩ := Int.eq_ofNat_of_zero_le h0
  have e : ((a : Int) / 64) = ((a / 64 : Nat) : Int) := by omega
  rw [e, i64_xor_nat a (a / 64) (by omega) (by omega)]
  omega

theorem pick_mix (r b o n c zs k w) (p : Nat) (h : RdAt w r 97 (some ⟨b, o, none⟩) n c zs p) (hb : b < r) (hc : ∀ i, i < n → w.cell? ⟨b, o + i, none⟩ = some (.int .u8 (zs[i]?.getD 0)))
    (hk : 1 ≤ k) (hn : 0 < n) (hpn : n ≤ p) (hp : p ≤ 1000000000) :
    Calls Try.prog 62 #[.pointer (some ⟨r, 0, none⟩), .int .i64 k] w fun e w' =>
      ∃ v nq, e = .returned (.int .i64 v) ∧ 0 ≤ v ∧ v < k ∧ w' = (w.setCell ⟨r, 1, none⟩ (.int .i64 (p + 1))).drewN nq := by
  have h0 : w.cell? ⟨r, 0, none⟩ = some (.slice (some ⟨b, o, none⟩) n c) := by simp [World.cell?, h.blk]
  have h1 : w.cell? ⟨r, 1, none⟩ = some (.int .i64 p) := by simp [World.cell?, h.blk]
  have hf : w.frozen? ⟨r, 1, none⟩ = false := by simp [World.frozen?, h.blk]
  have hc1 := hc (p % n) (Nat.mod_lt _ hn)
  have hc2 := hc ((p * 7 + 3) % n) (Nat.mod_lt _ hn)
  have hne : ¬ b = r := by omega
  have hz1 := h.byte (p % n)
  have hz2 := h.byte ((p * 7 + 3) % n)
  have h2000 := h.n2000
  have hn0 : ((n : Int) == 0) = false := by simp; omega
  have hlt : ¬ (p : Int) < n := by omega
  have hi1 : (0 : Int) ≤ (p : Int) % (n : Int) := Int.emod_nonneg _ (by omega)
  have hi2 : (p : Int) % (n : Int) < n := Int.emod_lt_of_pos _ (by omega)
  have hj1 : (0 : Int) ≤ ((p : Int) * 7 + 3) % (n : Int) := Int.emod_nonneg _ (by omega)
  have hj2 : ((p : Int) * 7 + 3) % (n : Int) < n := Int.emod_lt_of_pos _ (by omega)
  have hd1 : (0 : Int) ≤ (p : Int) / (n : Int) := Int.ediv_nonneg (by omega) (by omega)
  have hd2 : (p : Int) / (n : Int) ≤ p := Int.ediv_le_self _ (by omega)
  have hx := xor_nonneg (zs[p % n]?.getD 0 * 131 + zs[(p * 7 + 3) % n]?.getD 0 * 1117 + ↑p * 29 + (p : Int) / (n : Int) * 53) (by omega) (by omega)
  clear h hc
  go_enter Try.func62, Try.ntmps62
  go_wp2
  go_quiet (fail)
  go_wp2
  go_ret
  exact ⟨_, nq, rfl, Int.emod_nonneg _ (by omega), Int.emod_lt_of_pos _ (by omega), rfl⟩

theorem RdAt.next {r A n c zs p w} (h : RdAt w r 97 A n c zs p) (p' : Int) : RdAt (w.setCell ⟨r, 1, none⟩ (.int .i64 p')) r 97 A n c zs p' := by
  refine ⟨?_, h.n2000, h.byte, fun hn => ?_⟩
  · have := h.blk
    simp [World.setCell, Array.getElem?_modify, this]
  · obtain ⟨b, o, rfl, hb, hc⟩ := h.cells hn
    refine ⟨b, o, rfl, hb, fun i hi => ?_⟩
    rw [World.cell?_setCell_other w _ _ _ (by intro e; injection e; omega)]
    exact hc i hi

theorem stp_next {r A n c zs p w b} (h : RdAt w r 97 A n c zs p) (h0 : 0 ≤ p) (hb : p ≤ b) : Stp r 97 w (b + 1) (w.setCell ⟨r, 1, none⟩ (.int .i64 (p + 1))) :=
  ⟨grown_setCell (World.grownBy.refl _ _) (.inl rfl) _, _, _, _, _, _, h.next _, by omega, by omega⟩

/-- pick: a number in 0..k-1; the reader's position goes on by one. -/
theorem pick_any (r : Nat) (k b : Int) (w : World) (h : Rd w r 97 b) (hb : b ≤ 1000000000) (hk : 1 ≤ k) :
    Calls Try.prog 62 #[.pointer (some ⟨r, 0, none⟩), .int .i64 k] w (Post (.int .i64) fun v w' => 0 ≤ v ∧ v < k ∧ Stp r 97 w (b + 1) w') := by
  obtain ⟨A, n, c, zs, p, h, h0, hp⟩ := h
  by_cases hn : 0 < n
  · obtain ⟨g, o, rfl, hg, hc⟩ := h.cells hn
    obtain ⟨q, rfl⟩ := Int.eq_ofNat_of_zero_le h0
    by_cases hq : q < n
    · refine (pick_byte r g o n c zs k w q h hg hc hk hq).mono ?_
      rintro e w' ⟨rfl, rfl⟩
      exact ⟨_, rfl, Int.emod_nonneg _ (by omega), Int.emod_lt_of_pos _ (by omega), stp_next h h0 hp⟩
    · refine (pick_mix r g o n c zs k w q h hg hc hk hn (by omega) (by omega)).mono ?_
      rintro e w' ⟨v, nq, rfl, h1, h2, rfl⟩
      exact ⟨_, rfl, h1, h2, (stp_next h h0 hp).drewN nq⟩
  · obtain rfl : n = 0 := by omega
    refine (pick_empty r A c zs p k w h h0 (by omega) hk).mono ?_
    rintro e w' ⟨rfl, rfl⟩
    exact ⟨_, rfl, by omega, by omega, stp_next h h0 hp⟩

/-- odd: some truth value. -/
theorem odd_any (r : Nat) (k b : Int) (w : World) (h : Rd w r 97 b) (hb : b ≤ 1000000000) (hk0 : -1000 ≤ k) :
    Calls Try.prog 78 #[.pointer (some ⟨r, 0, none⟩), .int .i64 k] w (Post .bool fun _ w' => Stp r 97 w (b + 1) w') := by
  by_cases hk : 0 < k
  · go_enter Try.func78, Try.ntmps78
    go_wp2_with (go_at_call 62; refine (pick_any r k b _ h hb (by omega)).mono ?_; rintro e w1 ⟨v, rfl, h1, h2, hs⟩)
    go_ret
    exact ⟨_, rfl, hs⟩
  · go_enter Try.func78, Try.ntmps78
    go_wp2
    go_ret
    exact ⟨_, rfl, (Stp.refl h).le (by omega)⟩

/-- A byte slice that came in. -/
structure Code (w : World) (A : Option Addr) (n c : Nat) (zs : List Int) : Prop where
  byte : ∀ i : Nat, 0 ≤ zs[i]?.getD 0 ∧ zs[i]?.getD 0 ≤ 255
  le : n ≤ c
  max : c ≤ 9223372036854775807
  cells : 0 < n → ∃ b o, A = some ⟨b, o, none⟩ ∧ b < w.heap.size ∧ ∀ i, i < n → w.cell? ⟨b, o + i, none⟩ = some (.int .u8 (zs[i]?.getD 0))

theorem Code.below {w w' : World} {A : Option Addr} {n c : Nat} {zs : List Int} (h : Code w A n c zs) (hb : Below w.heap.size w w') : Code w' A n c zs :=
  ⟨h.byte, h.le, h.max, fun hn => by
    obtain ⟨b, o, e, hlt, hc⟩ := h.cells hn
    exact ⟨b, o, e, Nat.lt_of_lt_of_le hlt hb.size, fun i hi => (hb.cell (p := ⟨b, o + i, none⟩) hlt).trans (hc i hi)⟩⟩

/-- From what the row says of a byte slice. -/
theorem code_of {w : World} {a : Option Addr} {len cap : Nat} {zs : List Int}
    (h : (a = none ∧ len = 0 ∧ cap = 0 ∧ zs = []) ∨
      ∃ x, a = some x ∧ len ≤ cap ∧ cap ≤ maxLen ∧ zs.length = cap ∧ (∀ i, i < zs.length → w.cell? (x.add i) = some (.int .u8 (zs.getD i 0))) ∧ ∀ n ∈ zs, (Lit.int .u8 n).wf = true) : Code w a len cap zs := by
  rcases h with ⟨rfl, rfl, rfl, rfl⟩ | ⟨x, rfl, hl, hm, hz, hc, hw⟩
  · exact ⟨by simp, Nat.le_refl _, by omega, fun h => absurd h (by omega)⟩
  · refine ⟨fun i => ?_, hl, by simpa [maxLen] using hm, fun h0 => ?_⟩
    · by_cases hi : i < zs.length
      · have := bounds_u8 (hw zs[i] (List.getElem_mem hi))
        rw [List.getElem?_eq_getElem hi]
        simpa using this
      · rw [List.getElem?_eq_none (by omega)]
        simp
    · obtain ⟨b, o, spot⟩ := x
      have h1 := hc 0 (by omega)
      have hspot : spot = none := by simpa [Addr.add] using World.cell?_spot h1
      subst hspot
      have hadd : ∀ i, (⟨b, o, none⟩ : Addr).add i = ⟨b, o + i, none⟩ := fun i => Addr.add_lit b o i
      refine ⟨b, o, rfl, World.block_lt_of_cell? w _ h1, fun i hi => ?_⟩
      have := hc i (by omega)
      rw [hadd, List.getD_eq_getElem?_getD] at this
      exact this

/-- l20Open: a new reader over the first 2000 bytes. -/
theorem open_any (A : Option Addr) (n c : Nat) (zs : List Int) (w : World) (h : Code w A n c zs) :
    Calls Try.prog 46 #[.slice A n c] w fun e w' =>
      .returned (.pointer (some ⟨w.heap.size, 0, none⟩)) = e ∧ Rd w' w.heap.size 97 0 ∧ Below w.heap.size w w' := by
  have hle := h.le
  have hmax := h.max
  by_cases hn : n ≤ 2000
  · go_enter Try.func46, Try.ntmps46
    go_wp2
    go_ret
    refine ⟨rfl, ⟨A, n, c, zs, 0, ⟨heap_alloc_new w _, hn, h.byte, fun h0 => ?_⟩, by omega, by omega⟩, (Below.refl _ _).alloc (Nat.le_refl _) _⟩
    obtain ⟨b, o, e, hb, hc⟩ := h.cells h0
    exact ⟨b, o, e, hb, fun i hi => ((Below.refl w.heap.size w).alloc (Nat.le_refl _) _ |>.cell hb).trans (hc i hi)⟩
  · obtain ⟨b, o, rfl, hb, hc⟩ := h.cells (by omega)
    have hb' := h.byte
    clear h
    go_enter Try.func46, Try.ntmps46
    go_wp2
    go_ret
    refine ⟨rfl, ⟨_, 2000, _, zs, 0, ⟨heap_alloc_new w _, by omega, hb', fun h0 => ?_⟩, by omega, by omega⟩, (Below.refl _ _).alloc (Nat.le_refl _) _⟩
    exact ⟨b, o, rfl, hb, fun i hi => ((Below.refl w.heap.size w).alloc (Nat.le_refl _) _ |>.cell hb).trans (hc i (by omega))⟩

/-- The same, the new reader's block under a name of the caller's. -/
theorem open_at (r : Nat) (A : Option Addr) (n c : Nat) (zs : List Int) (w : World) (h : Code w A n c zs) (hr : w.heap.size = r) :
    Calls Try.prog 46 #[.slice A n c] w fun e w' =>
      .returned (.pointer (some ⟨r, 0, none⟩)) = e ∧ Rd w' r 97 0 ∧ Below r w w' ∧ r ≤ w'.heap.size := by
  subst hr
  exact (open_any A n c zs w h).mono fun _ _ ⟨a, b, d⟩ => ⟨a, b, d, d.size⟩
end Go.Proofs.Ytmlodhogfejdjaa
