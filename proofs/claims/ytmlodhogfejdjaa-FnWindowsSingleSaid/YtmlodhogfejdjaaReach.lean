/- PartReach of impl and spec. -/
import Derived.Test.YtmlodhogfejdjaaPartV
import Derived.Test.YtmlodhogfejdjaaWAt
import Derived.Test.YtmlodhogfejdjaaSAt
namespace Go.Proofs.Ytmlodhogfejdjaa
set_option linter.unusedVariables false
set_option linter.unusedSimpArgs false
open Go.RowKit

def canRead (ws : List Win) (p : Int) : Bool := ws.any fun x => x.has p
def reachN (ws : List Win) : Nat → Nat
  | 0 => 0
  | k + 1 => reachN ws k + (if canRead ws k then 1 else 0)
theorem reachN_le (ws : List Win) : ∀ k, reachN ws k ≤ k
  | 0 => Nat.le_refl _
  | k + 1 => by have := reachN_le ws k; unfold reachN; split <;> omega
def reachP (xs : List PartV) (y : PartV) : Int := if partsOk xs then reachN y.1.xs 4096 else -1
theorem readsIn_any (x : Win) (hx : x.ok = true) (p : Int) (q : Nat) (w : World) (h1 : w.cell? ⟨q, 0, none⟩ = some (.int .i64 p)) (hq : q < w.heap.size) :
    Calls Try.prog 86 #[.agg x.cells.toArray, .pointer (some ⟨q, 0, none⟩)] w fun e w' => .returned (.bool (x.has p)) = e ∧ Below w.heap.size w w' := by
  have hcall := fun W => has_any x hx p W
  generalize x.has p = v at *
  obtain ⟨b, s, wx⟩ := x
  simp only [Win.cells] at hcall ⊢
  have hb0 := alo (Below.refl w.heap.size w) (.cells #[.int .i64 b, .int .i64 s, .bool wx] 35)
  have q0 := (hb0.cell (p := ⟨q, 0, none⟩) hq).trans h1
  have B2 := Blk.new w 35 #[.int .i64 b, .int .i64 s, .bool wx]
  skip
  skip
  have cB2_0 := B2.c0; have cB2_1 := B2.c1; have cB2_2 := B2.c2; have fB2 := B2.frozen
  clear hx
  go_enter Try.func86, Try.ntmps86
  go_wp2_with fail
  refine (hcall _).mono ?_
  rintro e w1 ⟨rfl, hb⟩
  go_wp2
  go_ret
  exact ⟨rfl, thn hb0 hb⟩
theorem enters_reads (args : Array Value) (w : World) : (callFunc 86 args).run Try.prog w = .ok (.enter 86 args) w := enters_of Try.func86 (by kernel_rfl) rfl args w
theorem reads_any (A : Option Addr) (n c : Nat) (ws : List Win) (m p : Int) (hok : ∀ x ∈ ws, x.ok = true) (w : World) (hs : Sl w 3 Win.cells A n c ws) :
    Calls Try.prog 85 #[.agg #[.slice A n c, .int .i64 m], .int .i64 p] w fun e w' => .returned (.bool (canRead ws p)) = e ∧ Below w.heap.size w w' := by
  have hb0 := alo (alo (Below.refl w.heap.size w) (.cells #[.slice A n c, .int .i64 m] 56)) (.cells #[.int .i64 p] 3)
  have B2 := (Blk.new w 56 #[.slice A n c, .int .i64 m]).alloc (.cells #[.int .i64 p] 3)
  have B3 := Blk.new2 w (.cells #[.slice A n c, .int .i64 m] 56) 3 #[.int .i64 p]
  have hidx : Calls Try.prog 52 #[.slice A n c, .func (.func 86) #[] #[.pointer (some ⟨w.heap.size + 1, 0, none⟩)]] ((w.alloc (.cells #[.slice A n c, .int .i64 m] 56)).alloc (.cells #[.int .i64 p] 3)) fun e w' => .returned (.bool (canRead ws p)) = e ∧ Below ((w.alloc (.cells #[.slice A n c, .int .i64 m] 56)).alloc (.cells #[.int .i64 p] 3)).heap.size ((w.alloc (.cells #[.slice A n c, .int .i64 m] 56)).alloc (.cells #[.int .i64 p] 3)) w' := by
    refine containsWin (fun x => x.has p) _ _ enters_reads A n c ws _ (fun x => x.ok = true) hok ?_ (hs.below hb0)
    intro V x hx hV
    have z3 := B3.below hV
    have := readsIn_any x hx p (w.heap.size + 1) V z3.c0 z3.lt
    simpa [Win.cells] using this
  have hmf : ∀ (fn : Fn) (first cap : Array Value) (w : World), (Instr.makeFunc fn first cap).run Try.prog w = .ok (.func fn first cap) w := fun _ _ _ _ => rfl
  generalize canRead ws p = v at *
  skip
  skip
  have cB2_0 := B2.c0; have cB2_1 := B2.c1; have fB2 := B2.frozen; have cB3_0 := B3.c0; have fB3 := B3.frozen
  clear hs
  go_enter Try.func85, Try.ntmps85
  go_wp2_with fail
  refine hidx.mono ?_
  rintro e w1 ⟨rfl, hb1⟩
  go_wp2
  go_ret
  exact ⟨rfl, thn hb0 hb1⟩
set_option maxHeartbeats 2000000 in
theorem partReach_any (A : Option Addr) (n c : Nat) (xs : List PartV) (N : Nat) (y : PartV) (hy : xs[N]? = some y) (hn : n ≤ 1000) (w : World) (hs : Sl w 2 eP A n c xs) (hp : PtOk w xs) :
    Calls Try.prog 41 #[.slice A n c, .int .i64 N] w fun e w' => .returned (.int .i64 (reachP xs y)) = e ∧ Below w.heap.size w w' := by
  have hN : N < n := by rw [← hs.len]; exact (List.getElem?_eq_some_iff.1 hy).1
  have hNz : (N : Int) < (n : Int) := by omega
  have hN0 : (0 : Int) ≤ (N : Int) := by omega
  have hle := hs.le
  have hmax := hs.max
  have h1 := partsValid_any A n c xs w hs hp
  have h2 := fun W => in_any N 0 ((n : Int) - 1) W
  rw [inB_true.2 (show 0 ≤ (N : Int) ∧ (N : Int) ≤ (n : Int) - 1 by omega)] at h2
  have hsh : ∀ W, w = W → Calls Try.prog 75 #[.slice A n c, .int .i64 N, .int .i64 N] W fun e w' => .returned (.int .i64 (reachP xs y)) = e ∧ Below W.heap.size W w' := by
    rintro W rfl
    unfold reachP
    cases hok : partsOk xs
    · rw [hok] at h1
      go_enter Try.func75, Try.ntmps75
      go_wp2_with fail
      refine h1.mono ?_
      rintro e w1 ⟨rfl, hb1⟩
      go_wp2
      go_ret
      exact ⟨rfl, hb1⟩
    · rw [hok] at h1
      have hyo : ∀ x ∈ y.1.xs, x.ok = true := by
        unfold partsOk at hok
        simp only [Bool.and_eq_true, List.all_eq_true] at hok
        have := hok.2 y (List.mem_of_getElem? hy)
        unfold partOk at this
        rw [Bool.and_eq_true] at this
        exact (winsOk_true.1 this.1).2
      obtain ⟨b, o, rfl, y', hy', hc⟩ := hs.nth hN (Below.refl _ _)
      obtain rfl : y = y' := by rw [hy] at hy'; injection hy'
      have q0 := hc 0 _ rfl
      have q1 := hc 1 _ rfl
      have hyw := hp y (List.mem_of_getElem? hy)
      obtain ⟨⟨A1, n1, c1, x1⟩, m⟩ := y
      simp only [eP, SV.v, Nat.add_zero] at q0 q1 hyw hyo ⊢
      have hbl := World.block_lt_of_cell? _ _ q0
      have hrd := fun (p : Int) W hW => reads_any A1 n1 c1 x1 m p hyo W (hyw.below hW)
      simp only [if_true]
      clear hok hs hp hy hy' hc hyo
      go_enter Try.func75, Try.ntmps75
      go_wp2_with fail
      refine h1.mono ?_
      rintro e w1 ⟨rfl, hb1⟩
      go_wp2_with fail
      refine (h2 _).mono ?_; rintro e w' ⟨rfl, rfl⟩
      go_wp2_with fail
      refine (h2 _).mono ?_; rintro e w' ⟨rfl, rfl⟩
      go_wp2_with fail
      go_loopg [7, 28] 4096 (fun gg s7 s28 wr => ∃ kk : Nat, kk ≤ 4096 ∧ 4096 - kk ≤ gg ∧ s7 = .int .i64 (reachN x1 kk) ∧ s28 = .int .i64 kk ∧ Aside (Below w.heap.size w wr))
      case atStart => exact ⟨0, by omega, by omega, rfl, rfl, (show Aside _ from hb1)⟩
      case round =>
        obtain ⟨kk, hkk, hg, rfl, rfl, BW⟩ := hrel
        by_cases hlt : kk < 4096
        · have hltz : (kk : Int) < 4096 := by omega
          have hr1 := hrd kk wr BW.out
          have hle := reachN_le x1 kk
          have HR := Lib.hid (show reachN x1 (kk + 1) = reachN x1 kk + (if canRead x1 kk then 1 else 0) from rfl)
          obtain ⟨t, ht⟩ : ∃ t, reachN x1 kk = t := ⟨_, rfl⟩
          rw [ht] at HR hle ⊢
          clear ht
          have z0 := (BW.out.cell (p := ⟨b, o + N * 2, none⟩) hbl).trans q0
          have z1 := (BW.out.cell (p := ⟨b, o + N * 2 + 1, none⟩) hbl).trans q1
          cases hv : canRead x1 kk
          · rw [hv] at hr1 HR
            clear hv
            go_wp2_with fail
            refine hr1.mono ?_
            rintro e w2 ⟨rfl, hb2⟩
            go_wp2
            go_roundg (4096 - (kk + 1))
            case measure => omega
            case rel => exact ⟨kk + 1, by omega, by omega, by rw [HR.out]; simp, by go_num, (show Aside _ from thn BW.out hb2)⟩
          · rw [hv] at hr1 HR
            have hr2 := fun W hW => hrd kk W hW
            rw [hv] at hr2
            clear hv
            go_wp2_with fail
            refine hr1.mono ?_
            rintro e w2 ⟨rfl, hb2⟩
            have hb3 := thn BW.out hb2
            have y0 := (hb3.cell (p := ⟨b, o + N * 2, none⟩) hbl).trans q0
            have y1 := (hb3.cell (p := ⟨b, o + N * 2 + 1, none⟩) hbl).trans q1
            go_wp2_with fail
            refine (hr2 _ hb3).mono ?_
            rintro e w3 ⟨rfl, hb4⟩
            go_wp2
            go_roundg (4096 - (kk + 1))
            case measure => omega
            case rel => exact ⟨kk + 1, by omega, by omega, by rw [HR.out]; simp, by go_num, (show Aside _ from thn hb3 hb4)⟩
        · have hltz : ¬ (kk : Int) < 4096 := by omega
          obtain rfl : kk = 4096 := by omega
          go_wp2
          go_ret
          exact ⟨rfl, BW.out⟩
  have hq := hsh w rfl
  generalize reachP xs y = res at *
  clear hs hp hy hsh h1 h2
  go_enter Try.func41, Try.ntmps41
  go_wp2_with fail
  refine hq.mono ?_
  rintro e w1 ⟨rfl, hb⟩
  go_wp2
  go_ret
  exact ⟨rfl, hb⟩
theorem canRead_at (ws : List Win) (hok : winsOk ws = true) (p : Int) : decide (0 ≤ windowAt ws p false) = canRead ws p := by
  unfold windowAt canRead
  rw [hok, if_pos rfl, idxP_nonneg]
  congr 1
  funext x
  simp [atP]
set_option maxRecDepth 100000 in
set_option maxHeartbeats 2000000 in
theorem specPartReach_any (A : Option Addr) (n c : Nat) (xs : List PartV) (N : Nat) (y : PartV) (hy : xs[N]? = some y) (hn : n ≤ 1000) (w : World) (hs : Sl w 2 eP A n c xs) (hp : PtOk w xs) :
    Calls Try.prog 42 #[.slice A n c, .int .i64 N] w fun e w' => .returned (.int .i64 (reachP xs y)) = e ∧ Below w.heap.size w w' := by
  have hN : N < n := by rw [← hs.len]; exact (List.getElem?_eq_some_iff.1 hy).1
  have hNz : (N : Int) < (n : Int) := by omega
  have hN0 : (0 : Int) ≤ (N : Int) := by omega
  have hle := hs.le
  have hmax := hs.max
  have h1 := specPartsValid_any A n c xs w hs hp
  have h2 := fun W => l1In_any N 0 ((n : Int) - 1) W
  rw [inB_true.2 (show 0 ≤ (N : Int) ∧ (N : Int) ≤ (n : Int) - 1 by omega)] at h2
  unfold reachP
  cases hok : partsOk xs
  · rw [hok] at h1
    go_enter Try.func42, Try.ntmps42
    go_wp2_with fail
    refine h1.mono ?_
    rintro e w1 ⟨rfl, hb1⟩
    go_wp2
    go_ret
    exact ⟨rfl, hb1⟩
  · rw [hok] at h1
    have hyo : winsOk y.1.xs = true := by
      unfold partsOk at hok
      simp only [Bool.and_eq_true, List.all_eq_true] at hok
      have := hok.2 y (List.mem_of_getElem? hy)
      unfold partOk at this
      rw [Bool.and_eq_true] at this
      exact this.1
    obtain ⟨b, o, rfl, y', hy', hc⟩ := hs.nth hN (Below.refl _ _)
    obtain rfl : y = y' := by rw [hy] at hy'; injection hy'
    have q0 := hc 0 _ rfl
    have hyw := hp y (List.mem_of_getElem? hy)
    obtain ⟨⟨A1, n1, c1, x1⟩, m⟩ := y
    simp only [eP, SV.v, Nat.add_zero] at q0 hyw hyo ⊢
    have hbl := World.block_lt_of_cell? _ _ q0
    have hrd := fun (p : Int) W hW => specWindowAt_any A1 n1 c1 x1 p false W (hyw.below hW)
    have hcr := Lib.hid (canRead_at x1 hyo)
    simp only [if_true]
    clear hok hs hp hy hy' hc hyo
    go_enter Try.func42, Try.ntmps42
    go_wp2_with fail
    refine h1.mono ?_
    rintro e w1 ⟨rfl, hb1⟩
    go_wp2_with fail
    refine (h2 _).mono ?_; rintro e w' ⟨rfl, rfl⟩
    go_wp2_with fail
    go_loopg [5, 6] 4096 (fun gg s5 s6 wr => ∃ kk : Nat, kk ≤ 4096 ∧ 4096 - kk ≤ gg ∧ s5 = .int .i64 (reachN x1 kk) ∧ s6 = .int .i64 kk ∧ Aside (Below w.heap.size w wr))
    case atStart => exact ⟨0, by omega, by omega, rfl, rfl, (show Aside _ from hb1)⟩
    case round =>
      obtain ⟨kk, hkk, hg, rfl, rfl, BW⟩ := hrel
      by_cases hlt : kk < 4096
      · have hltz : (kk : Int) < 4096 := by omega
        have hr1 := hrd kk wr BW.out
        have hle := reachN_le x1 kk
        have HR := Lib.hid (show reachN x1 (kk + 1) = reachN x1 kk + (if canRead x1 kk then 1 else 0) from rfl)
        have hcv := hcr.out kk
        obtain ⟨t, ht⟩ : ∃ t, reachN x1 kk = t := ⟨_, rfl⟩
        rw [ht] at HR hle ⊢
        clear ht
        have z0 := (BW.out.cell (p := ⟨b, o + N * 2, none⟩) hbl).trans q0
        generalize windowAt x1 kk false = wa at *
        cases hv : canRead x1 kk
        · rw [hv] at hcv HR
          clear hv
          have hwa : ¬ 0 ≤ wa := of_decide_eq_false hcv
          clear hcv
          go_wp2_with fail
          refine hr1.mono ?_
          rintro e w2 ⟨rfl, hb2⟩
          go_wp2
          go_roundg (4096 - (kk + 1))
          case measure => omega
          case rel => exact ⟨kk + 1, by omega, by omega, by rw [HR.out]; simp, by go_num, (show Aside _ from thn BW.out hb2)⟩
        · rw [hv] at hcv HR
          clear hv
          have hwa : 0 ≤ wa := of_decide_eq_true hcv
          clear hcv
          go_wp2_with fail
          refine hr1.mono ?_
          rintro e w2 ⟨rfl, hb2⟩
          go_wp2
          go_roundg (4096 - (kk + 1))
          case measure => omega
          case rel => exact ⟨kk + 1, by omega, by omega, by rw [HR.out]; simp, by go_num, (show Aside _ from thn BW.out hb2)⟩
      · have hltz : ¬ (kk : Int) < 4096 := by omega
        obtain rfl : kk = 4096 := by omega
        go_wp2
        go_ret
        exact ⟨rfl, BW.out⟩
theorem reach_one {x : Win} (hx : x.ok = true) : reachN [x] 4096 = x.size := by
  rw [Win.ok_true] at hx
  obtain ⟨b, s, wr⟩ := x
  simp only [] at hx ⊢
  obtain ⟨B, rfl⟩ : ∃ B : Nat, b = B := ⟨b.toNat, by omega⟩
  obtain ⟨S, rfl⟩ : ∃ S : Nat, s = S := ⟨s.toNat, by omega⟩
  have h : ∀ k : Nat, k ≤ 4096 → reachN [⟨B, S, wr⟩] k = min (k - B) S := by
    intro k
    induction k with
    | zero => intro _; simp [reachN]
    | succ k ih =>
      intro hk
      have h1 := ih (by omega)
      unfold reachN
      rw [h1]
      by_cases hr : B ≤ k ∧ k < B + S
      · have : canRead [(⟨B, S, wr⟩ : Win)] k = true := by
          simp only [canRead, List.any_cons, List.any_nil, Bool.or_false, Win.has, inB_true]
          omega
        rw [this, if_pos rfl]
        omega
      · have : canRead [(⟨B, S, wr⟩ : Win)] k = false := by
          simp only [canRead, List.any_cons, List.any_nil, Bool.or_false, Win.has, inB_false]
          omega
        rw [this]
        simp only [Bool.false_eq_true, if_false]
        omega
  have := h 4096 (by omega)
  omega
end Go.Proofs.Ytmlodhogfejdjaa
