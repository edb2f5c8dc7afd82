/- The exact laws' own functions at []Slot: sz, to, eq. The exact laws' own functions at []Channel: sz, to, eq. The exact laws' own functions at Setup and Machine. -/
import Derived.Test.YtckgdlgdipfgmaaGreatO2
import Derived.Test.YtckgdlgdipfgmaaGreatO4
import Derived.Test.YtckgdlgdipfgmaaGreatO6

namespace Go.Proofs.YtckgdlgdipfgmaaGreat
set_option linter.unusedVariables false
set_option linter.unusedSimpArgs false
open Go.RowKit

def szOfSlot (n : Nat) (left : Int) : Int := if left - (n : Int) < 0 then -1 else left - n
theorem szSlotS_any (A : Option Addr) (n c : Nat) (left : Int) (hl : 0 ≤ left ∧ left ≤ 1048576) (hn : n ≤ 9223372036854775807) (w : World) :
    Calls Tryz.prog 64 #[.slice A n c, .int .i64 left] w fun e w' => .returned (.int .i64 (szOfSlot n left)) = e ∧ w = w' := by
  obtain ⟨h1, h2⟩ := hl
  unfold szOfSlot
  by_cases h : left - (n : Int) < 0
  · rw [if_pos h]
    go_enter Tryz.func64, Tryz.ntmps64
    go_wp2
    go_ret
    exact ⟨rfl, rfl⟩
  · rw [if_neg h]
    go_enter Tryz.func64, Tryz.ntmps64
    go_wp2
    go_ret
    exact ⟨rfl, rfl⟩

theorem toSlot_any (y0 : Int) (y1 : Int) (w : World) : Calls Tryz.prog 110 #[.agg #[.int .i64 y0, .int .i64 y1]] w fun e w' => .returned (.agg #[.int .i64 y0, .int .i64 y1]) = e ∧ Below w.heap.size w w' := by
  go_enter Tryz.func110, Tryz.ntmps110
  go_wp2
  exact bodyPost_ret (v := .agg #[.int .i64 y0, .int .i64 y1]) (by simp [results, Tryz.results110, go_sem, ]) rfl ⟨rfl, (by repeat (first | exact Below.refl _ _ | assumption | apply alo | (apply Below.setCell; rotate_left; (first | assumption | exact Nat.le_refl _ | (simp only []; omega))) | apply Below.drew | apply belowDrewN | (refine thn ?_ (by assumption))))⟩

theorem eqSlot_any (y0 : Int) (y1 : Int) (w : World) : Calls Tryz.prog 120 #[.agg #[.int .i64 y0, .int .i64 y1], .agg #[.int .i64 y0, .int .i64 y1]] w fun e w' => .returned (.bool true) = e ∧ Below w.heap.size w w' := by
  go_enter Tryz.func120, Tryz.ntmps120
  go_wp2
  go_ret
  exact ⟨rfl, (by repeat (first | exact Below.refl _ _ | assumption | apply alo | (apply Below.setCell; rotate_left; (first | assumption | exact Nat.le_refl _ | (simp only []; omega))) | apply Below.drew | apply belowDrewN | (refine thn ?_ (by assumption))))⟩

set_option maxHeartbeats 1000000 in
theorem toSlotS_any (A : Option Addr) (n c : Nat) (xs : List (Int × Int)) (hn : n ≤ 1048576) (w : World) (hs : Sl w 2 eS A n c xs) :
    Calls Tryz.prog 75 #[.slice A n c] w (Post (whole n) fun g w' => Blk w' g 123 (xs.flatMap eS).toArray ∧ w.heap.size ≤ g ∧ Below w.heap.size w w') := by
  have hle := hs.le
  have hmax := hs.max
  have hl := hs.len
  go_enter Tryz.func75, Tryz.ntmps75
  go_wp2_with (at_make; refine make_own rfl _ _ zeroSlot rfl encS w.heap.size _ _ n rfl rfl (by omega) (by omega) (by omega) (Nat.le_refl _) ?_; intro w1 own1 hg1; have hb1 := below_of_grown hg1; have U1 : Upto w1 w.heap.size 123 0 (xs.flatMap eS) := Upto.made (n := n) (c := n) encS own1 (by rw [List.length_replicate]; exact hl); clear own1 hg1)
  go_loopg [4] n (fun gg s4 wr => ∃ kk : Nat, kk ≤ n ∧ n - kk ≤ gg ∧ s4 = .int .i64 kk ∧ Aside (Below w.heap.size w wr) ∧ Aside (Upto wr w.heap.size 123 (kk * 2) (xs.flatMap eS)))
  case atStart => exact ⟨0, Nat.zero_le _, by omega, rfl, (show Aside _ from hb1), (show Aside _ from by rw [Nat.zero_mul]; exact U1)⟩
  case round =>
    obtain ⟨kk, hkk, hg, rfl, BW, UU⟩ := hrel
    clear hb1 U1
    have U1 := UU.out
    clear UU
    by_cases hlt : kk < n
    · have hltz : (kk : Int) < (n : Int) := by omega
      obtain ⟨b, o, rfl, y, hx, hc⟩ := hs.nth hlt BW.out
      have hc0 := hc 0 _ rfl
      have hc1 := hc 1 _ rfl
      have f0 := Lib.hid (flat_at encS hx 0 (kk * 2) _ rfl rfl)
      have f1 := Lib.hid (flat_at encS hx 1 (kk * 2 + 1) _ rfl rfl)
      clear hc hx
      obtain ⟨y0, y1⟩ := y
      have hq := fun W => toSlot_any y0 y1 W
      simp only [eS, Nat.add_zero] at hc0 hc1 f0 f1
      have hz := U1.lt
      go_wp2_with fail
      refine (hq _).mono ?_
      rintro e w2 ⟨rfl, hb2⟩
      replace U1 := U1.below hb2
      have hB2 := thn BW.out hb2
      have hfr := U1.frozen
      obtain ⟨v0, e0⟩ := U1.has f0.out
      obtain ⟨v1, e1⟩ := U1.has f1.out
      clear hb2 hq
      go_wp2
      go_roundg (n - (kk + 1))
      case measure => omega
      case rel => exact ⟨kk + 1, by omega, by omega, by go_num, (show Aside _ from (Below.setCell (Below.setCell hB2 (p := ⟨w.heap.size, _, none⟩) (Nat.le_refl _) _) (p := ⟨w.heap.size, _, none⟩) (Nat.le_refl _) _)), (show Aside _ from by have := ((U1.set f0.out).set f1.out); rw [show (kk + 1) * 2 = kk * 2 + 1 + 1 by omega]; exact this)⟩
    · have hltz : ¬ (kk : Int) < (n : Int) := by omega
      obtain rfl : kk = n := by omega
      go_wp2
      go_ret
      exact ⟨w.heap.size, rfl, U1.full (by rw [flatMap_len encS.len, hl]; omega), Nat.le_refl _, BW.out⟩

theorem eqSlotS_any (A A' : Option Addr) (n c c' : Nat) (xs : List (Int × Int)) (w : World) (hs : Sl w 2 eS A n c xs) (hs' : Sl w 2 eS A' n c' xs) :
    Calls Tryz.prog 86 #[.slice A n c, .slice A' n c'] w fun e w' => .returned (.bool true) = e ∧ Below w.heap.size w w' := by
  have hle := hs.le
  have hmax := hs.max
  have hle' := hs'.le
  go_enter Tryz.func86, Tryz.ntmps86
  go_wp2
  go_loopg [5] n (fun gg s3 wr => ∃ kk : Nat, kk ≤ n ∧ n - kk ≤ gg ∧ s3 = .int .i64 kk ∧ Aside (Below w.heap.size w wr))
  case atStart => exact ⟨0, Nat.zero_le _, by omega, rfl, (show Aside _ from Below.refl _ _)⟩
  case round =>
    obtain ⟨kk, hkk, hg, rfl, BW⟩ := hrel
    by_cases hlt : kk < n
    · have hltz : (kk : Int) < (n : Int) := by omega
      obtain ⟨b, o, rfl, y, hx, hc⟩ := hs.nth hlt BW.out
      obtain ⟨b', o', rfl, y', hx', hc'⟩ := hs'.nth hlt BW.out
      obtain rfl : y = y' := by rw [hx'] at hx; injection hx with hx; exact hx.symm
      clear hx hx'
      have g0 := fun x : Near wr => (x.b.cell (p := ⟨b, o + kk * 2 + 0, none⟩) (World.block_lt_of_cell? _ _ (hc 0 _ rfl))).trans (hc 0 _ rfl)
      have p0 := fun x : Near wr => (x.b.cell (p := ⟨b', o' + kk * 2 + 0, none⟩) (World.block_lt_of_cell? _ _ (hc' 0 _ rfl))).trans (hc' 0 _ rfl)
      have g1 := fun x : Near wr => (x.b.cell (p := ⟨b, o + kk * 2 + 1, none⟩) (World.block_lt_of_cell? _ _ (hc 1 _ rfl))).trans (hc 1 _ rfl)
      have p1 := fun x : Near wr => (x.b.cell (p := ⟨b', o' + kk * 2 + 1, none⟩) (World.block_lt_of_cell? _ _ (hc' 1 _ rfl))).trans (hc' 1 _ rfl)
      clear hc hc'
      obtain ⟨y0, y1⟩ := y
      have hq := fun W => eqSlot_any y0 y1 W
      simp only [eS, Nat.add_zero] at g0 p0 g1 p1
      skip
      go_wp2_with fail
      refine wp_region_near (by kernel_rfl) (by kernel_rfl) ?_; (repeat (go_big_quiet_step (first | (go_at_call 120; with_reducible exact near_call (hq _))))); refine wpQuiet_nil ?_; intro xN; have hbw2 := xN.b; generalize xN.W = w2 at hbw2 ⊢; clear xN
      clear g0 p0 g1 p1 hq
      go_wp2
      go_roundg (n - (kk + 1))
      case measure => omega
      case rel => exact ⟨kk + 1, by omega, by omega, by go_num, (show Aside _ from thn BW.out hbw2)⟩
    · have hltz : ¬ (kk : Int) < (n : Int) := by omega
      obtain rfl : kk = n := by omega
      go_wp2
      go_ret
      exact ⟨rfl, BW.out⟩
end Go.Proofs.YtckgdlgdipfgmaaGreat

namespace Go.Proofs.YtckgdlgdipfgmaaGreat
set_option linter.unusedVariables false
set_option linter.unusedSimpArgs false
open Go.RowKit

def szOfChannel (n : Nat) (left : Int) : Int := if left - (n : Int) < 0 then -1 else left - n
theorem szChannelS_any (A : Option Addr) (n c : Nat) (left : Int) (hl : 0 ≤ left ∧ left ≤ 1048576) (hn : n ≤ 9223372036854775807) (w : World) :
    Calls Tryz.prog 63 #[.slice A n c, .int .i64 left] w fun e w' => .returned (.int .i64 (szOfChannel n left)) = e ∧ w = w' := by
  obtain ⟨h1, h2⟩ := hl
  unfold szOfChannel
  by_cases h : left - (n : Int) < 0
  · rw [if_pos h]
    go_enter Tryz.func63, Tryz.ntmps63
    go_wp2
    go_ret
    exact ⟨rfl, rfl⟩
  · rw [if_neg h]
    go_enter Tryz.func63, Tryz.ntmps63
    go_wp2
    go_ret
    exact ⟨rfl, rfl⟩

theorem toChannel_any (y0 : Int) (y1 : Int) (y2 : Int) (y3 : Int) (w : World) : Calls Tryz.prog 109 #[.agg #[.int .i64 y0, .int .i64 y1, .int .i64 y2, .int .i64 y3]] w fun e w' => .returned (.agg #[.int .i64 y0, .int .i64 y1, .int .i64 y2, .int .i64 y3]) = e ∧ Below w.heap.size w w' := by
  go_enter Tryz.func109, Tryz.ntmps109
  go_wp2
  exact bodyPost_ret (v := .agg #[.int .i64 y0, .int .i64 y1, .int .i64 y2, .int .i64 y3]) (by simp [results, Tryz.results109, go_sem, ]) rfl ⟨rfl, (by repeat (first | exact Below.refl _ _ | assumption | apply alo | (apply Below.setCell; rotate_left; (first | assumption | exact Nat.le_refl _ | (simp only []; omega))) | apply Below.drew | apply belowDrewN | (refine thn ?_ (by assumption))))⟩

theorem eqChannel_any (y0 : Int) (y1 : Int) (y2 : Int) (y3 : Int) (w : World) : Calls Tryz.prog 119 #[.agg #[.int .i64 y0, .int .i64 y1, .int .i64 y2, .int .i64 y3], .agg #[.int .i64 y0, .int .i64 y1, .int .i64 y2, .int .i64 y3]] w fun e w' => .returned (.bool true) = e ∧ Below w.heap.size w w' := by
  go_enter Tryz.func119, Tryz.ntmps119
  go_wp2
  go_ret
  exact ⟨rfl, (by repeat (first | exact Below.refl _ _ | assumption | apply alo | (apply Below.setCell; rotate_left; (first | assumption | exact Nat.le_refl _ | (simp only []; omega))) | apply Below.drew | apply belowDrewN | (refine thn ?_ (by assumption))))⟩

set_option maxHeartbeats 1000000 in
theorem toChannelS_any (A : Option Addr) (n c : Nat) (xs : List (Int × Int × Int × Int)) (hn : n ≤ 1048576) (w : World) (hs : Sl w 4 eC A n c xs) :
    Calls Tryz.prog 74 #[.slice A n c] w (Post (whole n) fun g w' => Blk w' g 78 (xs.flatMap eC).toArray ∧ w.heap.size ≤ g ∧ Below w.heap.size w w') := by
  have hle := hs.le
  have hmax := hs.max
  have hl := hs.len
  go_enter Tryz.func74, Tryz.ntmps74
  go_wp2_with (at_make; refine make_own rfl _ _ zeroChan rfl encC w.heap.size _ _ n rfl rfl (by omega) (by omega) (by omega) (Nat.le_refl _) ?_; intro w1 own1 hg1; have hb1 := below_of_grown hg1; have U1 : Upto w1 w.heap.size 78 0 (xs.flatMap eC) := Upto.made (n := n) (c := n) encC own1 (by rw [List.length_replicate]; exact hl); clear own1 hg1)
  go_loopg [4] n (fun gg s4 wr => ∃ kk : Nat, kk ≤ n ∧ n - kk ≤ gg ∧ s4 = .int .i64 kk ∧ Aside (Below w.heap.size w wr) ∧ Aside (Upto wr w.heap.size 78 (kk * 4) (xs.flatMap eC)))
  case atStart => exact ⟨0, Nat.zero_le _, by omega, rfl, (show Aside _ from hb1), (show Aside _ from by rw [Nat.zero_mul]; exact U1)⟩
  case round =>
    obtain ⟨kk, hkk, hg, rfl, BW, UU⟩ := hrel
    clear hb1 U1
    have U1 := UU.out
    clear UU
    by_cases hlt : kk < n
    · have hltz : (kk : Int) < (n : Int) := by omega
      obtain ⟨b, o, rfl, y, hx, hc⟩ := hs.nth hlt BW.out
      have hc0 := hc 0 _ rfl
      have hc1 := hc 1 _ rfl
      have hc2 := hc 2 _ rfl
      have hc3 := hc 3 _ rfl
      have f0 := Lib.hid (flat_at encC hx 0 (kk * 4) _ rfl rfl)
      have f1 := Lib.hid (flat_at encC hx 1 (kk * 4 + 1) _ rfl rfl)
      have f2 := Lib.hid (flat_at encC hx 2 (kk * 4 + 2) _ rfl rfl)
      have f3 := Lib.hid (flat_at encC hx 3 (kk * 4 + 3) _ rfl rfl)
      clear hc hx
      obtain ⟨y0, y1, y2, y3⟩ := y
      have hq := fun W => toChannel_any y0 y1 y2 y3 W
      simp only [eC, Nat.add_zero] at hc0 hc1 hc2 hc3 f0 f1 f2 f3
      have hz := U1.lt
      go_wp2_with fail
      refine (hq _).mono ?_
      rintro e w2 ⟨rfl, hb2⟩
      replace U1 := U1.below hb2
      have hB2 := thn BW.out hb2
      have hfr := U1.frozen
      obtain ⟨v0, e0⟩ := U1.has f0.out
      obtain ⟨v1, e1⟩ := U1.has f1.out
      obtain ⟨v2, e2⟩ := U1.has f2.out
      obtain ⟨v3, e3⟩ := U1.has f3.out
      clear hb2 hq
      go_wp2
      go_roundg (n - (kk + 1))
      case measure => omega
      case rel => exact ⟨kk + 1, by omega, by omega, by go_num, (show Aside _ from (Below.setCell (Below.setCell (Below.setCell (Below.setCell hB2 (p := ⟨w.heap.size, _, none⟩) (Nat.le_refl _) _) (p := ⟨w.heap.size, _, none⟩) (Nat.le_refl _) _) (p := ⟨w.heap.size, _, none⟩) (Nat.le_refl _) _) (p := ⟨w.heap.size, _, none⟩) (Nat.le_refl _) _)), (show Aside _ from by have := ((((U1.set f0.out).set f1.out).set f2.out).set f3.out); rw [show (kk + 1) * 4 = kk * 4 + 1 + 1 + 1 + 1 by omega]; exact this)⟩
    · have hltz : ¬ (kk : Int) < (n : Int) := by omega
      obtain rfl : kk = n := by omega
      go_wp2
      go_ret
      exact ⟨w.heap.size, rfl, U1.full (by rw [flatMap_len encC.len, hl]; omega), Nat.le_refl _, BW.out⟩

theorem eqChannelS_any (A A' : Option Addr) (n c c' : Nat) (xs : List (Int × Int × Int × Int)) (w : World) (hs : Sl w 4 eC A n c xs) (hs' : Sl w 4 eC A' n c' xs) :
    Calls Tryz.prog 85 #[.slice A n c, .slice A' n c'] w fun e w' => .returned (.bool true) = e ∧ Below w.heap.size w w' := by
  have hle := hs.le
  have hmax := hs.max
  have hle' := hs'.le
  go_enter Tryz.func85, Tryz.ntmps85
  go_wp2
  go_loopg [5] n (fun gg s3 wr => ∃ kk : Nat, kk ≤ n ∧ n - kk ≤ gg ∧ s3 = .int .i64 kk ∧ Aside (Below w.heap.size w wr))
  case atStart => exact ⟨0, Nat.zero_le _, by omega, rfl, (show Aside _ from Below.refl _ _)⟩
  case round =>
    obtain ⟨kk, hkk, hg, rfl, BW⟩ := hrel
    by_cases hlt : kk < n
    · have hltz : (kk : Int) < (n : Int) := by omega
      obtain ⟨b, o, rfl, y, hx, hc⟩ := hs.nth hlt BW.out
      obtain ⟨b', o', rfl, y', hx', hc'⟩ := hs'.nth hlt BW.out
      obtain rfl : y = y' := by rw [hx'] at hx; injection hx with hx; exact hx.symm
      clear hx hx'
      have g0 := fun x : Near wr => (x.b.cell (p := ⟨b, o + kk * 4 + 0, none⟩) (World.block_lt_of_cell? _ _ (hc 0 _ rfl))).trans (hc 0 _ rfl)
      have p0 := fun x : Near wr => (x.b.cell (p := ⟨b', o' + kk * 4 + 0, none⟩) (World.block_lt_of_cell? _ _ (hc' 0 _ rfl))).trans (hc' 0 _ rfl)
      have g1 := fun x : Near wr => (x.b.cell (p := ⟨b, o + kk * 4 + 1, none⟩) (World.block_lt_of_cell? _ _ (hc 1 _ rfl))).trans (hc 1 _ rfl)
      have p1 := fun x : Near wr => (x.b.cell (p := ⟨b', o' + kk * 4 + 1, none⟩) (World.block_lt_of_cell? _ _ (hc' 1 _ rfl))).trans (hc' 1 _ rfl)
      have g2 := fun x : Near wr => (x.b.cell (p := ⟨b, o + kk * 4 + 2, none⟩) (World.block_lt_of_cell? _ _ (hc 2 _ rfl))).trans (hc 2 _ rfl)
      have p2 := fun x : Near wr => (x.b.cell (p := ⟨b', o' + kk * 4 + 2, none⟩) (World.block_lt_of_cell? _ _ (hc' 2 _ rfl))).trans (hc' 2 _ rfl)
      have g3 := fun x : Near wr => (x.b.cell (p := ⟨b, o + kk * 4 + 3, none⟩) (World.block_lt_of_cell? _ _ (hc 3 _ rfl))).trans (hc 3 _ rfl)
      have p3 := fun x : Near wr => (x.b.cell (p := ⟨b', o' + kk * 4 + 3, none⟩) (World.block_lt_of_cell? _ _ (hc' 3 _ rfl))).trans (hc' 3 _ rfl)
      clear hc hc'
      obtain ⟨y0, y1, y2, y3⟩ := y
      have hq := fun W => eqChannel_any y0 y1 y2 y3 W
      simp only [eC, Nat.add_zero] at g0 p0 g1 p1 g2 p2 g3 p3
      skip
      go_wp2_with fail
      refine wp_region_near (by kernel_rfl) (by kernel_rfl) ?_; (repeat (go_big_quiet_step (first | (go_at_call 119; with_reducible exact near_call (hq _))))); refine wpQuiet_nil ?_; intro xN; have hbw2 := xN.b; generalize xN.W = w2 at hbw2 ⊢; clear xN
      clear g0 p0 g1 p1 g2 p2 g3 p3 hq
      go_wp2
      go_roundg (n - (kk + 1))
      case measure => omega
      case rel => exact ⟨kk + 1, by omega, by omega, by go_num, (show Aside _ from thn BW.out hbw2)⟩
    · have hltz : ¬ (kk : Int) < (n : Int) := by omega
      obtain rfl : kk = n := by omega
      go_wp2
      go_ret
      exact ⟨rfl, BW.out⟩
end Go.Proofs.YtckgdlgdipfgmaaGreat

namespace Go.Proofs.YtckgdlgdipfgmaaGreat
set_option linter.unusedVariables false
set_option linter.unusedSimpArgs false
open Go.RowKit

abbrev ChanT := Int × Int × Int × Int
/-- A list that can be read, in a block behind a bound. -/
def liF {α : Type} (k : Nat) (enc : α → List Value) (w : World) (base : Nat) (s : SV α) : Prop := Sl w k enc s.A s.n s.c s.xs ∧ Fr w base s.A
def okF {α : Type} (k : Nat) (enc : α → List Value) (w : World) (s : SV α) : Prop := Sl w k enc s.A s.n s.c s.xs
section
variable {α : Type} {k : Nat} {enc : α → List Value} {w w' : World} {base base' : Nat} {s : SV α} {p : Addr} {u : Value}
theorem liF.below (h : liF k enc w base s) (hb : Below w.heap.size w w') : liF k enc w' base s := ⟨h.1.below hb, h.2.below hb⟩
theorem liF.set (h : liF k enc w base s) (hp : p.block < base) : liF k enc (w.setCell p u) base s := ⟨h.1.setF h.2 hp u, h.2.set hp u⟩
theorem liF.mono (h : liF k enc w base s) (hb : base' ≤ base) : liF k enc w base' s := ⟨h.1, h.2.mono hb⟩
theorem liF.ok (h : liF k enc w base s) : okF k enc w s := h.1
end
def okLP (w : World) (s : SV PartV) : Prop := Sl w 2 eP s.A s.n s.c s.xs ∧ AllE (okP w) s.xs
def liLP (w : World) (base : Nat) (s : SV PartV) : Prop := (Sl w 2 eP s.A s.n s.c s.xs ∧ Fr w base s.A) ∧ AllE (liP w base) s.xs
section
variable {w w' : World} {base base' : Nat} {s : SV PartV} {p : Addr} {u : Value}
theorem okLP.below (h : okLP w s) (hb : Below w.heap.size w w') : okLP w' s := ⟨h.1.below hb, AllE.mono h.2 fun x hx => okP.below hx hb⟩
theorem liLP.below (h : liLP w base s) (hb : Below w.heap.size w w') : liLP w' base s := ⟨⟨h.1.1.below hb, h.1.2.below hb⟩, AllE.mono h.2 fun x hx => liP.below hx hb⟩
theorem liLP.set (h : liLP w base s) (hp : p.block < base) : liLP (w.setCell p u) base s := ⟨⟨h.1.1.setF h.1.2 hp u, h.1.2.set hp u⟩, AllE.mono h.2 fun x hx => liP.set hx hp⟩
theorem liLP.mono (h : liLP w base s) (hb : base' ≤ base) : liLP w base' s := ⟨⟨h.1.1, h.1.2.mono hb⟩, AllE.mono h.2 fun x hx => liP.mono hx hb⟩
theorem liLP.ok (h : liLP w base s) : okLP w s := ⟨h.1.1, AllE.mono h.2 fun x hx => hx.1⟩
end
def okLO (w : World) (s : SV OrdL) : Prop := Sl w 1 eOL s.A s.n s.c s.xs ∧ AllE (okO w) s.xs
def liLO (w : World) (base : Nat) (s : SV OrdL) : Prop := (Sl w 1 eOL s.A s.n s.c s.xs ∧ Fr w base s.A) ∧ AllE (liO w base) s.xs
section
variable {w w' : World} {base base' : Nat} {s : SV OrdL} {p : Addr} {u : Value}
theorem okLO.below (h : okLO w s) (hb : Below w.heap.size w w') : okLO w' s := ⟨h.1.below hb, AllE.mono h.2 fun x hx => okO.below hx hb⟩
theorem liLO.below (h : liLO w base s) (hb : Below w.heap.size w w') : liLO w' base s := ⟨⟨h.1.1.below hb, h.1.2.below hb⟩, AllE.mono h.2 fun x hx => liO.below hx hb⟩
theorem liLO.set (h : liLO w base s) (hp : p.block < base) : liLO (w.setCell p u) base s := ⟨⟨h.1.1.setF h.1.2 hp u, h.1.2.set hp u⟩, AllE.mono h.2 fun x hx => liO.set hx hp⟩
theorem liLO.mono (h : liLO w base s) (hb : base' ≤ base) : liLO w base' s := ⟨⟨h.1.1, h.1.2.mono hb⟩, AllE.mono h.2 fun x hx => liO.mono hx hb⟩
theorem liLO.ok (h : liLO w base s) : okLO w s := ⟨h.1.1, AllE.mono h.2 fun x hx => hx.1⟩
end
def okLC (w : World) (s : SV CoreT) : Prop := Sl w 3 eCo s.A s.n s.c s.xs ∧ AllE (okC w) s.xs
def liLC (w : World) (base : Nat) (s : SV CoreT) : Prop := (Sl w 3 eCo s.A s.n s.c s.xs ∧ Fr w base s.A) ∧ AllE (liC w base) s.xs
section
variable {w w' : World} {base base' : Nat} {s : SV CoreT} {p : Addr} {u : Value}
theorem okLC.below (h : okLC w s) (hb : Below w.heap.size w w') : okLC w' s := ⟨h.1.below hb, AllE.mono h.2 fun x hx => okC.below hx hb⟩
theorem liLC.below (h : liLC w base s) (hb : Below w.heap.size w w') : liLC w' base s := ⟨⟨h.1.1.below hb, h.1.2.below hb⟩, AllE.mono h.2 fun x hx => liC.below hx hb⟩
theorem liLC.set (h : liLC w base s) (hp : p.block < base) : liLC (w.setCell p u) base s := ⟨⟨h.1.1.setF h.1.2 hp u, h.1.2.set hp u⟩, AllE.mono h.2 fun x hx => liC.set hx hp⟩
theorem liLC.mono (h : liLC w base s) (hb : base' ≤ base) : liLC w base' s := ⟨⟨h.1.1, h.1.2.mono hb⟩, AllE.mono h.2 fun x hx => liC.mono hx hb⟩
theorem liLC.ok (h : liLC w base s) : okLC w s := ⟨h.1.1, AllE.mono h.2 fun x hx => hx.1⟩
end
def okLH (w : World) (s : SV HoldR) : Prop := Sl w 1 eHr s.A s.n s.c s.xs ∧ AllE (okH w) s.xs
def liLH (w : World) (base : Nat) (s : SV HoldR) : Prop := (Sl w 1 eHr s.A s.n s.c s.xs ∧ Fr w base s.A) ∧ AllE (liH w base) s.xs
section
variable {w w' : World} {base base' : Nat} {s : SV HoldR} {p : Addr} {u : Value}
theorem okLH.below (h : okLH w s) (hb : Below w.heap.size w w') : okLH w' s := ⟨h.1.below hb, AllE.mono h.2 fun x hx => okH.below hx hb⟩
theorem liLH.below (h : liLH w base s) (hb : Below w.heap.size w w') : liLH w' base s := ⟨⟨h.1.1.below hb, h.1.2.below hb⟩, AllE.mono h.2 fun x hx => liH.below hx hb⟩
theorem liLH.set (h : liLH w base s) (hp : p.block < base) : liLH (w.setCell p u) base s := ⟨⟨h.1.1.setF h.1.2 hp u, h.1.2.set hp u⟩, AllE.mono h.2 fun x hx => liH.set hx hp⟩
theorem liLH.mono (h : liLH w base s) (hb : base' ≤ base) : liLH w base' s := ⟨⟨h.1.1, h.1.2.mono hb⟩, AllE.mono h.2 fun x hx => liH.mono hx hb⟩
theorem liLH.ok (h : liLH w base s) : okLH w s := ⟨h.1.1, AllE.mono h.2 fun x hx => hx.1⟩
end
abbrev SetR := SV PartV × SV ChanT × SV (Int × Int)
def setV (s : SetR) : Value := .agg #[s.1.v, s.2.1.v, s.2.2.v]
def okS (w : World) (s : SetR) : Prop := okLP w s.1 ∧ okF 4 eC w s.2.1 ∧ okF 2 eS w s.2.2
def liS (w : World) (base : Nat) (s : SetR) : Prop := liLP w base s.1 ∧ liF 4 eC w base s.2.1 ∧ liF 2 eS w base s.2.2
def cS (s : SetR) : List (List Win × Int) × List ChanT × List (Int × Int) := (s.1.xs.map cP, s.2.1.xs, s.2.2.xs)
def smS (s : SetR) : Prop := shortL s.1.n smP s.1.xs ∧ s.2.1.n ≤ 1048576 ∧ s.2.2.n ≤ 1048576
section
variable {w w' : World} {base base' : Nat} {s : SetR} {p : Addr} {u : Value}
theorem okS.below (h : okS w s) (hb : Below w.heap.size w w') : okS w' s := ⟨h.1.below hb, Sl.below h.2.1 hb, Sl.below h.2.2 hb⟩
theorem liS.below (h : liS w base s) (hb : Below w.heap.size w w') : liS w' base s := ⟨h.1.below hb, h.2.1.below hb, h.2.2.below hb⟩
theorem liS.set (h : liS w base s) (hp : p.block < base) : liS (w.setCell p u) base s := ⟨h.1.set hp, h.2.1.set hp, h.2.2.set hp⟩
theorem liS.mono (h : liS w base s) (hb : base' ≤ base) : liS w base' s := ⟨h.1.mono hb, h.2.1.mono hb, h.2.2.mono hb⟩
theorem liS.ok (h : liS w base s) : okS w s := ⟨h.1.ok, h.2.1.ok, h.2.2.ok⟩
end
theorem szPartS_L (s : SV PartV) (left : Int) (hl : 0 ≤ left ∧ left ≤ 1048576) (w : World) (h : okLP w s) :
    Calls Tryz.prog 62 #[s.v, .int .i64 left] w (Post (fun m : Int => .int .i64 m) fun m w' => (-1 ≤ m ∧ m ≤ left) ∧ (0 ≤ m → shortL s.n smP s.xs) ∧ Below w.heap.size w w') := szPartS_any s.A s.n s.c s.xs left hl w h.1 h.2
theorem toPartS_L (s : SV PartV) (hsm : shortL s.n smP s.xs) (w : World) (h : okLP w s) :
    Calls Tryz.prog 73 #[s.v] w (Post (fun s' : SV PartV => s'.v) fun s' w' => liLP w' w.heap.size s' ∧ s'.xs.map cP = s.xs.map cP ∧ Below w.heap.size w w') :=
  (toPartS_any s.A s.n s.c s.xs hsm.1 hsm.2 w h.1 h.2).mono fun e w' ⟨s', a, b, c, d, _, f⟩ => ⟨s', a, ⟨b, c⟩, d, f⟩
theorem eqPartS_L (s s' : SV PartV) (w : World) (h : okLP w s) (h' : okLP w s') (hc : s.xs.map cP = s'.xs.map cP) :
    Calls Tryz.prog 84 #[s.v, s'.v] w fun e w' => .returned (.bool true) = e ∧ Below w.heap.size w w' := by
  obtain ⟨A, n, c, xs⟩ := s
  obtain ⟨A', n', c', xs'⟩ := s'
  obtain rfl : n = n' := by
    have h1 := h.1.len; have h2 := h'.1.len; have h3 := congrArg List.length hc
    simp only [List.length_map] at h3
    simp only [] at h1 h2 h3
    omega
  exact eqPartS_any A A' n c c' xs xs' w h.1 h'.1 h.2 h'.2 hc
theorem szOrderSS_L (s : SV OrdL) (left : Int) (hl : 0 ≤ left ∧ left ≤ 1048576) (w : World) (h : okLO w s) :
    Calls Tryz.prog 26 #[s.v, .int .i64 left] w (Post (fun m : Int => .int .i64 m) fun m w' => (-1 ≤ m ∧ m ≤ left) ∧ (0 ≤ m → shortL s.n smO s.xs) ∧ Below w.heap.size w w') := szOrderSS_any s.A s.n s.c s.xs left hl w h.1 h.2
theorem toOrderSS_L (s : SV OrdL) (hsm : shortL s.n smO s.xs) (w : World) (h : okLO w s) :
    Calls Tryz.prog 36 #[s.v] w (Post (fun s' : SV OrdL => s'.v) fun s' w' => liLO w' w.heap.size s' ∧ s'.xs.map cO = s.xs.map cO ∧ Below w.heap.size w w') :=
  (toOrderSS_any s.A s.n s.c s.xs hsm.1 hsm.2 w h.1 h.2).mono fun e w' ⟨s', a, b, c, d, _, f⟩ => ⟨s', a, ⟨b, c⟩, d, f⟩
theorem eqOrderSS_L (s s' : SV OrdL) (w : World) (h : okLO w s) (h' : okLO w s') (hc : s.xs.map cO = s'.xs.map cO) :
    Calls Tryz.prog 45 #[s.v, s'.v] w fun e w' => .returned (.bool true) = e ∧ Below w.heap.size w w' := by
  obtain ⟨A, n, c, xs⟩ := s
  obtain ⟨A', n', c', xs'⟩ := s'
  obtain rfl : n = n' := by
    have h1 := h.1.len; have h2 := h'.1.len; have h3 := congrArg List.length hc
    simp only [List.length_map] at h3
    simp only [] at h1 h2 h3
    omega
  exact eqOrderSS_any A A' n c c' xs xs' w h.1 h'.1 h.2 h'.2 hc
theorem szCoreS_L (s : SV CoreT) (left : Int) (hl : 0 ≤ left ∧ left ≤ 1048576) (w : World) (h : okLC w s) :
    Calls Tryz.prog 27 #[s.v, .int .i64 left] w (Post (fun m : Int => .int .i64 m) fun m w' => (-1 ≤ m ∧ m ≤ left) ∧ (0 ≤ m → shortL s.n smC s.xs) ∧ Below w.heap.size w w') := szCoreS_any s.A s.n s.c s.xs left hl w h.1 h.2
theorem toCoreS_L (s : SV CoreT) (hsm : shortL s.n smC s.xs) (w : World) (h : okLC w s) :
    Calls Tryz.prog 37 #[s.v] w (Post (fun s' : SV CoreT => s'.v) fun s' w' => liLC w' w.heap.size s' ∧ s'.xs.map cC = s.xs.map cC ∧ Below w.heap.size w w') :=
  (toCoreS_any s.A s.n s.c s.xs hsm.1 hsm.2 w h.1 h.2).mono fun e w' ⟨s', a, b, c, d, _, f⟩ => ⟨s', a, ⟨b, c⟩, d, f⟩
theorem eqCoreS_L (s s' : SV CoreT) (w : World) (h : okLC w s) (h' : okLC w s') (hc : s.xs.map cC = s'.xs.map cC) :
    Calls Tryz.prog 46 #[s.v, s'.v] w fun e w' => .returned (.bool true) = e ∧ Below w.heap.size w w' := by
  obtain ⟨A, n, c, xs⟩ := s
  obtain ⟨A', n', c', xs'⟩ := s'
  obtain rfl : n = n' := by
    have h1 := h.1.len; have h2 := h'.1.len; have h3 := congrArg List.length hc
    simp only [List.length_map] at h3
    simp only [] at h1 h2 h3
    omega
  exact eqCoreS_any A A' n c c' xs xs' w h.1 h'.1 h.2 h'.2 hc
theorem szHoldS_L (s : SV HoldR) (left : Int) (hl : 0 ≤ left ∧ left ≤ 1048576) (w : World) (h : okLH w s) :
    Calls Tryz.prog 28 #[s.v, .int .i64 left] w (Post (fun m : Int => .int .i64 m) fun m w' => (-1 ≤ m ∧ m ≤ left) ∧ (0 ≤ m → shortL s.n smH s.xs) ∧ Below w.heap.size w w') := szHoldS_any s.A s.n s.c s.xs left hl w h.1 h.2
theorem toHoldS_L (s : SV HoldR) (hsm : shortL s.n smH s.xs) (w : World) (h : okLH w s) :
    Calls Tryz.prog 38 #[s.v] w (Post (fun s' : SV HoldR => s'.v) fun s' w' => liLH w' w.heap.size s' ∧ s'.xs.map cH = s.xs.map cH ∧ Below w.heap.size w w') :=
  (toHoldS_any s.A s.n s.c s.xs hsm.1 hsm.2 w h.1 h.2).mono fun e w' ⟨s', a, b, c, d, _, f⟩ => ⟨s', a, ⟨b, c⟩, d, f⟩
theorem eqHoldS_L (s s' : SV HoldR) (w : World) (h : okLH w s) (h' : okLH w s') (hc : s.xs.map cH = s'.xs.map cH) :
    Calls Tryz.prog 47 #[s.v, s'.v] w fun e w' => .returned (.bool true) = e ∧ Below w.heap.size w w' := by
  obtain ⟨A, n, c, xs⟩ := s
  obtain ⟨A', n', c', xs'⟩ := s'
  obtain rfl : n = n' := by
    have h1 := h.1.len; have h2 := h'.1.len; have h3 := congrArg List.length hc
    simp only [List.length_map] at h3
    simp only [] at h1 h2 h3
    omega
  exact eqHoldS_any A A' n c c' xs xs' w h.1 h'.1 h.2 h'.2 hc
theorem szChannelS_L (s : SV ChanT) (left : Int) (hl : 0 ≤ left ∧ left ≤ 1048576) (w : World) (h : okF 4 eC w s) :
    Calls Tryz.prog 63 #[s.v, .int .i64 left] w (Post (fun m : Int => .int .i64 m) fun m w' => (-1 ≤ m ∧ m ≤ left) ∧ (0 ≤ m → s.n ≤ 1048576) ∧ Below w.heap.size w w') :=
  (szChannelS_any s.A s.n s.c left hl (Nat.le_trans h.le h.max) w).mono fun e w' ⟨a, b⟩ => ⟨szOfChannel s.n left, a.symm, by unfold szOfChannel; split <;> omega, fun h => by unfold szOfChannel at h; split at h <;> omega, b ▸ Below.refl _ _⟩
theorem toChannelS_L (s : SV ChanT) (hsm : s.n ≤ 1048576) (w : World) (h : okF 4 eC w s) :
    Calls Tryz.prog 74 #[s.v] w (Post (fun s' : SV ChanT => s'.v) fun s' w' => liF 4 eC w' w.heap.size s' ∧ s'.xs = s.xs ∧ Below w.heap.size w w') :=
  (toChannelS_any s.A s.n s.c s.xs hsm w h).mono fun e w' ⟨g, a, b, c, d⟩ => ⟨⟨some ⟨g, 0, none⟩, s.n, s.n, s.xs⟩, a, ⟨fresh_sl encC b h.len hsm, Fr.some b c⟩, rfl, d⟩
theorem eqChannelS_L (s s' : SV ChanT) (w : World) (h : okF 4 eC w s) (h' : okF 4 eC w s') (hc : s.xs = s'.xs) :
    Calls Tryz.prog 85 #[s.v, s'.v] w fun e w' => .returned (.bool true) = e ∧ Below w.heap.size w w' := by
  obtain ⟨A, n, c, xs⟩ := s
  obtain ⟨A', n', c', xs'⟩ := s'
  simp only [okF] at h h' hc
  subst hc
  obtain rfl : n = n' := by have h1 := h.len; have h2 := h'.len; omega
  exact eqChannelS_any A A' n c c' xs w h h'
theorem szSlotS_L (s : SV (Int × Int)) (left : Int) (hl : 0 ≤ left ∧ left ≤ 1048576) (w : World) (h : okF 2 eS w s) :
    Calls Tryz.prog 64 #[s.v, .int .i64 left] w (Post (fun m : Int => .int .i64 m) fun m w' => (-1 ≤ m ∧ m ≤ left) ∧ (0 ≤ m → s.n ≤ 1048576) ∧ Below w.heap.size w w') :=
  (szSlotS_any s.A s.n s.c left hl (Nat.le_trans h.le h.max) w).mono fun e w' ⟨a, b⟩ => ⟨szOfSlot s.n left, a.symm, by unfold szOfSlot; split <;> omega, fun h => by unfold szOfSlot at h; split at h <;> omega, b ▸ Below.refl _ _⟩
theorem toSlotS_L (s : SV (Int × Int)) (hsm : s.n ≤ 1048576) (w : World) (h : okF 2 eS w s) :
    Calls Tryz.prog 75 #[s.v] w (Post (fun s' : SV (Int × Int) => s'.v) fun s' w' => liF 2 eS w' w.heap.size s' ∧ s'.xs = s.xs ∧ Below w.heap.size w w') :=
  (toSlotS_any s.A s.n s.c s.xs hsm w h).mono fun e w' ⟨g, a, b, c, d⟩ => ⟨⟨some ⟨g, 0, none⟩, s.n, s.n, s.xs⟩, a, ⟨fresh_sl encS b h.len hsm, Fr.some b c⟩, rfl, d⟩
theorem eqSlotS_L (s s' : SV (Int × Int)) (w : World) (h : okF 2 eS w s) (h' : okF 2 eS w s') (hc : s.xs = s'.xs) :
    Calls Tryz.prog 86 #[s.v, s'.v] w fun e w' => .returned (.bool true) = e ∧ Below w.heap.size w w' := by
  obtain ⟨A, n, c, xs⟩ := s
  obtain ⟨A', n', c', xs'⟩ := s'
  simp only [okF] at h h' hc
  subst hc
  obtain rfl : n = n' := by have h1 := h.len; have h2 := h'.len; omega
  exact eqSlotS_any A A' n c c' xs w h h'

end Go.Proofs.YtckgdlgdipfgmaaGreat
