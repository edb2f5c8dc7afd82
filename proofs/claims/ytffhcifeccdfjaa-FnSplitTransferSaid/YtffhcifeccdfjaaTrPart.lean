/- Transfers that windows allow: part, TransferPart, TransferAllowed of impl and spec. -/
import Derived.Test.YtffhcifeccdfjaaSAt
import Derived.Test.YtffhcifeccdfjaaTransfer
import Derived.Test.YtffhcifeccdfjaaNear
namespace Go.Proofs.Ytffhcifeccdfjaa
set_option linter.unusedVariables false
set_option linter.unusedSimpArgs false
open Go.RowKit

def partN (xs : List Win) (p : Int) (z : Bool) (m : Nat) : Nat := (List.range m).findIdx fun i : Nat => decide (windowAt xs (p + (i : Int)) z < 0)
theorem part_stop {xs : List Win} {p : Int} {z : Bool} {m kk : Nat} (hk : kk ≤ m) (ha : ∀ j : Nat, j < kk → 0 ≤ windowAt xs (p + (j : Int)) z) (hs : kk < m → windowAt xs (p + (kk : Int)) z < 0) : partN xs p z m = kk := by
  unfold partN
  by_cases h : kk < m
  · rw [List.findIdx_eq (by simpa using h)]
    refine ⟨by simpa using hs h, fun j hj => ?_⟩
    simpa using ha j hj
  · obtain rfl : kk = m := by omega
    have : (List.range kk).findIdx (fun i : Nat => decide (windowAt xs (p + (i : Int)) z < 0)) = (List.range kk).length := by
      rw [List.findIdx_eq_length]
      intro x hx
      rw [List.mem_range] at hx
      simpa using ha x hx
    rw [this, List.length_range]
theorem part_step {W : Int → Int} {p : Int} {kk : Nat} (ha : ∀ j : Nat, j < kk → 0 ≤ W (p + (j : Int))) (h : 0 ≤ W (p + (kk : Int))) : ∀ j : Nat, j < kk + 1 → 0 ≤ W (p + (j : Int)) := by
  intro j hj
  by_cases e : j = kk
  · subst e; omega
  · exact ha j (by omega)

theorem part_any (A : Option Addr) (n c : Nat) (xs : List Win) (p q : Int) (z : Bool) (hp : 0 ≤ p ∧ p ≤ 4096) (hq : 0 ≤ q ∧ q ≤ 64) (w : World) (hs : Sl w 3 Win.cells A n c xs) :
    Calls Try.prog 50 #[trCells (p, q, z), .slice A n c] w fun e w' => .returned (.int .i64 (partN xs p z q.toNat)) = e ∧ Below w.heap.size w w' := by
  obtain ⟨m, rfl⟩ : ∃ m : Nat, q = (m : Int) := ⟨q.toNat, by omega⟩
  rw [Int.toNat_natCast]
  obtain ⟨hp0, hp1⟩ := hp
  have hm : m ≤ 64 := by omega
  clear hq
  have hv := fun W hW p => windowAt_any A n c xs p z W (hs.below hW)
  clear hs
  have hb0 := alo (Below.refl w.heap.size w) (.cells #[.int .i64 p, .int .i64 m, .bool z] 24)
  skip
  have B1 := Blk.new w 24 #[.int .i64 p, .int .i64 m, .bool z]
  go_enter Try.func50, Try.ntmps50
  simp only [trCells]
  go_wp2
  go_loopg [5] 64 (fun gg s3 wd => ∃ kk : Nat, kk ≤ m ∧ m - kk ≤ gg ∧ s3 = .int .i64 kk ∧ Aside (Below w.heap.size w wd) ∧ Aside (Blk wd w.heap.size 24 #[.int .i64 p, .int .i64 m, .bool z]) ∧ Aside (∀ j : Nat, j < kk → 0 ≤ windowAt xs (p + (j : Int)) z))
  case atStart => exact ⟨0, Nat.zero_le _, by omega, rfl, (show Aside _ from hb0), (show Aside _ from B1), (show Aside _ from fun j hj => absurd hj (Nat.not_lt_zero _))⟩
  case round =>
    obtain ⟨kk, hkk, hg, rfl, BW, BB, AA⟩ := hrel
    clear B1 hb0
    have B1 := BB.out
    clear BB
    by_cases hlt : kk < m
    · have hltz : (kk : Int) < (m : Int) := by omega
      have hv1 := hv _ BW.out (p + (kk : Int))
      clear hv
      by_cases hneg : windowAt xs (p + (kk : Int)) z < 0
      · have HN := Lib.hid hneg
        generalize windowAt xs (p + (kk : Int)) z = v at hv1 hneg
        have cB1_0 := B1.c0; have cB1_1 := B1.c1; have cB1_2 := B1.c2; have fB1 := B1.frozen
        go_wp2_with fail; refine (hv1).mono ?_; rintro e w2 ⟨rfl, hbw2⟩; replace B1 := Blk.belowOf B1 hbw2 (by repeat (first | exact B1 | apply Blk.alloc | apply Blk.drew | (apply Blk.far; rotate_left; (first | assumption | exact Ne.symm (by assumption))) | apply Blk.set_))
        go_wp2
        go_ret
        exact ⟨by rw [part_stop hkk AA.out (fun _ => HN.out)]; rfl, thn BW.out hbw2⟩
      · have HN := Lib.hid hneg
        generalize windowAt xs (p + (kk : Int)) z = v at hv1 hneg
        have cB1_0 := B1.c0; have cB1_1 := B1.c1; have cB1_2 := B1.c2; have fB1 := B1.frozen
        go_wp2_with fail; refine (hv1).mono ?_; rintro e w2 ⟨rfl, hbw2⟩; replace B1 := Blk.belowOf B1 hbw2 (by repeat (first | exact B1 | apply Blk.alloc | apply Blk.drew | (apply Blk.far; rotate_left; (first | assumption | exact Ne.symm (by assumption))) | apply Blk.set_))
        go_wp2
        go_roundg (m - (kk + 1))
        case measure => omega
        case rel => exact ⟨kk + 1, by omega, by omega, by go_num, (show Aside _ from thn BW.out hbw2), (show Aside _ from B1), (show Aside _ from part_step (W := fun i => windowAt xs i z) AA.out HN.out)⟩
    · have hltz : ¬ (kk : Int) < (m : Int) := by omega
      obtain rfl : kk = m := by omega
      clear hv
      have cB1_0 := B1.c0; have cB1_1 := B1.c1; have cB1_2 := B1.c2; have fB1 := B1.frozen
      go_wp2
      go_ret
      exact ⟨by rw [part_stop (Nat.le_refl _) AA.out (fun h => absurd h (by omega))]; rfl, BW.out⟩

def trPart (xs : List Win) (p q : Int) (z : Bool) : Int := if winsOk xs && trOk p q then (partN xs p z q.toNat : Int) else -1
def trAllowed (xs : List Win) (p q : Int) (z : Bool) : Bool := trOk p q && trPart xs p q z == q
theorem trOk_true {p q : Int} (h : trOk p q = true) : 1 ≤ q ∧ q ≤ 64 ∧ 0 ≤ p ∧ p ≤ 4096 - q := by
  simp only [trOk, Bool.and_eq_true, inB_true] at h
  omega

theorem transferPart_any (A : Option Addr) (n c : Nat) (xs : List Win) (p q : Int) (z : Bool) (w : World) (hs : Sl w 3 Win.cells A n c xs) :
    Calls Try.prog 17 #[.slice A n c, trCells (p, q, z)] w fun e w' => .returned (.int .i64 (trPart xs p q z)) = e ∧ Below w.heap.size w w' := by
  have hb0 := alo (Below.refl w.heap.size w) (.cells #[.int .i64 p, .int .i64 q, .bool z] 24)
  have h1 := windowsValid_any A n c xs _ (hs.below hb0)
  have h2 := fun W => transferValid_any p q z W
  have h3 := fun (h : trOk p q = true) W hW => part_any A n c xs p q z (by have := trOk_true h; omega) (by have := trOk_true h; omega) W (hs.below hW)
  clear hs
  unfold trPart
  generalize winsOk xs = v1 at *
  generalize trOk p q = v2 at *
  generalize (partN xs p z q.toNat : Int) = v at *
  simp only [trCells] at h2 h3 ⊢
  skip
  have B1 := Blk.new w 24 #[.int .i64 p, .int .i64 q, .bool z]
  cases v1
  · clear h2 h3
    go_enter Try.func17, Try.ntmps17
    go_wp2_with fail; refine (h1).mono ?_; rintro e w1 ⟨rfl, hbw1⟩; replace B1 := Blk.belowOf B1 hbw1 (by repeat (first | exact B1 | apply Blk.alloc | apply Blk.drew | (apply Blk.far; rotate_left; (first | assumption | exact Ne.symm (by assumption))) | apply Blk.set_))
    go_wp2
    go_ret
    exact ⟨rfl, thn hb0 hbw1⟩
  · cases v2
    · clear h3
      go_enter Try.func17, Try.ntmps17
      go_wp2_with fail; refine (h1).mono ?_; rintro e w1 ⟨rfl, hbw1⟩; replace B1 := Blk.belowOf B1 hbw1 (by repeat (first | exact B1 | apply Blk.alloc | apply Blk.drew | (apply Blk.far; rotate_left; (first | assumption | exact Ne.symm (by assumption))) | apply Blk.set_))
      have hb1 := thn hb0 hbw1
      have cB1_0 := B1.c0; have cB1_1 := B1.c1; have cB1_2 := B1.c2; have fB1 := B1.frozen
      go_wp2_with fail; refine (h2 _).mono ?_; rintro e w2 ⟨rfl, hbw2⟩; replace B1 := Blk.belowOf B1 hbw2 (by repeat (first | exact B1 | apply Blk.alloc | apply Blk.drew | (apply Blk.far; rotate_left; (first | assumption | exact Ne.symm (by assumption))) | apply Blk.set_))
      go_wp2
      go_ret
      exact ⟨rfl, thn hb1 hbw2⟩
    · have h4 := h3 rfl
      clear h3
      go_enter Try.func17, Try.ntmps17
      go_wp2_with fail; refine (h1).mono ?_; rintro e w1 ⟨rfl, hbw1⟩; replace B1 := Blk.belowOf B1 hbw1 (by repeat (first | exact B1 | apply Blk.alloc | apply Blk.drew | (apply Blk.far; rotate_left; (first | assumption | exact Ne.symm (by assumption))) | apply Blk.set_))
      have hb1 := thn hb0 hbw1
      have cB1_0 := B1.c0; have cB1_1 := B1.c1; have cB1_2 := B1.c2; have fB1 := B1.frozen
      go_wp2_with fail; refine (h2 _).mono ?_; rintro e w2 ⟨rfl, hbw2⟩; replace B1 := Blk.belowOf B1 hbw2 (by repeat (first | exact B1 | apply Blk.alloc | apply Blk.drew | (apply Blk.far; rotate_left; (first | assumption | exact Ne.symm (by assumption))) | apply Blk.set_))
      have hb2 := thn hb1 hbw2
      clear cB1_0 cB1_1 cB1_2 fB1
      have cB1_0 := B1.c0; have cB1_1 := B1.c1; have cB1_2 := B1.c2; have fB1 := B1.frozen
      go_wp2_with fail; refine (h4 _ hb2).mono ?_; rintro e w3 ⟨rfl, hbw3⟩; replace B1 := Blk.belowOf B1 hbw3 (by repeat (first | exact B1 | apply Blk.alloc | apply Blk.drew | (apply Blk.far; rotate_left; (first | assumption | exact Ne.symm (by assumption))) | apply Blk.set_))
      go_wp2
      go_ret
      exact ⟨rfl, thn hb2 hbw3⟩

theorem transferAllowed_any (A : Option Addr) (n c : Nat) (xs : List Win) (p q : Int) (z : Bool) (w : World) (hs : Sl w 3 Win.cells A n c xs) :
    Calls Try.prog 14 #[.slice A n c, trCells (p, q, z)] w fun e w' => .returned (.bool (trAllowed xs p q z)) = e ∧ Below w.heap.size w w' := by
  have hb0 := alo (Below.refl w.heap.size w) (.cells #[.int .i64 p, .int .i64 q, .bool z] 24)
  have h2 := fun W => transferValid_any p q z W
  have h3 := fun x => transferPart_any A n c xs p q z (Near.W (w := w.alloc (.cells #[.int .i64 p, .int .i64 q, .bool z] 24)) x) ((hs.below hb0).below x.b)
  clear hs
  unfold trAllowed
  generalize trOk p q = v2 at *
  generalize trPart xs p q z = v at *
  simp only [trCells] at h2 h3 ⊢
  skip
  have B1 := Blk.new w 24 #[.int .i64 p, .int .i64 q, .bool z]
  have cB1_0 := B1.c0; have cB1_1 := B1.c1; have cB1_2 := B1.c2; have fB1 := B1.frozen
  cases v2
  · clear h3
    go_enter Try.func14, Try.ntmps14
    go_wp2_with fail
    have qB1_0 := fun x => (B1.near x).c0; have qB1_1 := fun x => (B1.near x).c1; have qB1_2 := fun x => (B1.near x).c2; refine wp_region_near (by kernel_rfl) (by kernel_rfl) ?_; (repeat (go_big_quiet_step (first | (go_at_call 42; with_reducible exact near_call (h2 _))))); refine wpQuiet_nil ?_; intro xN; have hbw1 := xN.b; generalize xN.W = w1 at hbw1 ⊢; clear xN; clear qB1_0 qB1_1 qB1_2; replace B1 := B1.below hbw1
    go_wp2
    go_ret
    exact ⟨rfl, thn hb0 hbw1⟩
  · go_enter Try.func14, Try.ntmps14
    go_wp2_with fail
    have qB1_0 := fun x => (B1.near x).c0; have qB1_1 := fun x => (B1.near x).c1; have qB1_2 := fun x => (B1.near x).c2; refine wp_region_near (by kernel_rfl) (by kernel_rfl) ?_; (repeat (go_big_quiet_step (first | (go_at_call 42; with_reducible exact near_call (h2 _)) | (go_at_call 17; with_reducible exact near_call (h3 _))))); refine wpQuiet_nil ?_; intro xN; have hbw1 := xN.b; generalize xN.W = w1 at hbw1 ⊢; clear xN; clear qB1_0 qB1_1 qB1_2; replace B1 := B1.below hbw1
    go_wp2
    go_ret
    exact ⟨rfl, thn hb0 hbw1⟩
end Go.Proofs.Ytffhcifeccdfjaa
