/- Transfers that windows allow: the reference. -/
import Derived.Test.YtffhcifeccdfjaaTrPart
namespace Go.Proofs.Ytffhcifeccdfjaa
open Go.RowKit

set_option maxHeartbeats 1000000 in
theorem specTransferPart_any (A : Option Addr) (n c : Nat) (xs : List Win) (p q : Int) (z : Bool) (w : World) (hs : Sl w 3 Win.cells A n c xs) :
    Calls Try.prog 18 #[.slice A n c, trCells (p, q, z)] w fun e w' => .returned (.int .i64 (trPart xs p q z)) = e ∧ Below w.heap.size w w' := by
  have hb0 := alo (Below.refl w.heap.size w) (.cells #[.int .i64 p, .int .i64 q, .bool z] 24)
  have h2 := fun W => specTransferValid_any p q z W
  have h1 := fun W hW => specWindowsValid_any A n c xs W (hs.below hW)
  have h3 := fun W hW p => specWindowAt_any A n c xs p z W (hs.below hW)
  clear hs
  obtain ⟨v, hv⟩ : ∃ v, trPart xs p q z = v := ⟨_, rfl⟩
  rw [hv]
  unfold trPart at hv
  simp only [trCells] at h2 ⊢
  skip
  have B1 := Blk.new w 24 #[.int .i64 p, .int .i64 q, .bool z]
  have cB1_0 := B1.c0; have cB1_1 := B1.c1; have cB1_2 := B1.c2; have fB1 := B1.frozen
  cases hk : trOk p q
  · rw [hk] at h2 hv
    have HV := Lib.hid hv
    clear h1 h3 hv hk
    go_enter Try.func18, Try.ntmps18
    go_wp2_with fail; refine (h2 _).mono ?_; rintro e w1 ⟨rfl, hbw1⟩; replace B1 := Blk.belowOf B1 hbw1 (by repeat (first | exact B1 | apply Blk.alloc | apply Blk.drew | (apply Blk.far; rotate_left; (first | assumption | exact Ne.symm (by assumption))) | apply Blk.set_))
    go_wp2
    go_ret
    exact ⟨by rw [← HV.out, Bool.and_false]; rfl, thn hb0 hbw1⟩
  · rw [hk] at h2 hv
    cases ho : winsOk xs
    · rw [ho] at hv h1
      have HV := Lib.hid hv
      clear h3 hv hk ho
      go_enter Try.func18, Try.ntmps18
      go_wp2_with fail; refine (h2 _).mono ?_; rintro e w1 ⟨rfl, hbw1⟩; replace B1 := Blk.belowOf B1 hbw1 (by repeat (first | exact B1 | apply Blk.alloc | apply Blk.drew | (apply Blk.far; rotate_left; (first | assumption | exact Ne.symm (by assumption))) | apply Blk.set_))
      replace hb0 := thn hb0 hbw1
      go_wp2_with fail; refine (h1 _ hb0).mono ?_; rintro e w2 ⟨rfl, hbw2⟩; replace B1 := Blk.belowOf B1 hbw2 (by repeat (first | exact B1 | apply Blk.alloc | apply Blk.drew | (apply Blk.far; rotate_left; (first | assumption | exact Ne.symm (by assumption))) | apply Blk.set_))
      go_wp2
      go_ret
      exact ⟨by rw [← HV.out]; rfl, thn hb0 hbw2⟩
    · rw [ho] at hv h1
      rw [Bool.and_true, if_pos rfl] at hv
      obtain ⟨k1, k2, k3, k4⟩ := trOk_true hk
      obtain ⟨m, rfl⟩ : ∃ m : Nat, q = (m : Int) := ⟨q.toNat, by omega⟩
      rw [Int.toNat_natCast] at hv
      have HV := Lib.hid hv
      clear hv hk ho
      go_enter Try.func18, Try.ntmps18
      go_wp2_with fail; refine (h2 _).mono ?_; rintro e w1 ⟨rfl, hbw1⟩; replace B1 := Blk.belowOf B1 hbw1 (by repeat (first | exact B1 | apply Blk.alloc | apply Blk.drew | (apply Blk.far; rotate_left; (first | assumption | exact Ne.symm (by assumption))) | apply Blk.set_))
      replace hb0 := thn hb0 hbw1
      go_wp2_with fail; refine (h1 _ hb0).mono ?_; rintro e w2 ⟨rfl, hbw2⟩; replace B1 := Blk.belowOf B1 hbw2 (by repeat (first | exact B1 | apply Blk.alloc | apply Blk.drew | (apply Blk.far; rotate_left; (first | assumption | exact Ne.symm (by assumption))) | apply Blk.set_))
      replace hb0 := thn hb0 hbw2
      clear hbw1 hbw2 h1 h2
      clear cB1_0 cB1_1 cB1_2 fB1
      go_wp2
      go_loopg [5] 64 (fun gg s3 wd => ∃ kk : Nat, kk ≤ m ∧ m - kk ≤ gg ∧ s3 = .int .i64 kk ∧ Aside (Below w.heap.size w wd) ∧ Aside (Blk wd w.heap.size 24 #[.int .i64 p, .int .i64 m, .bool z]) ∧ Aside (∀ j : Nat, j < kk → 0 ≤ windowAt xs (p + (j : Int)) z))
      case atStart => exact ⟨0, Nat.zero_le _, by omega, rfl, (show Aside _ from hb0), (show Aside _ from B1), (show Aside _ from fun j hj => absurd hj (Nat.not_lt_zero _))⟩
      case round =>
        obtain ⟨kk, hkk, hg, rfl, BW, BB, AA⟩ := hrel
        clear B1 hb0
        have B1 := BB.out
        clear BB
        by_cases hlt : kk < m
        · have hltz : (kk : Int) < (m : Int) := by omega
          have hv1 := h3 _ BW.out (p + (kk : Int))
          clear h3
          by_cases hneg : windowAt xs (p + (kk : Int)) z < 0
          · have HN := Lib.hid hneg
            generalize windowAt xs (p + (kk : Int)) z = v' at hv1 hneg
            have cB1_0 := B1.c0; have cB1_1 := B1.c1; have cB1_2 := B1.c2; have fB1 := B1.frozen
            go_wp2_with fail; refine (hv1).mono ?_; rintro e w3 ⟨rfl, hbw3⟩; replace B1 := Blk.belowOf B1 hbw3 (by repeat (first | exact B1 | apply Blk.alloc | apply Blk.drew | (apply Blk.far; rotate_left; (first | assumption | exact Ne.symm (by assumption))) | apply Blk.set_))
            go_wp2
            go_ret
            exact ⟨by rw [← HV.out, part_stop hkk AA.out (fun _ => HN.out)]; rfl, thn BW.out hbw3⟩
          · have HN := Lib.hid hneg
            generalize windowAt xs (p + (kk : Int)) z = v' at hv1 hneg
            have cB1_0 := B1.c0; have cB1_1 := B1.c1; have cB1_2 := B1.c2; have fB1 := B1.frozen
            go_wp2_with fail; refine (hv1).mono ?_; rintro e w3 ⟨rfl, hbw3⟩; replace B1 := Blk.belowOf B1 hbw3 (by repeat (first | exact B1 | apply Blk.alloc | apply Blk.drew | (apply Blk.far; rotate_left; (first | assumption | exact Ne.symm (by assumption))) | apply Blk.set_))
            go_wp2
            go_roundg (m - (kk + 1))
            case measure => omega
            case rel => exact ⟨kk + 1, by omega, by omega, by go_num, (show Aside _ from thn BW.out hbw3), (show Aside _ from B1), (show Aside _ from part_step (W := fun i => windowAt xs i z) AA.out HN.out)⟩
        · have hltz : ¬ (kk : Int) < (m : Int) := by omega
          obtain rfl : kk = m := by omega
          clear h3
          have cB1_0 := B1.c0; have cB1_1 := B1.c1; have cB1_2 := B1.c2; have fB1 := B1.frozen
          go_wp2
          go_ret
          exact ⟨by rw [← HV.out, part_stop (Nat.le_refl _) AA.out (fun h => absurd h (by omega))]; rfl, BW.out⟩

end Go.Proofs.Ytffhcifeccdfjaa