/- New logs: the draw, NewAudit, AuditValid of a log without entries, the walk of FnNewAudit. -/
import Derived.Test.YtpiijdfnhkmkaaaKey
import Derived.Test.YtpiijdfnhkmkaaaL1In
import Derived.Test.YtpiijdfnhkmkaaaSame
import Derived.Deep.RegionWith
import Derived.Test.YtpiijdfnhkmkaaaAlive
namespace Go.Proofs.Ytpiijdfnhkmkaaa
open Go.RowKit

def audV (k : Int) : Value := .agg #[.int .i64 k, .slice none 0 0, .int .i64 k]
theorem slNil (w : World) : Sl w 1 eI none 0 0 ([] : List Int) := ⟨rfl, Nat.le_refl _, by omega, fun h => absurd h (by omega)⟩
theorem drawNewAudit_any (A : Option Addr) (n c : Nat) (zs : List Int) (w : World) (h : Code w A n c zs) :
    Calls Try.prog 40 #[.slice A n c] w (Post (.int .i64) fun x w' => -1 ≤ x ∧ x ≤ 1048573 ∧ Below w.heap.size w w') := by
  obtain ⟨r, hr, hrw⟩ : ∃ r, w.heap.size = r ∧ w.heap.size ≤ r := ⟨_, rfl, Nat.le_refl _⟩
  have hopen := open_at r A n c zs w h hr
  clear h hr
  go_enter Try.func40, Try.ntmps40
  go_wp2_with fail
  refine hopen.mono ?_
  rintro e w0 ⟨rfl, hrd, hb, hsz⟩
  replace hb := hb.mono hrw
  have hS := Stp.refl hrd
  have hr0 := hrd.lt
  clear hrd hopen
  go_wp2_with fail
  refine (l20Key_any r _ _ hS.rd (by omega)).mono ?_
  rintro e w1 ⟨x, rfl, hx1, hx2, hs⟩
  replace hS := Stp.trans (by repeat (first | exact hS | apply Stp.drew | apply Stp.alloc)) hs; clear hs
  have hBel := hS.belowT (a := w) (B := w.heap.size) hb (by assumption) hb.size
  go_wp2
  go_ret
  exact ⟨x, rfl, hx1, hx2, hBel⟩

theorem isKey_any (n : Int) (w : World) : Calls Try.prog 63 #[.int .i64 n] w fun e w' => .returned (.bool (inB n 0 1048572)) = e ∧ w = w' := by
  go_enter Try.func63, Try.ntmps63
  go_wp2_with (go_at_call 52; refine (in_any _ _ _ _).mono ?_; rintro e w1 ⟨rfl, rfl⟩)
  go_ret
  exact ⟨rfl, rfl⟩
theorem chain_nil (k : Int) (w : World) : Calls Try.prog 69 #[.int .i64 k, .slice none 0 0] w fun e w' => .returned (.int .i64 k) = e ∧ w = w' := by
  go_enter Try.func69, Try.ntmps69
  go_wp2
  go_loopg [0, 9] 0 (fun gg s0 s wr => s0 = .int .i64 k ∧ s = .int .i64 0 ∧ Aside (w = wr))
  case atStart => exact ⟨rfl, rfl, (show Aside _ from rfl)⟩
  case round =>
    obtain ⟨rfl, rfl, BW⟩ := hrel
    go_wp2
    go_ret
    exact ⟨rfl, BW.out⟩
def keyOf (k : Int) : Int := if inB k 0 1048572 then k else 0
theorem newAudit_any (k : Int) (w : World) : Calls Try.prog 41 #[.int .i64 k] w fun e w' => .returned (audV (keyOf k)) = e ∧ Below w.heap.size w w' := by
  unfold keyOf audV
  have hc := fun W => isKey_any k W
  generalize inB k 0 1048572 = v at *
  cases v
  all_goals
    skip
    have B1 := Blk.new w 57 #[.int .i64 0, .slice none 0 0, .int .i64 0]
    go_enter Try.func41, Try.ntmps41
    go_wp2_with fail; refine (hc _).mono ?_; rintro e w' ⟨rfl, rfl⟩
    have cB1_0 := B1.c0; have cB1_1 := B1.c1; have cB1_2 := B1.c2; have fB1 := B1.frozen
    go_wp2
  · exact bodyPost_ret (v := audV 0) (by simp [results, Try.results41, go_sem, audV, cB1_0, cB1_1, cB1_2]) rfl ⟨rfl, (by repeat (first | exact Below.refl _ _ | assumption | apply alo | (apply Below.setCell; rotate_left; (first | assumption | exact Nat.le_refl _ | (simp only []; omega))) | apply Below.drew | apply belowDrewN | (refine thn ?_ (by assumption))))⟩
  · exact bodyPost_ret (v := audV k) (by simp [results, Try.results41, go_sem, audV, cB1_0, cB1_1, cB1_2]) rfl ⟨rfl, (by repeat (first | exact Below.refl _ _ | assumption | apply alo | (apply Below.setCell; rotate_left; (first | assumption | exact Nat.le_refl _ | (simp only []; omega))) | apply Below.drew | apply belowDrewN | (refine thn ?_ (by assumption))))⟩
theorem specNewAudit_any (k : Int) (w : World) : Calls Try.prog 43 #[.int .i64 k] w fun e w' => .returned (audV (keyOf k)) = e ∧ Below w.heap.size w w' := by
  unfold keyOf audV
  have hc := fun W => l1In_any k 0 1048572 W
  generalize inB k 0 1048572 = v at *
  cases v
  all_goals
    skip
    have B1 := Blk.new w 57 #[.int .i64 0, .slice none 0 0, .int .i64 0]
    go_enter Try.func43, Try.ntmps43
    go_wp2_with fail; refine (hc _).mono ?_; rintro e w' ⟨rfl, rfl⟩
    have cB1_0 := B1.c0; have cB1_1 := B1.c1; have cB1_2 := B1.c2; have fB1 := B1.frozen
    go_wp2
  · exact bodyPost_ret (v := audV 0) (by simp [results, Try.results43, go_sem, audV, cB1_0, cB1_1, cB1_2]) rfl ⟨rfl, (by repeat (first | exact Below.refl _ _ | assumption | apply alo | (apply Below.setCell; rotate_left; (first | assumption | exact Nat.le_refl _ | (simp only []; omega))) | apply Below.drew | apply belowDrewN | (refine thn ?_ (by assumption))))⟩
  · exact bodyPost_ret (v := audV k) (by simp [results, Try.results43, go_sem, audV, cB1_0, cB1_1, cB1_2]) rfl ⟨rfl, (by repeat (first | exact Below.refl _ _ | assumption | apply alo | (apply Below.setCell; rotate_left; (first | assumption | exact Nat.le_refl _ | (simp only []; omega))) | apply Below.drew | apply belowDrewN | (refine thn ?_ (by assumption))))⟩
theorem sameAudit_any (k : Int) (w : World) : Calls Try.prog 42 #[audV k, audV k] w fun e w' => .returned (.bool true) = e ∧ Below w.heap.size w w' := by
  unfold audV
  have hc := fun W => sameInts_any none none 0 0 0 0 [] [] W (slNil W) (slNil W)
  simp only [decide_true] at hc
  skip
  have B1 := Blk.new w 57 #[.int .i64 k, .slice none 0 0, .int .i64 k]
  replace B1 := B1.alloc (.cells #[.int .i64 k, .slice none 0 0, .int .i64 k] 57)
  have B2 := Blk.new2 w (.cells #[.int .i64 k, .slice none 0 0, .int .i64 k] 57) 57 #[.int .i64 k, .slice none 0 0, .int .i64 k]
  skip
  go_enter Try.func42, Try.ntmps42
  go_wp2_with fail; refine (hc _).mono ?_; rintro e w1 ⟨rfl, hbw1⟩; replace B1 := Blk.belowOf B1 hbw1 (by repeat (first | exact B1 | apply Blk.alloc | apply Blk.drew | (apply Blk.far; rotate_left; (first | assumption | exact Ne.symm (by assumption))) | apply Blk.set_)); replace B2 := Blk.belowOf B2 hbw1 (by repeat (first | exact B2 | apply Blk.alloc | apply Blk.drew | (apply Blk.far; rotate_left; (first | assumption | exact Ne.symm (by assumption))) | apply Blk.set_))
  have e1 := B1.c2
  have e2 := B2.c2
  go_wp2
  go_ret
  exact ⟨rfl, (by repeat (first | exact Below.refl _ _ | assumption | apply alo | (apply Below.setCell; rotate_left; (first | assumption | exact Nat.le_refl _ | (simp only []; omega))) | apply Below.drew | apply belowDrewN | (refine thn ?_ (by assumption))))⟩
theorem auditValid_nil (k : Int) (hk : inB k 0 1048572 = true) (w : World) : Calls Try.prog 44 #[audV k] w fun e w' => .returned (.bool true) = e ∧ Below w.heap.size w w' := by
  unfold audV
  have hc := fun W => Calls.flip (isKey_any k W)
  rw [hk] at hc
  have hd := fun W => Calls.flip (chain_nil k W)
  have hg : decide ((0 : Int) ≤ (60 : Int)) = true := rfl
  go_enter Try.func44, Try.ntmps44
  go_wp2_with fail
  go_quiet ((first | (go_at_call 63; with_reducible exact Calls.quiet_of_same (hc _)) | (go_at_call 69; with_reducible exact Calls.quiet_of_same (hd _))))
  go_wp2
  go_ret
  exact ⟨rfl, (by repeat (first | exact Below.refl _ _ | assumption | apply alo | (apply Below.setCell; rotate_left; (first | assumption | exact Nat.le_refl _ | (simp only []; omega))) | apply Below.drew | apply belowDrewN | (refine thn ?_ (by assumption))))⟩

set_option maxHeartbeats 1000000 in
theorem lawNewAudit (A : Option Addr) (n c : Nat) (zs : List Int) (w : World) (h : Code w A n c zs) :
    Calls Try.prog 13 #[.slice A n c] w fun e w' => .returned (.bool true) = e ∧ Below w.heap.size w w' := by
  have hle := h.le
  have hmax := h.max
  by_cases hn : n ≤ 1048576
  · have hdraw := drawNewAudit_any A n c zs w h
    clear h
    go_enter Try.func13, Try.ntmps13
    go_wp2_with fail
    refine hdraw.mono ?_
    rintro e w1 ⟨k, rfl, hk1, hk2, hb⟩
    clear hdraw
    have hI := fun W => newAudit_any k W
    have hS := fun W => specNewAudit_any k W
    have hE := fun W => sameAudit_any (keyOf k) W
    by_cases hv : inB k 0 1048572 = true
    · have hk : keyOf k = k := by unfold keyOf; rw [hv]; rfl
      have hV := fun W => auditValid_nil k hv W
      simp only [hk, audV] at hI hS hE hV
      obtain ⟨h1, h2⟩ := inB_true.1 hv
      clear hk hv hk1 hk2
      have g1 : ¬ k < 0 := by omega
      have g2 : ¬ 1048572 < k := by omega
      skip
      go_wp2_with fail; refine (hI _).mono ?_; rintro e w2 ⟨rfl, hbw2⟩
      have hB2 : Below w.heap.size w w2 := (by repeat (first | exact Below.refl _ _ | assumption | apply alo | (apply Below.setCell; rotate_left; (first | assumption | exact Nat.le_refl _ | (simp only []; omega))) | apply Below.drew | apply belowDrewN | (refine thn ?_ (by assumption))))
      clear hb hbw2 hI
      have B1 := Blk.new w2 57 #[.int .i64 k, .slice none 0 0, .int .i64 k]
      have cB1_0 := B1.c0; have cB1_1 := B1.c1; have cB1_2 := B1.c2; have fB1 := B1.frozen
      go_wp2_with fail
      go_region_with (first | (go_at_call 43; refine (hS _).mono ?_; rintro e w3 ⟨rfl, hbw3⟩; replace B1 := Blk.belowOf B1 hbw3 (by repeat (first | exact B1 | apply Blk.alloc | apply Blk.drew | (apply Blk.far; rotate_left; (first | assumption | exact Ne.symm (by assumption))) | apply Blk.set_)); have cB1_0 := B1.c0; have cB1_1 := B1.c1; have cB1_2 := B1.c2; have fB1 := B1.frozen) | (go_at_call 42; refine (hE _).mono ?_; rintro e w4 ⟨rfl, hbw4⟩; replace B1 := Blk.belowOf B1 hbw4 (by repeat (first | exact B1 | apply Blk.alloc | apply Blk.drew | (apply Blk.far; rotate_left; (first | assumption | exact Ne.symm (by assumption))) | apply Blk.set_)); have cB1_0 := B1.c0; have cB1_1 := B1.c1; have cB1_2 := B1.c2; have fB1 := B1.frozen))
      all_goals
        go_wp2_with fail; refine (hV _).mono ?_; rintro e w5 ⟨rfl, hbw5⟩; replace B1 := Blk.belowOf B1 hbw5 (by repeat (first | exact B1 | apply Blk.alloc | apply Blk.drew | (apply Blk.far; rotate_left; (first | assumption | exact Ne.symm (by assumption))) | apply Blk.set_))
        have e1 := B1.c1
        have e2 := B1.c2
        go_wp2
        go_ret
        exact ⟨rfl, (by repeat (first | exact Below.refl _ _ | assumption | apply alo | (apply Below.setCell; rotate_left; (first | assumption | exact Nat.le_refl _ | (simp only []; omega))) | apply Below.drew | apply belowDrewN | (refine thn ?_ (by assumption))))⟩
    · have hv' : inB k 0 1048572 = false := by simpa using hv
      have hk : keyOf k = 0 := by unfold keyOf; rw [hv']; rfl
      simp only [hk, audV] at hI hS hE
      have hv2 := inB_false.1 hv'
      clear hk hv hv'
      skip
      go_wp2_with fail; refine (hI _).mono ?_; rintro e w2 ⟨rfl, hbw2⟩
      have hB2 : Below w.heap.size w w2 := (by repeat (first | exact Below.refl _ _ | assumption | apply alo | (apply Below.setCell; rotate_left; (first | assumption | exact Nat.le_refl _ | (simp only []; omega))) | apply Below.drew | apply belowDrewN | (refine thn ?_ (by assumption))))
      clear hb hbw2 hI
      have B1 := Blk.new w2 57 #[.int .i64 0, .slice none 0 0, .int .i64 0]
      have cB1_0 := B1.c0; have cB1_1 := B1.c1; have cB1_2 := B1.c2; have fB1 := B1.frozen
      go_wp2_with fail
      go_region_with (first | (go_at_call 43; refine (hS _).mono ?_; rintro e w3 ⟨rfl, hbw3⟩; replace B1 := Blk.belowOf B1 hbw3 (by repeat (first | exact B1 | apply Blk.alloc | apply Blk.drew | (apply Blk.far; rotate_left; (first | assumption | exact Ne.symm (by assumption))) | apply Blk.set_)); have cB1_0 := B1.c0; have cB1_1 := B1.c1; have cB1_2 := B1.c2; have fB1 := B1.frozen) | (go_at_call 42; refine (hE _).mono ?_; rintro e w4 ⟨rfl, hbw4⟩; replace B1 := Blk.belowOf B1 hbw4 (by repeat (first | exact B1 | apply Blk.alloc | apply Blk.drew | (apply Blk.far; rotate_left; (first | assumption | exact Ne.symm (by assumption))) | apply Blk.set_)); have cB1_0 := B1.c0; have cB1_1 := B1.c1; have cB1_2 := B1.c2; have fB1 := B1.frozen))
      all_goals
        by_cases g1 : k < 0
        · go_wp2_with fail; refine (hE _).mono ?_; rintro e w5 ⟨rfl, hbw5⟩; replace B1 := Blk.belowOf B1 hbw5 (by repeat (first | exact B1 | apply Blk.alloc | apply Blk.drew | (apply Blk.far; rotate_left; (first | assumption | exact Ne.symm (by assumption))) | apply Blk.set_))
          go_wp2_with fail; refine (alive_any _).mono ?_; rintro e w6 ⟨rfl, hbw6⟩; replace B1 := Blk.belowOf B1 hbw6 (by repeat (first | exact B1 | apply Blk.alloc | apply Blk.drew | (apply Blk.far; rotate_left; (first | assumption | exact Ne.symm (by assumption))) | apply Blk.set_))
          go_wp2
          go_ret
          exact ⟨rfl, (by repeat (first | exact Below.refl _ _ | assumption | apply alo | (apply Below.setCell; rotate_left; (first | assumption | exact Nat.le_refl _ | (simp only []; omega))) | apply Below.drew | apply belowDrewN | (refine thn ?_ (by assumption))))⟩
        · have g2 : 1048572 < k := by omega
          go_wp2_with fail; refine (hE _).mono ?_; rintro e w5 ⟨rfl, hbw5⟩; replace B1 := Blk.belowOf B1 hbw5 (by repeat (first | exact B1 | apply Blk.alloc | apply Blk.drew | (apply Blk.far; rotate_left; (first | assumption | exact Ne.symm (by assumption))) | apply Blk.set_))
          go_wp2_with fail; refine (alive_any _).mono ?_; rintro e w6 ⟨rfl, hbw6⟩; replace B1 := Blk.belowOf B1 hbw6 (by repeat (first | exact B1 | apply Blk.alloc | apply Blk.drew | (apply Blk.far; rotate_left; (first | assumption | exact Ne.symm (by assumption))) | apply Blk.set_))
          go_wp2
          go_ret
          exact ⟨rfl, (by repeat (first | exact Below.refl _ _ | assumption | apply alo | (apply Below.setCell; rotate_left; (first | assumption | exact Nat.le_refl _ | (simp only []; omega))) | apply Below.drew | apply belowDrewN | (refine thn ?_ (by assumption))))⟩
  · clear h
    go_enter Try.func13, Try.ntmps13
    go_wp2
    go_ret
    exact ⟨rfl, Below.refl _ _⟩
end Go.Proofs.Ytpiijdfnhkmkaaa
