/- New cores: the draw, NewCore, CoreValid of a new core and the program of one idle order, the walk of FnNewCore. -/
import Derived.Test.YtpiijdfnhkmkaaaPick
import Derived.Test.YtpiijdfnhkmkaaaAppT
import Derived.Test.YtpiijdfnhkmkaaaL1In
import Derived.Test.YtpiijdfnhkmkaaaSame
import Derived.Deep.RegionWith
import Derived.Test.YtpiijdfnhkmkaaaHoldV
import Derived.Test.YtpiijdfnhkmkaaaIdxOrd
import Derived.Test.YtpiijdfnhkmkaaaAlive
namespace Go.Proofs.Ytpiijdfnhkmkaaa
open Go.RowKit Go.Shelf

theorem drawNewCore_any (A : Option Addr) (n c : Nat) (zs : List Int) (w : World) (h : Code w A n c zs) :
    Calls Try.prog 45 #[.slice A n c] w (Post (.int .i64) fun x w' => -1 ≤ x ∧ x ≤ 9 ∧ Below w.heap.size w w') := by
  obtain ⟨r, hr, hrw⟩ : ∃ r, w.heap.size = r ∧ w.heap.size ≤ r := ⟨_, rfl, Nat.le_refl _⟩
  have hopen := open_at r A n c zs w h hr
  clear h hr
  go_enter Try.func45, Try.ntmps45
  go_wp2_with fail
  refine hopen.mono ?_
  rintro e w0 ⟨rfl, hrd, hb, hsz⟩
  replace hb := hb.mono hrw
  have hS := Stp.refl hrd
  have hr0 := hrd.lt
  clear hrd hopen
  go_wp2_with fail; refine (pick_any _ (11) _ _ (by repeat (first | exact hS.rd | apply Rd.drew | apply Rd.alloc | (apply Rd.setCell; rotate_left; assumption))) (by omega) (by omega)).mono ?_; rintro e w1 ⟨v1, rfl, hv10, hv11, hs⟩; replace hS := Stp.trans (by repeat (first | exact hS | apply Stp.drew | apply Stp.alloc | (apply Stp.set; assumption; assumption))) hs; clear hs
  have hBel := hS.belowT (a := w) (B := w.heap.size) hb (by assumption) hb.size
  go_wp2
  go_ret
  exact ⟨_, rfl, by omega, by omega, hBel⟩

def coreV (s : SV Int) : Value := .agg #[s.v, .int .i64 0, .bool false]
def coreZ (n : Int) : List Int := if inB n 1 8 then List.replicate n.toNat 0 else []

theorem slN (w : World) : Sl w 1 eI none 0 0 ([] : List Int) := ⟨rfl, Nat.le_refl _, by omega, fun h => absurd h (by omega)⟩
theorem newCore_any (k : Int) (w : World) : Calls Try.prog 46 #[.int .i64 k] w (Post coreV fun s w' => SV.ok w' w.heap.size 1 eI s ∧ s.xs = coreZ k ∧ Below w.heap.size w w') := by
  have hc := fun W => in_any k 1 8 W
  unfold coreZ
  cases hv : inB k 1 8
  · rw [hv] at hc
    clear hv
    skip
    have B1 := Blk.new w 62 #[.slice none 0 0, .int .i64 0, .bool false]
    go_enter Try.func46, Try.ntmps46
    go_wp2_with fail
    refine (hc _).mono ?_; rintro e w' ⟨rfl, rfl⟩
    have cB1_0 := B1.c0; have cB1_1 := B1.c1; have cB1_2 := B1.c2; have fB1 := B1.frozen
    go_wp2
    exact bodyPost_ret (v := coreV ⟨none, 0, 0, []⟩) (by simp [results, Try.results46, go_sem, coreV, SV.v, cB1_0, cB1_1, cB1_2]) rfl ⟨_, rfl, ⟨slN _, fun b o e => (by cases e), fun _ => rfl, fun _ e => (by cases e)⟩, rfl, (by repeat (first | exact Below.refl _ _ | assumption | apply alo | (apply Below.setCell; rotate_left; (first | assumption | exact Nat.le_refl _ | (simp only []; omega))) | apply Below.drew | apply belowDrewN | (refine thn ?_ (by assumption))))⟩
  · rw [hv] at hc
    obtain ⟨h1, h2⟩ := inB_true.1 hv
    clear hv
    have hS := alo (Below.refl w.heap.size w) (.cells #[.slice none 0 0, .int .i64 0, .bool false] 62)
    skip
    have B1 := Blk.new w 62 #[.slice none 0 0, .int .i64 0, .bool false]
    go_enter Try.func46, Try.ntmps46
    go_wp2_with fail
    refine (hc _).mono ?_; rintro e w' ⟨rfl, rfl⟩
    go_wp2_with (refine make_own rfl _ _ zeroInt rfl encI (w.heap.size + 1) _ _ k.toNat rfl rfl (by omega) (by omega) (by omega) (by simp) ?_; intro w4 own4 hg4; rw [show (w.alloc (.cells #[.slice none 0 0, .int .i64 0, .bool false] 62)).heap.size = w.heap.size + 1 by simp] at own4; have hb4 := below_of_grown hg4; replace B1 := B1.below hb4; have hB4 := thn hS hb4; have cB1_0 := B1.c0; have cB1_1 := B1.c1; have cB1_2 := B1.c2; have fB1 := B1.frozen; clear hg4 hb4 hc)
    exact bodyPost_ret (v := coreV ⟨some ⟨w.heap.size + 1, 0, none⟩, k.toNat, k.toNat, List.replicate k.toNat 0⟩) (by simp [results, Try.results46, go_sem, coreV, SV.v, cB1_0, cB1_1, cB1_2]) rfl ⟨_, rfl, ((((own4.far (p := ⟨w.heap.size, 0, none⟩) (by simp) _).far (p := ⟨w.heap.size, 1, none⟩) (by simp) _).far (p := ⟨w.heap.size, 2, none⟩) (by simp) _).okv encI).mono (base' := w.heap.size) (by omega), rfl, (by repeat (first | exact Below.refl _ _ | assumption | apply alo | (apply Below.setCell; rotate_left; (first | assumption | exact Nat.le_refl _ | (simp only []; omega))) | apply Below.drew | apply belowDrewN | (refine thn ?_ (by assumption))))⟩
theorem specNewCore_any (k : Int) (w : World) : Calls Try.prog 48 #[.int .i64 k] w (Post coreV fun s w' => SV.ok w' w.heap.size 1 eI s ∧ s.xs = coreZ k ∧ Below w.heap.size w w') := by
  have hc := fun W => l1In_any k 1 8 W
  unfold coreZ
  cases hv : inB k 1 8
  · rw [hv] at hc
    clear hv
    skip
    have B1 := Blk.new w 62 #[.slice none 0 0, .int .i64 0, .bool false]
    go_enter Try.func48, Try.ntmps48
    go_wp2_with fail
    refine (hc _).mono ?_; rintro e w' ⟨rfl, rfl⟩
    have cB1_0 := B1.c0; have cB1_1 := B1.c1; have cB1_2 := B1.c2; have fB1 := B1.frozen
    go_wp2
    exact bodyPost_ret (v := coreV ⟨none, 0, 0, []⟩) (by simp [results, Try.results48, go_sem, coreV, SV.v, cB1_0, cB1_1, cB1_2]) rfl ⟨_, rfl, ⟨slN _, fun b o e => (by cases e), fun _ => rfl, fun _ e => (by cases e)⟩, rfl, (by repeat (first | exact Below.refl _ _ | assumption | apply alo | (apply Below.setCell; rotate_left; (first | assumption | exact Nat.le_refl _ | (simp only []; omega))) | apply Below.drew | apply belowDrewN | (refine thn ?_ (by assumption))))⟩
  · rw [hv] at hc
    obtain ⟨h1, h2⟩ := inB_true.1 hv
    clear hv
    have hS := alo (Below.refl w.heap.size w) (.cells #[.slice none 0 0, .int .i64 0, .bool false] 62)
    skip
    have B1 := Blk.new w 62 #[.slice none 0 0, .int .i64 0, .bool false]
    go_enter Try.func48, Try.ntmps48
    go_wp2_with fail
    refine (hc _).mono ?_; rintro e w' ⟨rfl, rfl⟩
    go_wp2_with (refine make_own rfl _ _ zeroInt rfl encI (w.heap.size + 1) _ _ k.toNat rfl rfl (by omega) (by omega) (by omega) (by simp) ?_; intro w4 own4 hg4; rw [show (w.alloc (.cells #[.slice none 0 0, .int .i64 0, .bool false] 62)).heap.size = w.heap.size + 1 by simp] at own4; have hb4 := below_of_grown hg4; replace B1 := B1.below hb4; have hB4 := thn hS hb4; have cB1_0 := B1.c0; have cB1_1 := B1.c1; have cB1_2 := B1.c2; have fB1 := B1.frozen; clear hg4 hb4 hc)
    exact bodyPost_ret (v := coreV ⟨some ⟨w.heap.size + 1, 0, none⟩, k.toNat, k.toNat, List.replicate k.toNat 0⟩) (by simp [results, Try.results48, go_sem, coreV, SV.v, cB1_0, cB1_1, cB1_2]) rfl ⟨_, rfl, ((((own4.far (p := ⟨w.heap.size, 0, none⟩) (by simp) _).far (p := ⟨w.heap.size, 1, none⟩) (by simp) _).far (p := ⟨w.heap.size, 2, none⟩) (by simp) _).okv encI).mono (base' := w.heap.size) (by omega), rfl, (by repeat (first | exact Below.refl _ _ | assumption | apply alo | (apply Below.setCell; rotate_left; (first | assumption | exact Nat.le_refl _ | (simp only []; omega))) | apply Below.drew | apply belowDrewN | (refine thn ?_ (by assumption))))⟩

theorem sameCore_any (s s' : SV Int) (e : s.xs = s'.xs) (w : World) (h : Sl w 1 eI s.A s.n s.c s.xs) (h' : Sl w 1 eI s'.A s'.n s'.c s'.xs) : Calls Try.prog 47 #[coreV s, coreV s'] w fun e w' => .returned (.bool true) = e ∧ Below w.heap.size w w' := by
  have hb1 := (Below.refl w.heap.size w).alloc (Nat.le_refl _) (.cells #[s.v, .int .i64 0, .bool false] 62)
  have hb2 := hb1.alloc (by simp) (.cells #[s'.v, .int .i64 0, .bool false] 62)
  have hc := sameInts_any _ _ _ _ _ _ _ _ _ (h.below hb2) (h'.below hb2)
  rw [decide_eq_true e] at hc
  clear h h' e
  obtain ⟨A, n, c, xs⟩ := s
  obtain ⟨A', n', c', ys⟩ := s'
  simp only [SV.v, coreV] at hc hb1 hb2 ⊢
  have B1 := Blk.new w 62 #[.slice A n c, .int .i64 0, .bool false]
  replace B1 := B1.alloc (.cells #[.slice A' n' c', .int .i64 0, .bool false] 62)
  have B2 := Blk.new2 w (.cells #[.slice A n c, .int .i64 0, .bool false] 62) 62 #[.slice A' n' c', .int .i64 0, .bool false]
  skip
  go_enter Try.func47, Try.ntmps47
  go_wp2_with fail; refine (hc).mono ?_; rintro e w1 ⟨rfl, hbw1⟩; replace B1 := Blk.belowOf B1 hbw1 (by repeat (first | exact B1 | apply Blk.alloc | apply Blk.drew | (apply Blk.far; rotate_left; (first | assumption | exact Ne.symm (by assumption))) | apply Blk.set_)); replace B2 := Blk.belowOf B2 hbw1 (by repeat (first | exact B2 | apply Blk.alloc | apply Blk.drew | (apply Blk.far; rotate_left; (first | assumption | exact Ne.symm (by assumption))) | apply Blk.set_))
  clear hc
  have e1 := B1.c1
  have e2 := B2.c1
  have e3 := B1.c2
  have e4 := B2.c2
  go_wp2
  go_ret
  exact ⟨rfl, thn hb2 hbw1⟩

/-- Order{} in a program of one order. -/
theorem ordZero_any (k : Int) (hk : 1 ≤ k ∧ k ≤ 8) (w : World) : Calls Try.prog 80 #[.agg #[.int .i64 0, .int .i64 0, .int .i64 0], .int .i64 k, .int .i64 1] w fun e w' => .returned (.bool true) = e ∧ Below w.heap.size w w' := by
  have hc := fun W => Calls.flip (in_any 0 0 (k - 1) W)
  generalize inB 0 0 (k - 1) = v at hc
  obtain ⟨h1, h2⟩ := hk
  go_enter Try.func80, Try.ntmps80
  go_wp2_with fail
  go_quiet ((go_at_call 52; with_reducible exact Calls.quiet_of_same (hc _)))
  go_wp2
  go_ret
  exact ⟨rfl, (by repeat (first | exact Below.refl _ _ | assumption | apply alo | (apply Below.setCell; rotate_left; (first | assumption | exact Nat.le_refl _ | (simp only []; omega))) | apply Below.drew | apply belowDrewN | (refine thn ?_ (by assumption))))⟩

theorem ordBad1_any (x : Int × Int × Int) (hx : x = (0, 0, 0)) (k : Int) (hk : 1 ≤ k ∧ k ≤ 8) (A : Option Addr) (q q' : Nat) (w : World) (hq : q < w.heap.size) (hq' : q' < w.heap.size) (h1 : w.cell? ⟨q, 0, none⟩ = some (.int .i64 k)) (h2 : w.cell? ⟨q', 0, none⟩ = some (.slice A 1 1)) :
    Calls Try.prog 79 #[.agg (eO x).toArray, .pointer (some ⟨q, 0, none⟩), .pointer (some ⟨q', 0, none⟩)] w fun e w' => .returned (.bool false) = e ∧ Below w.heap.size w w' := by
  subst hx
  have hc := fun W => ordZero_any k hk W
  simp only [eO] at hc ⊢
  replace h1 : (w.alloc (.cells #[.int .i64 0, .int .i64 0, .int .i64 0] 24)).cell? ⟨q, 0, none⟩ = some (.int .i64 k) := by
    rw [World.cell?_alloc_lt w _ ⟨q, 0, none⟩ hq]; exact h1
  replace h2 : (w.alloc (.cells #[.int .i64 0, .int .i64 0, .int .i64 0] 24)).cell? ⟨q', 0, none⟩ = some (.slice A 1 1) := by
    rw [World.cell?_alloc_lt w _ ⟨q', 0, none⟩ hq']; exact h2
  skip
  go_enter Try.func79, Try.ntmps79
  go_wp2_with fail; refine (hc _).mono ?_; rintro e w1 ⟨rfl, hbw1⟩
  go_wp2
  go_ret
  exact ⟨rfl, (by repeat (first | exact Below.refl _ _ | assumption | apply alo | (apply Below.setCell; rotate_left; (first | assumption | exact Nat.le_refl _ | (simp only []; omega))) | apply Below.drew | apply belowDrewN | (refine thn ?_ (by assumption))))⟩
theorem enters_ord (args : Array Value) (w : World) : (callFunc 79 args).run Try.prog w = .ok (.enter 79 args) w := enters_of Try.func79 (by kernel_rfl) rfl args w

theorem progOne_any (A : Option Addr) (k : Int) (hk : 1 ≤ k ∧ k ≤ 8) (w : World) (hs : Sl w 3 eO A 1 1 [(0, 0, 0)]) :
    Calls Try.prog 70 #[.slice A 1 1, .int .i64 k] w fun e w' => .returned (.bool true) = e ∧ Below w.heap.size w w' := by
  have B1 := (Blk.new w 66 #[.slice A 1 1]).alloc (.cells #[.int .i64 k] 3)
  have B2 := Blk.new2 w (.cells #[.slice A 1 1] 66) 3 #[.int .i64 k]
  have hb2 := (((Below.refl w.heap.size w).alloc (Nat.le_refl _) (.cells #[.slice A 1 1] 66))).alloc (by simp) (.cells #[.int .i64 k] 3)
  have hi := containsOrd (fun _ => false) _ #[.pointer (some ⟨w.heap.size + 1, 0, none⟩), .pointer (some ⟨w.heap.size, 0, none⟩)] enters_ord A 1 1 _ _ (fun x => x = (0, 0, 0)) (fun x hx => by simpa using hx)
    (fun W x hx hW => ordBad1_any x hx k hk A (w.heap.size + 1) w.heap.size W (by have := hW.size; simp at this; omega) (by have := hW.size; simp at this; omega) ((hW.cell (p := ⟨w.heap.size + 1, 0, none⟩) (by simp)).trans B2.c0) ((hW.cell (p := ⟨w.heap.size, 0, none⟩) (by simp; omega)).trans B1.c0)) (hs.below hb2)
  have h1 := fun W => in_any 1 1 20 W
  have h2 := fun W => in_any k 1 8 W
  rw [show inB 1 1 20 = true from rfl] at h1
  rw [inB_true.2 hk] at h2
  simp only [List.any_cons, List.any_nil, Bool.or_self] at hi
  clear hs hk
  have hmf : ∀ (fn : Fn) (first cap : Array Value) (w : World), (Instr.makeFunc fn first cap).run Try.prog w = .ok (.func fn first cap) w := fun _ _ _ _ => rfl
  skip
  skip
  have cB1_0 := B1.c0; have fB1 := B1.frozen; have cB2_0 := B2.c0; have fB2 := B2.frozen
  go_enter Try.func70, Try.ntmps70
  go_wp2_with fail; refine (h1 _).mono ?_; rintro e w' ⟨rfl, rfl⟩
  go_wp2_with fail; refine (h2 _).mono ?_; rintro e w' ⟨rfl, rfl⟩
  go_wp2_with fail
  refine hi.mono ?_; rintro e w1 ⟨rfl, hb3⟩
  go_wp2
  go_ret
  exact ⟨rfl, thn hb2 hb3⟩

theorem fitsBad_any (n : Int) (w : World) : Calls Try.prog 81 #[.int .i64 n] w fun e w' => .returned (.bool (!inB n 0 255)) = e ∧ Below w.heap.size w w' := by
  go_enter Try.func81, Try.ntmps81
  go_wp2_with (go_at_call 67; refine (isValue_any _ _).mono ?_; rintro e w1 ⟨rfl, rfl⟩)
  go_ret
  exact ⟨rfl, Below.refl _ _⟩
theorem enters_fits (args : Array Value) (w : World) : (callFunc 81 args).run Try.prog w = .ok (.enter 81 args) w := enters_of Try.func81 (by kernel_rfl) rfl args w

theorem zeros_any (k : Nat) : (List.replicate k (0 : Int)).any (fun x => !inB x 0 255) = false := by
  induction k with
  | zero => rfl
  | succ n ih => rw [List.replicate_succ, List.any_cons, ih]; rfl

theorem fitsNew_any (A1 : Option Addr) (n1 c1 : Nat) (A : Option Addr) (k : Int) (hk : 1 ≤ k ∧ k ≤ 8) (w : World) (h : Sl w 1 eI A1 n1 c1 (List.replicate k.toNat 0)) :
    Calls Try.prog 71 #[.agg #[.slice A1 n1 c1, .int .i64 0, .bool false], .slice A 1 1, .int .i64 k] w fun e w' => .returned (.bool true) = e ∧ Below w.heap.size w w' := by
  have hb1 := (Below.refl w.heap.size w).alloc (Nat.le_refl _) (.cells #[.slice A1 n1 c1, .int .i64 0, .bool false] 62)
  have hi := containsInt (fun x => !inB x 0 255) _ #[] enters_fits A1 n1 c1 _ _ (fun _ => True) (fun _ _ => trivial) (fun W x _ _ => fitsBad_any x W) (h.below hb1)
  rw [zeros_any] at hi
  have hn := h.len
  rw [List.length_replicate] at hn
  obtain rfl : k = (n1 : Int) := by omega
  clear hn h
  have h1 := fun W => in_any 0 0 0 W
  rw [show inB 0 0 0 = true from rfl] at h1
  skip
  have B1 := Blk.new w 62 #[.slice A1 n1 c1, .int .i64 0, .bool false]
  have cB1_0 := B1.c0; have cB1_1 := B1.c1; have cB1_2 := B1.c2; have fB1 := B1.frozen
  go_enter Try.func71, Try.ntmps71
  go_wp2_with fail; refine (h1 _).mono ?_; rintro e w' ⟨rfl, rfl⟩
  go_wp2_with fail
  refine hi.mono ?_; rintro e w1 ⟨rfl, hb3⟩
  go_wp2
  go_ret
  exact ⟨rfl, thn hb1 hb3⟩

theorem coreNew_any (A1 : Option Addr) (n1 c1 : Nat) (A : Option Addr) (k : Int) (hk : 1 ≤ k ∧ k ≤ 8) (w : World) (h : Sl w 1 eI A1 n1 c1 (List.replicate k.toNat 0)) (hs : Sl w 3 eO A 1 1 [(0, 0, 0)]) :
    Calls Try.prog 49 #[.agg #[.slice A1 n1 c1, .int .i64 0, .bool false], .slice A 1 1, .int .i64 k] w fun e w' => .returned (.bool true) = e ∧ Below w.heap.size w w' := by
  have hb1 := (Below.refl w.heap.size w).alloc (Nat.le_refl _) (.cells #[.slice A1 n1 c1, .int .i64 0, .bool false] 62)
  have hp := progOne_any A k hk _ (hs.below hb1)
  have hf := fun W hW => fitsNew_any A1 n1 c1 A k hk W (h.below hW)
  clear hs h hk
  skip
  have B1 := Blk.new w 62 #[.slice A1 n1 c1, .int .i64 0, .bool false]
  go_enter Try.func49, Try.ntmps49
  go_wp2_with fail; refine (hp).mono ?_; rintro e w1 ⟨rfl, hbw1⟩; replace B1 := Blk.belowOf B1 hbw1 (by repeat (first | exact B1 | apply Blk.alloc | apply Blk.drew | (apply Blk.far; rotate_left; (first | assumption | exact Ne.symm (by assumption))) | apply Blk.set_))
  have hb2 := thn hb1 hbw1
  have e1 := B1.c1
  have e2 := B1.c2
  have cB1_0 := B1.c0; have cB1_1 := B1.c1; have cB1_2 := B1.c2; have fB1 := B1.frozen
  go_wp2_with fail; refine (hf _ hb2).mono ?_; rintro e w2 ⟨rfl, hbw2⟩; replace B1 := Blk.belowOf B1 hbw2 (by repeat (first | exact B1 | apply Blk.alloc | apply Blk.drew | (apply Blk.far; rotate_left; (first | assumption | exact Ne.symm (by assumption))) | apply Blk.set_))
  go_wp2
  go_ret
  exact ⟨rfl, thn hb2 hbw2⟩

set_option maxHeartbeats 1000000 in
theorem lawNewCore (A : Option Addr) (n c : Nat) (zs : List Int) (w : World) (h : Code w A n c zs) :
    Calls Try.prog 14 #[.slice A n c] w fun e w' => .returned (.bool true) = e ∧ Below w.heap.size w w' := by
  have hle := h.le
  have hmax := h.max
  by_cases hn : n ≤ 1048576
  · have hdraw := drawNewCore_any A n c zs w h
    clear h
    go_enter Try.func14, Try.ntmps14
    go_wp2_with fail
    refine hdraw.mono ?_
    rintro e w1 ⟨k, rfl, hk1, hk2, hb⟩
    clear hdraw
    have hI := newCore_any k w1
    have hS := fun W => specNewCore_any k W
    go_wp2_with fail
    refine hI.mono ?_
    rintro e w2 ⟨⟨A1, n1, c1, xs⟩, rfl, hok, rfl, hb2⟩
    clear hI
    have hB2 := thn hb hb2
    have hsl := hok.sl
    simp only [] at hsl
    clear hok hb hb2
    have hl := hsl.len
    skip
    have B1 := Blk.new w2 62 #[.slice A1 n1 c1, .int .i64 0, .bool false]
    replace hsl := hsl.below ((Below.refl _ _).alloc (Nat.le_refl _) (.cells #[.slice A1 n1 c1, .int .i64 0, .bool false] 62))
    replace hB2 := alo hB2 (.cells #[.slice A1 n1 c1, .int .i64 0, .bool false] 62)
    have cB1_0 := B1.c0; have cB1_1 := B1.c1; have cB1_2 := B1.c2; have fB1 := B1.frozen
    simp only [coreV, SV.v]
    go_wp2_with fail
    go_region_with (first
      | (go_at_call 48; refine (hS _).mono ?_; rintro e w3 ⟨⟨A2, n2, c2, ys⟩, rfl, hok2, hys, hbw3⟩; simp only [] at hys; subst hys; have hs2 := hok2.sl; replace hsl := hsl.below (w' := w3) (by repeat (first | exact Below.refl _ _ | assumption | apply alo | (apply Below.setCell; rotate_left; (first | assumption | exact Nat.le_refl _ | (simp only []; omega))) | apply Below.drew | apply belowDrewN | (refine thn ?_ (by assumption)))); replace hB2 : Below w.heap.size w w3 := (by repeat (first | exact Below.refl _ _ | assumption | apply alo | (apply Below.setCell; rotate_left; (first | assumption | exact Nat.le_refl _ | (simp only []; omega))) | apply Below.drew | apply belowDrewN | (refine thn ?_ (by assumption)))); replace B1 := Blk.belowOf B1 hbw3 (by repeat (first | exact B1 | apply Blk.drew)); clear hbw3 hS hok2; have cB1_0 := B1.c0; have cB1_1 := B1.c1; have cB1_2 := B1.c2; have fB1 := B1.frozen; have hE := sameCore_any ⟨A1, n1, c1, _⟩ ⟨A2, n2, c2, _⟩ rfl _ hsl hs2; simp only [coreV, SV.v] at hE ⊢)
      | (go_at_call 47; refine hE.mono ?_; rintro e w4 ⟨rfl, hbw4⟩; replace hB2 : Below w.heap.size w w4 := (by repeat (first | exact Below.refl _ _ | assumption | apply alo | (apply Below.setCell; rotate_left; (first | assumption | exact Nat.le_refl _ | (simp only []; omega))) | apply Below.drew | apply belowDrewN | (refine thn ?_ (by assumption)))); replace hsl := hsl.below hbw4; replace B1 := Blk.belowOf B1 hbw4 B1; clear hbw4 hE hs2; have cB1_0 := B1.c0; have cB1_1 := B1.c1; have cB1_2 := B1.c2; have fB1 := B1.frozen))
    all_goals
      have e1 := B1.c1
      have e2 := B1.c2
      by_cases hv : inB k 1 8 = true
      · obtain ⟨h1, h2⟩ := inB_true.1 hv
        have hz : coreZ k = List.replicate k.toNat 0 := by unfold coreZ; rw [hv]; rfl
        rw [hz] at hsl
        have hn1 := hsl.len
        rw [List.length_replicate] at hn1
        obtain rfl : k = (n1 : Int) := by omega
        have g1 : ¬ (n1 : Int) < 1 := by omega
        have g2 : ¬ 8 < (n1 : Int) := by omega
        have hC := coreNew_any A1 n1 c1 (some ⟨w4.heap.size, 0, none⟩) n1 ⟨h1, h2⟩ (w4.alloc (.cells #[.int .i64 0, .int .i64 0, .int .i64 0] 24)) (hsl.below (alo (Below.refl _ _) _)) (Sl.of_blk (xs := [(0, 0, 0)]) (Blk.new w4 24 #[.int .i64 0, .int .i64 0, .int .i64 0]) encO (by simp))
        clear hv hz hn1 hsl hl hk1 hk2
        go_wp2_with fail
        refine hC.mono ?_
        rintro e w5 ⟨rfl, hb5⟩
        go_wp2
        go_ret
        exact ⟨rfl, thn (alo hB2 _) hb5⟩
      · have hv' : inB k 1 8 = false := by simpa using hv
        have hz : coreZ k = [] := by unfold coreZ; rw [hv']; rfl
        rw [hz] at hsl
        have hn1 := hsl.len
        rw [List.length_nil] at hn1
        subst hn1
        have hv2 := inB_false.1 hv'
        clear hv hv' hz hsl hl
        by_cases g1 : k < 1
        · go_wp2_with fail; refine (alive_any _).mono ?_; rintro e w5 ⟨rfl, hbw5⟩; replace B1 := Blk.belowOf B1 hbw5 (by repeat (first | exact B1 | apply Blk.alloc | apply Blk.drew | (apply Blk.far; rotate_left; (first | assumption | exact Ne.symm (by assumption))) | apply Blk.set_))
          go_wp2
          go_ret
          exact ⟨rfl, thn hB2 hbw5⟩
        · have g2 : 8 < k := by omega
          go_wp2_with fail; refine (alive_any _).mono ?_; rintro e w5 ⟨rfl, hbw5⟩; replace B1 := Blk.belowOf B1 hbw5 (by repeat (first | exact B1 | apply Blk.alloc | apply Blk.drew | (apply Blk.far; rotate_left; (first | assumption | exact Ne.symm (by assumption))) | apply Blk.set_))
          go_wp2
          go_ret
          exact ⟨rfl, thn hB2 hbw5⟩
  · clear h
    go_enter Try.func14, Try.ntmps14
    go_wp2
    go_ret
    exact ⟨rfl, Below.refl _ _⟩
end Go.Proofs.Ytpiijdfnhkmkaaa
