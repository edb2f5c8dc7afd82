/- Logs: AuditValid, of the program and of the reference. -/
import Derived.Test.YtffhcifeccdfjaaChain
import Derived.Test.YtffhcifeccdfjaaNear
import Derived.BigQuiet
import Derived.Deep.QuietTactic
namespace Go.Proofs.Ytffhcifeccdfjaa
set_option linter.unusedVariables false
set_option linter.unusedSimpArgs false
open Go.RowKit

def audOk (k : Int) (xs : List Int) (s : Int) : Bool := decide (xs.length ≤ 60) && (inB k 0 1048572 && (s == mixAll k xs))

set_option maxHeartbeats 1000000 in
theorem chain_any (k : Int) (hk0 : 0 ≤ k ∧ k ≤ 1048572) (A : Option Addr) (n c : Nat) (xs : List Int) (w : World) (hs : Sl w 1 eI A n c xs) :
    Calls Try.prog 69 #[.int .i64 k, .slice A n c] w fun e w' => .returned (.int .i64 (mixAll k xs)) = e ∧ Below w.heap.size w w' := by
  have hle := hs.le
  have hmax := hs.max
  have hl := hs.len
  have HB := Lib.hid (fun ys => mixAll_bd k ys hk0)
  go_enter Try.func69, Try.ntmps69
  go_wp2
  go_loopg [0, 6, 9] n (fun gg s0 s6 s9 wr => ∃ (kk : Nat) (m : Int), kk ≤ n ∧ n - kk ≤ gg ∧ s0 = .int .i64 m ∧ s9 = .int .i64 kk ∧ 0 ≤ m ∧ m ≤ 1048572 ∧ Aside (Below w.heap.size w wr) ∧ Aside (m = mixAll k (xs.take kk)))
  case atStart => exact ⟨0, k, Nat.zero_le _, by omega, rfl, rfl, hk0.1, hk0.2, (show Aside _ from Below.refl _ _), (show Aside _ from rfl)⟩
  case round =>
    obtain ⟨kk, m, hkk, hg, rfl, rfl, hm0, hm1, BW, ME⟩ := hrel
    by_cases hlt : kk < n
    · have hltz : (kk : Int) < (n : Int) := by omega
      obtain ⟨b, o, rfl, y, hyk, hc⟩ := hs.nth hlt BW.out
      have hc0 := hc 0 _ rfl
      simp only [eI, Nat.add_zero, Nat.mul_one] at hc0
      have hst := mixAll_take k xs kk y hyk
      rw [← ME.out] at hst
      have hq := mixQ_any m _ 1 1 [y] _ (Sl.of_blk (xs := [y]) (Blk.new wr 3 #[.int .i64 y]) encI (by simp))
      rw [mix_one ⟨hm0, hm1⟩] at hq
      have hB2 := alo BW.out (.cells #[.int .i64 y] 3)
      have hbd := HB.out (xs.take (kk + 1))
      rw [hst] at hbd
      have HS := Lib.hid hst
      clear hc hyk hst ME
      generalize mixStep m y = q at *
      obtain ⟨hq0, hq1⟩ := hbd
      go_wp2_with fail
      refine hq.mono ?_
      rintro e w' ⟨rfl, rfl⟩
      clear hq
      go_wp2
      go_roundg (n - (kk + 1))
      case measure => omega
      case rel => exact ⟨kk + 1, q, by omega, by omega, rfl, by go_num, hq0, hq1, (show Aside _ from hB2), (show Aside _ from HS.out.symm)⟩
    · have hltz : ¬ (kk : Int) < (n : Int) := by omega
      obtain rfl : n = kk := by omega
      have hm := ME.out
      rw [List.take_of_length_le (by omega)] at hm
      subst hm
      go_wp2
      go_ret
      exact ⟨rfl, BW.out⟩

theorem chainL_last {k : Int} {xs : List Int} (h : 0 < xs.length) : (chainL k xs)[xs.length - 1]? = some (mixAll k xs) := by
  rw [chainL_at (by omega), show xs.length - 1 + 1 = xs.length from by omega, List.take_of_length_le (Nat.le_refl _)]

set_option maxHeartbeats 1000000 in
theorem l12Sum_any (k : Int) (hk0 : 0 ≤ k ∧ k ≤ 1048572) (A : Option Addr) (n c : Nat) (xs : List Int) (hn : n ≤ 1000) (w : World) (hs : Sl w 1 eI A n c xs) :
    Calls Try.prog 70 #[.int .i64 k, .slice A n c] w fun e w' => .returned (.int .i64 (mixAll k xs)) = e ∧ Below w.heap.size w w' := by
  have hl := hs.len
  have h1 := specChainSums_any k A n c xs hn w hs
  unfold chainS at h1
  rw [inB_true.2 hk0, if_pos rfl] at h1
  go_enter Try.func70, Try.ntmps70
  go_wp2_with fail
  refine h1.mono ?_
  rintro e w1 ⟨⟨A1, n1, c1, ys⟩, rfl, hok, hys, hb1⟩
  simp only [] at hys
  have hsl := hok.sl
  simp only [SV.v] at hsl ⊢
  subst hys
  obtain rfl : xs.length = n1 := by have := hsl.len; rw [chainL_len] at this; exact this
  subst hl
  clear h1 hok
  have hle := hsl.le
  have hmax := hsl.max
  by_cases h0 : 0 < xs.length
  · have hz : ¬ (xs.length : Int) = 0 := by omega
    have hz1 : ((xs.length : Int) == 0) = false := by rw [beq_eq_false_iff_ne]; exact hz
    obtain ⟨b, o, rfl, y, hyk, hc⟩ := hsl.nth (by omega : xs.length - 1 < xs.length) (Below.refl _ _)
    rw [chainL_last h0] at hyk
    injection hyk with hyk
    subst hyk
    have hc0 := hc 0 _ rfl
    simp only [eI, Nat.add_zero, Nat.mul_one] at hc0
    obtain ⟨q, hq⟩ : ∃ q, mixAll k xs = q := ⟨_, rfl⟩
    rw [hq] at hc0
    have HQ := Lib.hid hq
    clear hq
    obtain ⟨p, hp⟩ : ∃ p, xs.length = p + 1 := ⟨xs.length - 1, by omega⟩
    rw [hp] at hc0 hz hz1 hle ⊢
    simp only [Nat.add_sub_cancel] at hc0
    have hpp : IntKind.i64.wrap (((p + 1 : Nat) : Int) - 1) = (p : Int) := by rw [IntWalk.i64_in _ (by omega)]; omega
    clear hsl hc hs hp
    go_wp2
    go_ret
    exact ⟨by rw [HQ.out]; rfl, hb1⟩
  · have hx : xs = [] := List.eq_nil_of_length_eq_zero (by omega)
    subst hx
    go_wp2
    go_ret
    exact ⟨rfl, hb1⟩

set_option maxHeartbeats 1000000 in
theorem auditValid_any (k s : Int) (A : Option Addr) (n c : Nat) (xs : List Int) (w : World) (hs : Sl w 1 eI A n c xs) :
    Calls Try.prog 33 #[.agg #[.int .i64 k, .slice A n c, .int .i64 s]] w fun e w' => .returned (.bool (audOk k xs s)) = e ∧ Below w.heap.size w w' := by
  have hle := hs.le
  have hmax := hs.max
  have hl := hs.len
  subst hl
  unfold audOk
  have h1 := fun W => isKey_any k W
  have h2 := fun h W hW => chain_any k h A xs.length c xs W hW
  have hkey := @inB_true k 0 1048572
  generalize inB k 0 1048572 = v at *
  skip
  have B0 := Blk.new w 58 #[.int .i64 k, .slice A xs.length c, .int .i64 s]
  have hb0 := alo (Below.refl w.heap.size w) (.cells #[.int .i64 k, .slice A xs.length c, .int .i64 s] 58)
  have hs0 := hs.below hb0
  by_cases hn : xs.length ≤ 60
  · have hnz : (xs.length : Int) ≤ 60 := by omega
    have hg : decide ((xs.length : Int) ≤ 60) = true := decide_eq_true hnz
    have hg2 : decide (xs.length ≤ 60) = true := decide_eq_true hn
    rw [hg2]
    cases v
    · clear h2 hkey hs hs0
      go_enter Try.func33, Try.ntmps33
      go_wp2_with fail
      have qB0_0 := fun x => (B0.near x).c0; have qB0_1 := fun x => (B0.near x).c1; have qB0_2 := fun x => (B0.near x).c2; refine wp_region_near (by kernel_rfl) (by kernel_rfl) ?_; (repeat (go_big_quiet_step (first | (go_at_call 68; with_reducible exact near_same (h1 _))))); refine wpQuiet_nil ?_; intro xN; have hbw1 := xN.b; generalize xN.W = w1 at hbw1 ⊢; clear xN; clear qB0_0 qB0_1 qB0_2; replace B0 := B0.below hbw1
      go_wp2
      go_ret
      exact ⟨rfl, thn hb0 hbw1⟩
    · have h2 := fun (x : Near (w.alloc (.cells #[.int .i64 k, .slice A xs.length c, .int .i64 s] 58))) => h2 (hkey.1 rfl) x.W (hs0.below x.b)
      clear hkey hs hs0
      generalize mixAll k xs = q at *
      go_enter Try.func33, Try.ntmps33
      go_wp2_with fail
      have qB0_0 := fun x => (B0.near x).c0; have qB0_1 := fun x => (B0.near x).c1; have qB0_2 := fun x => (B0.near x).c2; refine wp_region_near (by kernel_rfl) (by kernel_rfl) ?_; (repeat (go_big_quiet_step (first | (go_at_call 68; with_reducible exact near_same (h1 _)) | (go_at_call 69; with_reducible exact near_call (h2 _))))); refine wpQuiet_nil ?_; intro xN; have hbw1 := xN.b; generalize xN.W = w1 at hbw1 ⊢; clear xN; clear qB0_0 qB0_1 qB0_2; replace B0 := B0.below hbw1
      go_wp2
      go_ret
      exact ⟨rfl, thn hb0 hbw1⟩
  · have hnz : ¬ (xs.length : Int) ≤ 60 := by omega
    have hg : decide ((xs.length : Int) ≤ 60) = false := decide_eq_false hnz
    have hg2 : decide (xs.length ≤ 60) = false := decide_eq_false hn
    rw [hg2]
    clear h1 h2 hkey hs hs0
    go_enter Try.func33, Try.ntmps33
    go_wp2_with fail
    have qB0_0 := fun x => (B0.near x).c0; have qB0_1 := fun x => (B0.near x).c1; have qB0_2 := fun x => (B0.near x).c2; refine wp_region_near (by kernel_rfl) (by kernel_rfl) ?_; (repeat (go_big_quiet_step (first | fail))); refine wpQuiet_nil ?_; intro xN; have hbw1 := xN.b; generalize xN.W = w1 at hbw1 ⊢; clear xN; clear qB0_0 qB0_1 qB0_2; replace B0 := B0.below hbw1
    go_wp2
    go_ret
    exact ⟨rfl, thn hb0 hbw1⟩
set_option maxHeartbeats 1000000 in
theorem specAuditValid_any (k s : Int) (A : Option Addr) (n c : Nat) (xs : List Int) (w : World) (hs : Sl w 1 eI A n c xs) :
    Calls Try.prog 34 #[.agg #[.int .i64 k, .slice A n c, .int .i64 s]] w fun e w' => .returned (.bool (audOk k xs s)) = e ∧ Below w.heap.size w w' := by
  have hle := hs.le
  have hmax := hs.max
  have hl := hs.len
  subst hl
  unfold audOk
  have h1 := fun W => l1In_any k 0 1048572 W
  have h2 := fun h W hW hn => l12Sum_any k h A xs.length c xs hn W hW
  have hkey := @inB_true k 0 1048572
  generalize inB k 0 1048572 = v at *
  skip
  have B0 := Blk.new w 58 #[.int .i64 k, .slice A xs.length c, .int .i64 s]
  have hb0 := alo (Below.refl w.heap.size w) (.cells #[.int .i64 k, .slice A xs.length c, .int .i64 s] 58)
  have hs0 := hs.below hb0
  by_cases hn : xs.length ≤ 60
  · have hnz : (xs.length : Int) ≤ 60 := by omega
    have hg : decide ((xs.length : Int) ≤ 60) = true := decide_eq_true hnz
    have hg2 : decide (xs.length ≤ 60) = true := decide_eq_true hn
    rw [hg2]
    cases v
    · clear h2 hkey hs hs0
      go_enter Try.func34, Try.ntmps34
      go_wp2_with fail
      have qB0_0 := fun x => (B0.near x).c0; have qB0_1 := fun x => (B0.near x).c1; have qB0_2 := fun x => (B0.near x).c2; refine wp_region_near (by kernel_rfl) (by kernel_rfl) ?_; (repeat (go_big_quiet_step (first | (go_at_call 46; with_reducible exact near_same (h1 _))))); refine wpQuiet_nil ?_; intro xN; have hbw1 := xN.b; generalize xN.W = w1 at hbw1 ⊢; clear xN; clear qB0_0 qB0_1 qB0_2; replace B0 := B0.below hbw1
      go_wp2
      go_ret
      exact ⟨rfl, thn hb0 hbw1⟩
    · have h2 := fun (x : Near (w.alloc (.cells #[.int .i64 k, .slice A xs.length c, .int .i64 s] 58))) => h2 (hkey.1 rfl) x.W (hs0.below x.b) (by omega)
      clear hkey hs hs0
      generalize mixAll k xs = q at *
      go_enter Try.func34, Try.ntmps34
      go_wp2_with fail
      have qB0_0 := fun x => (B0.near x).c0; have qB0_1 := fun x => (B0.near x).c1; have qB0_2 := fun x => (B0.near x).c2; refine wp_region_near (by kernel_rfl) (by kernel_rfl) ?_; (repeat (go_big_quiet_step (first | (go_at_call 46; with_reducible exact near_same (h1 _)) | (go_at_call 70; with_reducible exact near_call (h2 _))))); refine wpQuiet_nil ?_; intro xN; have hbw1 := xN.b; generalize xN.W = w1 at hbw1 ⊢; clear xN; clear qB0_0 qB0_1 qB0_2; replace B0 := B0.below hbw1
      go_wp2
      go_ret
      exact ⟨rfl, thn hb0 hbw1⟩
  · have hnz : ¬ (xs.length : Int) ≤ 60 := by omega
    have hg : decide ((xs.length : Int) ≤ 60) = false := decide_eq_false hnz
    have hg2 : decide (xs.length ≤ 60) = false := decide_eq_false hn
    rw [hg2]
    clear h1 h2 hkey hs hs0
    go_enter Try.func34, Try.ntmps34
    go_wp2_with fail
    have qB0_0 := fun x => (B0.near x).c0; have qB0_1 := fun x => (B0.near x).c1; have qB0_2 := fun x => (B0.near x).c2; refine wp_region_near (by kernel_rfl) (by kernel_rfl) ?_; (repeat (go_big_quiet_step (first | fail))); refine wpQuiet_nil ?_; intro xN; have hbw1 := xN.b; generalize xN.W = w1 at hbw1 ⊢; clear xN; clear qB0_0 qB0_1 qB0_2; replace B0 := B0.below hbw1
    go_wp2
    go_ret
    exact ⟨rfl, thn hb0 hbw1⟩
end Go.Proofs.Ytffhcifeccdfjaa
