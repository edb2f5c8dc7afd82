/- Padded jobs: sum, starts, padded, PadStarts of impl; PadStarts of spec. -/
import Derived.Test.YthellpcohdbbfaaAppT
import Derived.Test.YthellpcohdbbfaaL1In
import Derived.Test.YthellpcohdbbfaaIdxInt
import Derived.Test.YthellpcohdbbfaaFill
import Derived.Test.YthellpcohdbbfaaList
namespace Go.Proofs.Ythellpcohdbbfaa
set_option linter.unusedVariables false
set_option linter.unusedSimpArgs false
open Go.RowKit Go.Shelf

theorem sum_take {xs : List Int} {k : Nat} {x : Int} (h : xs[k]? = some x) : (xs.take (k + 1)).sum = (xs.take k).sum + x := by
  rw [List.take_add_one, h]
  simp
theorem sum_bd {xs : List Int} (h : ∀ x ∈ xs, 0 ≤ x ∧ x ≤ 1000) : 0 ≤ xs.sum ∧ xs.sum ≤ 1000 * xs.length := by
  induction xs with
  | nil => simp
  | cons a l ih =>
    have h1 := ih fun x hx => h x (List.mem_cons_of_mem _ hx)
    have h2 := h a (List.mem_cons_self ..)
    simp only [List.sum_cons, List.length_cons]
    omega
theorem sum_take_bd {xs : List Int} (h : ∀ x ∈ xs, 0 ≤ x ∧ x ≤ 1000) (k : Nat) : 0 ≤ (xs.take k).sum ∧ (xs.take k).sum ≤ 1000 * k := by
  have h1 := sum_bd (xs := xs.take k) fun x hx => h x (List.mem_of_mem_take hx)
  rw [List.length_take] at h1
  omega

theorem sum_any (A : Option Addr) (n c : Nat) (xs : List Int) (hn : n ≤ 1000) (hx : ∀ x ∈ xs, 0 ≤ x ∧ x ≤ 1000) (w : World) (hs : Sl w 1 eI A n c xs) :
    Calls Try.prog 66 #[.slice A n c] w fun e w' => .returned (.int .i64 xs.sum) = e ∧ Below w.heap.size w w' := by
  have hle := hs.le
  have hmax := hs.max
  have HX := Lib.hid hx
  clear hx
  obtain ⟨v, hv⟩ : ∃ v, xs.sum = v := ⟨_, rfl⟩
  rw [hv]
  have HV := Lib.hid hv
  clear hv
  go_enter Try.func66, Try.ntmps66
  go_wp2
  go_loopg [3, 8] n (fun gg s3 s8 wr => ∃ (kk : Nat) (s : Int), kk ≤ n ∧ n - kk ≤ gg ∧ s3 = .int .i64 s ∧ s8 = .int .i64 kk ∧ 0 ≤ s ∧ s ≤ 1000 * (kk : Int) ∧ Aside (Below w.heap.size w wr) ∧ Aside (s = (xs.take kk).sum))
  case atStart => exact ⟨0, 0, Nat.zero_le _, by omega, rfl, rfl, by omega, by omega, (show Aside _ from Below.refl _ _), (show Aside _ from rfl)⟩
  case round =>
    obtain ⟨kk, s, hkk, hg, rfl, rfl, hs0, hs1, BW, SS⟩ := hrel
    by_cases hlt : kk < n
    · have hltz : (kk : Int) < (n : Int) := by omega
      obtain ⟨b, o, rfl, y, hyk, hc⟩ := hs.nth hlt BW.out
      have hc0 := hc 0 _ rfl
      have hy := HX.out y (List.mem_of_getElem? hyk)
      have HT := Lib.hid (sum_take hyk)
      clear hc hyk
      simp only [eI, Nat.add_zero, Nat.mul_one] at hc0
      obtain ⟨hy0, hy1⟩ := hy
      go_wp2
      go_roundg (n - (kk + 1))
      case measure => omega
      case rel => exact ⟨kk + 1, s + y, by omega, by omega, rfl, by go_num, by omega, by omega, (show Aside _ from BW.out), (show Aside _ from (show s + y = (xs.take (kk + 1)).sum by rw [HT.out, ← SS.out]))⟩
    · have hltz : ¬ (kk : Int) < (n : Int) := by omega
      obtain rfl : kk = n := by omega
      go_wp2
      go_ret
      exact ⟨by rw [← HV.out, SS.out, ← hs.len, List.take_length]; rfl, BW.out⟩

def startsL (xs : List Int) : List Int := (List.range xs.length).map fun k => (xs.take k).sum
theorem starts_at (xs : List Int) (k : Nat) (h : k < xs.length) : (startsL xs)[k]? = some (xs.take k).sum := by
  unfold startsL
  rw [List.getElem?_map, List.getElem?_range h]
  rfl
theorem starts_len (xs : List Int) : (startsL xs).length = xs.length := by simp [startsL]

set_option maxHeartbeats 1000000 in
theorem starts_any (A : Option Addr) (n c : Nat) (xs : List Int) (hn : n ≤ 1000) (hx : ∀ x ∈ xs, 0 ≤ x ∧ x ≤ 1000) (w : World) (hs : Sl w 1 eI A n c xs) :
    Calls Try.prog 63 #[.slice A n c] w (Post (whole n) fun g w' => Blk w' g 3 ((startsL xs).flatMap eI).toArray ∧ w.heap.size ≤ g ∧ Below w.heap.size w w') := by
  have hle := hs.le
  have hmax := hs.max
  have hl := hs.len
  have hS := fun W k hk hW => sum_any A k c (xs.take k) (by omega) (fun x h => hx x (List.mem_of_mem_take h)) W ((hs.below hW).take_ k hk)
  have HB := Lib.hid (fun k => sum_take_bd hx k)
  have HA := Lib.hid (starts_at xs)
  have HL := Lib.hid (starts_len xs)
  clear hx hs
  generalize startsL xs = ss at *
  go_enter Try.func63, Try.ntmps63
  go_wp2_with (at_make; refine make_own rfl _ _ zeroInt rfl encI w.heap.size _ _ n rfl rfl (by omega) (by omega) (by omega) (Nat.le_refl _) ?_; intro w1 own1 hg1; have hb1 := below_of_grown hg1; have U1 : Upto w1 w.heap.size 3 0 (ss.flatMap eI) := Upto.made (n := n) (c := n) encI own1 (by rw [List.length_replicate, HL.out]; exact hl); clear own1 hg1)
  go_loopg [10] n (fun gg s4 wr => ∃ kk : Nat, kk ≤ n ∧ n - kk ≤ gg ∧ s4 = .int .i64 kk ∧ Aside (Below w.heap.size w wr) ∧ Aside (Upto wr w.heap.size 3 kk (ss.flatMap eI)))
  case atStart => exact ⟨0, Nat.zero_le _, by omega, rfl, (show Aside _ from hb1), (show Aside _ from U1)⟩
  case round =>
    obtain ⟨kk, hkk, hg, rfl, BW, UU⟩ := hrel
    clear hb1 U1
    have U1 := UU.out
    clear UU
    by_cases hlt : kk < n
    · have hltz : (kk : Int) < (n : Int) := by omega
      have hq := hS wr kk hkk BW.out
      have f0 := Lib.hid (flat_at encI (HA.out kk (by omega)) 0 kk _ rfl (by omega))
      clear hS
      generalize (xs.take kk).sum = v at hq f0
      have hz := U1.lt
      go_wp2_with fail
      refine hq.mono ?_
      rintro e w2 ⟨rfl, hb2⟩
      replace U1 := U1.below hb2
      have hB2 := thn BW.out hb2
      have hfr := U1.frozen
      obtain ⟨v0, e0⟩ := U1.has f0.out
      clear hb2 hq
      go_wp2
      go_roundg (n - (kk + 1))
      case measure => omega
      case rel => exact ⟨kk + 1, by omega, by omega, by go_num, (show Aside _ from Below.setCell hB2 (p := ⟨w.heap.size, _, none⟩) (Nat.le_refl _) _), (show Aside _ from U1.set f0.out)⟩
    · have hltz : ¬ (kk : Int) < (n : Int) := by omega
      obtain rfl : kk = n := by omega
      go_wp2
      go_ret
      exact ⟨w.heap.size, rfl, U1.full (by rw [flatMap_len encI.len, HL.out, hl]; omega), Nat.le_refl _, BW.out⟩

def padOk (xs : List Int) : Bool := decide ((xs.length : Int) ≤ 12) && xs.all fun x => inB x 1 20
theorem padOk_bd {xs : List Int} (h : padOk xs = true) : xs.length ≤ 12 ∧ ∀ x ∈ xs, 1 ≤ x ∧ x ≤ 20 := by
  simp only [padOk, Bool.and_eq_true, decide_eq_true_eq, List.all_eq_true, inB_true] at h
  exact ⟨by omega, h.2⟩
theorem any_notP (p : Int → Bool) (xs : List Int) : (!xs.any fun x => !p x) = xs.all p := by
  induction xs with
  | nil => rfl
  | cons a l ih => simp [← ih]
theorem padBad_any (n : Int) (w : World) : Calls Try.prog 82 #[.int .i64 n] w fun e w' => .returned (.bool (!inB n 1 20)) = e ∧ Below w.heap.size w w' := by
  go_enter Try.func82, Try.ntmps82
  go_wp2_with fail; refine (in_any _ _ _ _).mono ?_; rintro e w' ⟨rfl, rfl⟩
  go_wp2
  go_ret
  exact ⟨rfl, Below.refl _ _⟩
theorem enters_pad (args : Array Value) (w : World) : (callFunc 82 args).run Try.prog w = .ok (.enter 82 args) w := enters_of Try.func82 (by kernel_rfl) rfl args w
theorem padded_any (A : Option Addr) (n c : Nat) (xs : List Int) (w : World) (hs : Sl w 1 eI A n c xs) :
    Calls Try.prog 62 #[.slice A n c] w fun e w' => .returned (.bool (padOk xs)) = e ∧ Below w.heap.size w w' := by
  have hl := hs.len
  have hle := hs.le
  have hmax := hs.max
  unfold padOk
  rw [hl, ← any_notP]
  have hc2 := containsInt (fun x => !inB x 1 20) _ #[] enters_pad A n c xs _ (fun _ => True) (fun _ _ => trivial) (fun W x _ _ => padBad_any x W) hs
  generalize (xs.any fun x => !inB x 1 20) = v2 at *
  clear hs hl
  by_cases h : (n : Int) ≤ 12
  · go_enter Try.func62, Try.ntmps62
    go_wp2_with fail
    refine hc2.mono ?_; rintro e w2 ⟨rfl, hb2⟩
    go_wp2
    go_ret
    exact ⟨by rw [decide_eq_true h]; cases v2 <;> rfl, hb2⟩
  · clear hc2
    have h' : decide ((n : Int) ≤ 12) = false := by simpa using h
    go_enter Try.func62, Try.ntmps62
    go_wp2
    go_ret
    exact ⟨by first | rfl | (rw [h']; rfl), Below.refl _ _⟩

theorem slE (w : World) : Sl w 1 eI none 0 0 ([] : List Int) := ⟨rfl, Nat.le_refl _, by omega, fun h => absurd h (by omega)⟩
def padStarts (xs : List Int) : List Int := if padOk xs then startsL xs else []
theorem padStarts_any (A : Option Addr) (n c : Nat) (xs : List Int) (w : World) (hs : Sl w 1 eI A n c xs) :
    Calls Try.prog 30 #[.slice A n c] w (Post SV.v fun s w' => SV.ok w' w.heap.size 1 eI s ∧ s.xs = padStarts xs ∧ Below w.heap.size w w') := by
  have hp := padded_any A n c xs w hs
  have hl := hs.len
  unfold padStarts
  cases hv : padOk xs
  · rw [hv] at hp
    clear hv hs
    go_enter Try.func30, Try.ntmps30
    go_wp2_with fail
    refine hp.mono ?_; rintro e w1 ⟨rfl, hb1⟩
    go_wp2
    go_ret
    exact ⟨⟨none, 0, 0, []⟩, rfl, ⟨slE _, fun b o e => (by cases e), fun _ => rfl, fun _ e => (by cases e)⟩, rfl, hb1⟩
  · rw [hv] at hp
    have hbd := padOk_bd hv
    have hq := fun W hW => starts_any A n c xs (by omega) (fun x hx => by have := hbd.2 x hx; omega) W (hs.below hW)
    have HH := Lib.hid hbd
    clear hbd hv hs
    go_enter Try.func30, Try.ntmps30
    go_wp2_with fail
    refine hp.mono ?_; rintro e w1 ⟨rfl, hb1⟩
    go_wp2_with fail
    refine (hq _ hb1).mono ?_
    rintro e w2 ⟨g, rfl, Bg, lg, hb2⟩
    have hg2 := Nat.le_trans hb1.size lg
    have hbb := thn hb1 hb2
    simp only [whole]
    go_wp2
    go_ret
    have hsl := Sl.of_blk Bg encI (by rw [starts_len]; have := HH.out.1; omega)
    rw [starts_len, hl] at hsl
    exact ⟨⟨some ⟨g, 0, none⟩, n, n, startsL xs⟩, rfl, ⟨hsl, fun b o e => (by injection e with e; injection e with e; omega), fun e => (by cases e), fun ad e => (by injection e with e; rw [← e])⟩, rfl, hbb⟩
end Go.Proofs.Ythellpcohdbbfaa
