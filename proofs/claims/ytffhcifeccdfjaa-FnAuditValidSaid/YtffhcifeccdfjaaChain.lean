/- ChainSums of impl and spec; a key and entries drawn. -/
import Derived.Test.YtffhcifeccdfjaaKey
import Derived.Test.YtffhcifeccdfjaaMix
import Derived.Test.YtffhcifeccdfjaaFill
import Derived.Test.YtffhcifeccdfjaaClip
import Derived.Test.YtffhcifeccdfjaaL1In
namespace Go.Proofs.Ytffhcifeccdfjaa
set_option linter.unusedVariables false
set_option linter.unusedSimpArgs false
open Go.RowKit

def chainL (k : Int) (xs : List Int) : List Int := (List.range xs.length).map fun j => mixAll k (xs.take (j + 1))
theorem chainL_len (k : Int) (xs : List Int) : (chainL k xs).length = xs.length := by simp [chainL]
theorem chainL_at {k : Int} {xs : List Int} {j : Nat} (h : j < xs.length) : (chainL k xs)[j]? = some (mixAll k (xs.take (j + 1))) := by
  unfold chainL
  rw [List.getElem?_map, List.getElem?_range h]
  rfl
theorem chainL_take {k : Int} {xs : List Int} {j : Nat} (h : j < xs.length) : (chainL k xs).take (j + 1) = (chainL k xs).take j ++ [mixAll k (xs.take (j + 1))] := by
  rw [List.take_add_one, chainL_at h]
  rfl
def chainS (k : Int) (xs : List Int) : List Int := if inB k 0 1048572 then chainL k xs else []
theorem mix_one {m y : Int} (h : 0 ≤ m ∧ m ≤ 1048572) : mix m [y] = mixStep m y := by
  unfold mix
  rw [inB_true.2 h]
  rfl
set_option maxRecDepth 100000 in
set_option maxHeartbeats 2000000 in
theorem specChainSums_any (k : Int) (A : Option Addr) (n c : Nat) (xs : List Int) (hn : n ≤ 1000) (w : World) (hs : Sl w 1 eI A n c xs) :
    Calls Try.prog 93 #[.int .i64 k, .slice A n c] w (Post SV.v fun s w' => SV.ok w' w.heap.size 1 eI s ∧ s.xs = chainS k xs ∧ Below w.heap.size w w') := by
  have hle := hs.le
  have hmax := hs.max
  have hl := hs.len
  have hb0 := alo (Below.refl w.heap.size w) (.cells #[] 3)
  have own0 : Own (w.alloc (.cells #[] 3)) w.heap.size 3 1 eI _ ([] : List Int) := Own.of_blk (Blk.new w 3 #[]) (Nat.le_refl _) encI (by simp [maxLen])
  have HCS := Lib.hid (show chainS k xs = (if inB k 0 1048572 then chainL k xs else []) from rfl)
  by_cases hkb : 0 ≤ k ∧ k ≤ 1048572
  · have HB := Lib.hid (fun ys => mixAll_bd k ys hkb)
    have HT := Lib.hid (fun j h => @chainL_take k xs j h)
    have HL := Lib.hid (show (chainL k xs).length = n by rw [chainL_len]; exact hl)
    have HKey := Lib.hid (inB_true.2 hkb)
    go_enter Try.func93, Try.ntmps93
    go_wp2
    go_loopg [0, 5, 6] n (fun gg s0 s5 s6 wr => ∃ (kk : Nat) (m : Int), kk ≤ n ∧ n - kk ≤ gg ∧ s0 = .int .i64 m ∧ s6 = .int .i64 kk ∧ 0 ≤ m ∧ m ≤ 1048572 ∧ Aside (Below w.heap.size w wr) ∧ Aside (Own wr w.heap.size 3 1 eI s5 ((chainL k xs).take kk)) ∧ Aside (m = mixAll k (xs.take kk)))
    case atStart => exact ⟨0, k, Nat.zero_le _, by omega, rfl, rfl, hkb.1, hkb.2, (show Aside _ from hb0), (show Aside _ from own0), (show Aside _ from rfl)⟩
    case round =>
      clear hb0 own0 hkb
      obtain ⟨kk, m, hkk, hg, rfl, rfl, hm0, hm1, BW, OW, ME⟩ := hrel
      have own1 := OW.out
      clear OW
      by_cases hlt : kk < n
      · have hltz : (kk : Int) < (n : Int) := by omega
        obtain ⟨b, o, rfl, y, hyk, hc⟩ := hs.nth hlt BW.out
        have hc0 := hc 0 _ rfl
        simp only [eI, Nat.add_zero, Nat.mul_one] at hc0
        have hst := mixAll_take k xs kk y hyk
        rw [← ME.out] at hst
        have htk := HT.out kk (by omega)
        rw [hst] at htk
        have HTK := Lib.hid htk
        have hq := specMix_any m _ 1 1 [y] _ (Sl.of_blk (xs := [y]) (Blk.new wr 3 #[.int .i64 y]) encI (by simp))
        rw [mix_one ⟨hm0, hm1⟩] at hq
        have hB2 := alo BW.out (.cells #[.int .i64 y] 3)
        have own2 := own1.alloc (.cells #[.int .i64 y] 3)
        have hbd := HB.out (xs.take (kk + 1))
        rw [hst] at hbd
        have HS := Lib.hid hst
        have hkey := fun W => l1In_any m 0 1048572 W
        rw [inB_true.2 ⟨hm0, hm1⟩] at hkey
        have hlen : ((chainL k xs).take kk).length + 1 ≤ 100000000 := by rw [List.length_take]; omega
        clear hc hyk hst htk ME
        generalize mixStep m y = q at *
        obtain ⟨hq0, hq1⟩ := hbd
        go_wp2_with fail
        refine (hkey _).mono ?_
        rintro e w' ⟨rfl, rfl⟩
        go_wp2_with fail
        refine hq.mono ?_
        rintro e w3 ⟨rfl, hb3⟩
        have hB3 := thn hB2 hb3
        have own3 := own2.below hb3
        clear hq hb3 hB2 own2
        have src : Sl (w3.alloc (.cells #[.int .i64 q] 3)) 1 eI (some ⟨w3.heap.size, 0, none⟩) 1 1 [q] := Sl.of_blk (xs := [q]) (Blk.new w3 3 #[.int .i64 q]) encI (by simp)
        have own4 := own3.alloc (.cells #[.int .i64 q] 3)
        have hB4 := alo hB3 (.cells #[.int .i64 q] 3)
        go_wp2_with (at_builtin; refine app_own rfl _ _ appInt rfl encI w.heap.size _ _ rfl own4 _ 1 1 [q] rfl (fun e => by cases e) src hlen hB4.size ?_; intro v' w9 own5 hg5; have hB5 := belowApp hB4 own4 hg5 (Nat.le_refl _) hB4.size)
        go_roundg (n - (kk + 1))
        case measure => omega
        case rel => exact ⟨kk + 1, q, by omega, by omega, rfl, by go_num, hq0, hq1, (show Aside _ from hB5), (show Aside _ from by rw [HTK.out]; exact own5), (show Aside _ from HS.out.symm)⟩
      · have hltz : ¬ (kk : Int) < (n : Int) := by omega
        obtain rfl : n = kk := by omega
        have HQ := Lib.hid (show (chainL k xs).take n = chainS k xs by rw [HCS.out, HKey.out, if_pos rfl]; exact List.take_of_length_le (by rw [HL.out]; exact Nat.le_refl _))
        generalize (chainL k xs).take n = ll at own1 HQ
        obtain ⟨A9, c9, rfl, hA9, hsl9, hfr9⟩ := own1.sl encI
        go_wp2
        go_ret
        exact ⟨⟨A9, _, c9, ll⟩, rfl, ⟨hsl9, fun g o e => (hfr9 g o e).1, hA9.1, hA9.2⟩, HQ.out, BW.out⟩
  · have hkf := inB_false.2 (show k < 0 ∨ 1048572 < k by omega)
    have HQ := Lib.hid (show ([] : List Int) = chainS k xs by rw [HCS.out, hkf]; rfl)
    have hkey := fun W => l1In_any k 0 1048572 W
    rw [hkf] at hkey
    obtain ⟨A9, c9, hA, hA9, hsl9, hfr9⟩ := own0.sl encI
    injection hA with hA1 hA2 hA3
    subst hA1 hA3
    clear hkf hkb own0
    go_enter Try.func93, Try.ntmps93
    go_wp2
    go_loopg [0, 5, 6] 0 (fun gg s0 s5 s6 wr => ∃ kk : Nat, kk ≤ 0 ∧ s0 = .int .i64 k ∧ s5 = .slice (some ⟨w.heap.size, 0, none⟩) 0 0 ∧ s6 = .int .i64 kk ∧ Aside (w.alloc (.cells #[] 3) = wr))
    case atStart => exact ⟨0, Nat.le_refl _, rfl, rfl, rfl, (show Aside _ from rfl)⟩
    case round =>
      obtain ⟨kk, hkk, rfl, rfl, rfl, WE⟩ := hrel
      have hwe := WE.out
      clear WE
      subst hwe
      by_cases h0 : kk < n
      · have h0z : (kk : Int) < (n : Int) := by omega
        go_wp2_with fail
        refine (hkey _).mono ?_
        rintro e w' ⟨rfl, rfl⟩
        go_wp2
        go_ret
        exact ⟨⟨_, 0, _, []⟩, rfl, ⟨hsl9, fun g o e => (hfr9 g o e).1, hA9.1, hA9.2⟩, HQ.out, hb0⟩
      · have h0z : ¬ (kk : Int) < (n : Int) := by omega
        go_wp2
        go_ret
        exact ⟨⟨_, 0, _, []⟩, rfl, ⟨hsl9, fun g o e => (hfr9 g o e).1, hA9.1, hA9.2⟩, HQ.out, hb0⟩
end Go.Proofs.Ytffhcifeccdfjaa
