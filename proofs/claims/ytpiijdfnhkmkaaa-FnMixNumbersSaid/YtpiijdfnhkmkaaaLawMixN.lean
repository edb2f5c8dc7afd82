/- The walk of FnMixNumbers. -/
import Derived.Test.YtpiijdfnhkmkaaaKey
import Derived.Test.YtpiijdfnhkmkaaaMix
import Derived.Test.YtpiijdfnhkmkaaaAlive
import Derived.BigQuiet
import Derived.Deep.QuietTactic
namespace Go.Proofs.Ytpiijdfnhkmkaaa
open Go.RowKit

theorem nat_xor_one (a : Nat) : a ^^^ 1 = if a % 2 = 0 then a + 1 else a - 1 := by
  have h1 := Nat.xor_div_two (a := a) (b := 1)
  have h2 : (a ^^^ 1) % 2 = (a % 2 + 1) % 2 := by
    have := Nat.xor_mod_two_pow (a := a) (b := 1) (n := 1)
    have h3 : a % 2 = 0 ∨ a % 2 = 1 := by omega
    simp at this
    rw [this]
    rcases h3 with h3 | h3 <;> rw [h3] <;> rfl
  simp at h1
  split <;> omega
theorem xor_one (y : Int) (h : i64ok y) : bits .xor .i64 y 1 = if y % 2 = 0 then y + 1 else y - 1 := by
  obtain ⟨h0, h1⟩ := h
  show IntKind.i64.wrap ((BitVec.ofInt 64 y ^^^ BitVec.ofInt 64 1).toNat : Int) = _
  rw [BitVec.toNat_xor, IntKind.wrap_i64]
  have ha : ((BitVec.ofInt 64 y).toNat : Int) = y % 18446744073709551616 := by
    rw [BitVec.toNat_ofInt]; omega
  have hb : (BitVec.ofInt 64 1).toNat = 1 := by decide
  rw [hb, nat_xor_one]
  generalize (BitVec.ofInt 64 y).toNat = a at *
  split <;> split <;> omega
theorem xor_ne (y : Int) (h : i64ok y) : bits .xor .i64 y 1 % 1048573 ≠ y % 1048573 := by
  rw [xor_one y h]
  split <;> omega

theorem mixS_any (k : Int) (A : Option Addr) (n c : Nat) (xs : List Int) (w : World) (hs : Sl w 1 eI A n c xs) (m : Nat) :
    Calls Try.prog 35 #[.int .i64 k, .slice A n c] (w.drewN m) fun e w' => e = .returned (.int .i64 (mix k xs)) ∧ w' = w.drewN m :=
  (mixQ_any k A n c xs (w.drewN m) (hs.drewN m)).mono fun _ _ ⟨a, b⟩ => ⟨a.symm, b.symm⟩

set_option maxRecDepth 100000 in
set_option maxHeartbeats 1000000 in
theorem lawMixNumbers (A : Option Addr) (n c : Nat) (zs : List Int) (w : World) (h : Code w A n c zs) :
    Calls Try.prog 10 #[.slice A n c] w fun e w' => .returned (.bool true) = e ∧ Below w.heap.size w w' := by
  have hle := h.le
  have hmax := h.max
  by_cases hn : n ≤ 1048576
  · have hdraw := drawMixNumbers_any A n c zs w h
    clear h
    go_enter Try.func10, Try.ntmps10
    go_wp2_with fail
    refine hdraw.mono ?_
    rintro e w1 ⟨⟨k, A1, n1, c1, xs⟩, rfl, hk0, hk1, ⟨hsl, hfr, hnil, hspot⟩, hn20, hok, hb⟩
    clear hdraw
    simp only [kvV, SV.v] at hk0 hk1 hsl hfr hnil hspot hn20 hok ⊢
    obtain rfl : xs.length = n1 := hsl.len
    have hle1 := hsl.le
    have hmax1 := hsl.max
    have hI := fun W h => mix_any k A1 xs.length c1 xs W h
    have hS := fun W h => specMix_any k A1 xs.length c1 xs W h
    have hv := @inB_true k 0 1048572
    have hmix : ∀ ys, inB k 0 1048572 = true → mix k ys = mixAll k ys := fun ys h => by unfold mix; rw [h]; rfl
    have hmix0 : inB k 0 1048572 = false → mix k xs = -1 := fun h => by unfold mix; rw [h]; rfl
    generalize inB k 0 1048572 = v at *
    skip
    cases v
    · rw [hmix0 rfl] at hI hS
      clear hmix hmix0 hv
      go_wp2_with fail; refine (hI _ hsl).mono ?_; rintro e w2 ⟨rfl, hbw2⟩
      have hsl2 := hsl.below hbw2
      go_wp2_with fail; refine (hS _ hsl2).mono ?_; rintro e w3 ⟨rfl, hbw3⟩
      go_wp2_with fail; refine (alive_any _).mono ?_; rintro e w4 ⟨rfl, hbw4⟩
      go_wp2
      go_ret
      exact ⟨rfl, (by repeat (first | exact Below.refl _ _ | assumption | apply alo | (apply Below.setCell; rotate_left; (first | assumption | exact Nat.le_refl _ | (simp only []; omega))) | apply Below.drew | apply belowDrewN | (refine thn ?_ (by assumption))))⟩
    · have hkk := hv.1 rfl
      have hmx := fun ys => hmix ys rfl
      clear hmix hmix0 hv
      rw [hmx] at hI hS
      have hp := mixAll_bd k xs hkk
      have hpp := Lib.hid (rfl : mixAll k xs = mixAll k xs)
      have hmx' := Lib.hid hmx
      clear hmx
      generalize hpe : mixAll k xs = p at hI hS hp
      replace hpe := Lib.hid hpe
      clear hpp
      obtain ⟨hp0, hp1⟩ := hp
      go_wp2_with fail; refine (hI _ hsl).mono ?_; rintro e w2 ⟨rfl, hbw2⟩
      have hsl2 := hsl.below hbw2
      go_wp2_with fail; refine (hS _ hsl2).mono ?_; rintro e w3 ⟨rfl, hbw3⟩
      have hsl3 := hsl2.below hbw3
      have hB3 : Below w.heap.size w w3 := (by repeat (first | exact Below.refl _ _ | assumption | apply alo | (apply Below.setCell; rotate_left; (first | assumption | exact Nat.le_refl _ | (simp only []; omega))) | apply Below.drew | apply belowDrewN | (refine thn ?_ (by assumption))))
      clear hI hS hsl hsl2 hb hbw2 hbw3 hfr
      go_wp2
      go_loopg [6] xs.length (fun gg s6 wr => ∃ kk : Nat, kk ≤ xs.length ∧ xs.length - kk ≤ gg ∧ s6 = .int .i64 kk ∧ Aside (Below w3.heap.size w3 wr))
      case atStart => exact ⟨0, Nat.zero_le _, by omega, rfl, Below.refl _ _⟩
      case round =>
        obtain ⟨kk, hkk', hg, rfl, BW⟩ := hrel
        have hsl4 := hsl3.below BW.out
        clear hsl3
        by_cases hlt : kk < xs.length
        · have hltz : (kk : Int) < (xs.length : Int) := by omega
          obtain ⟨b, o, rfl, _, _⟩ := hsl4.cells (by omega)
          have HX := Lib.hid (List.getElem?_eq_getElem hlt)
          have hyok := hok _ (List.getElem_mem hlt)
          generalize xs[kk] = y at HX hyok
          have hxn := xor_ne y hyok
          have hq : mixAll k (xs.set kk (bits .xor .i64 y 1)) ≠ p := by
            rw [← hpe.out]; intro e; exact hxn (mixAll_set k hkk xs kk y _ HX.out e)
          have hlen : xs.length ≤ 100000000 := by omega
          clear hxn hyok hnil hspot hok
          have own0 : Own (wr.alloc (.cells #[] 3)) wr.heap.size 3 1 eI _ ([] : List Int) := Own.of_blk (Blk.new wr 3 #[]) (Nat.le_refl _) encI (by simp [maxLen])
          have hB5 := (Below.refl wr.heap.size wr).alloc (Nat.le_refl _) (.cells #[] 3)
          have src := hsl4.below hB5
          go_wp2_with (at_builtin; refine app_own rfl _ _ appInt rfl encI wr.heap.size _ [] rfl own0 _ _ _ xs rfl (fun e => by cases e) src (by simpa using hlen) hB5.size ?_; intro v5 w5 own5 hg5; have hB6 := belowApp hB5 own0 hg5 (Nat.le_refl _) hB5.size; simp only [List.nil_append] at own5; obtain ⟨g, c5, rfl, hgb, hgl, hc5, hc6⟩ := own5.form (by omega); have cy := own5.cellI HX.out; have fy := own5.frozenAt kk; clear own0 hg5 src hB5)
          have hJ := mix_any k _ _ c5 _ _ ((own5.stored kk (bits .xor .i64 y 1)).1.slI encI)
          rw [hmx'.out] at hJ
          generalize mixAll k (xs.set kk (bits .xor .i64 y 1)) = q at hJ hq
          have hqb : (q == p) = false := by simpa using hq
          clear hq
          have hB7 := hB6.setCell (p := ⟨g, kk, none⟩) hgb (.int .i64 (bits .xor .i64 y 1))
          go_wp2_with fail; refine (hJ).mono ?_; rintro e w8 ⟨rfl, hbw8⟩
          have hB8 := thn BW.out (thn hB7 hbw8)
          clear hJ hB7 hB6 own5
          go_wp2
          go_roundg (xs.length - (kk + 1))
          case measure => omega
          case rel => exact ⟨kk + 1, by omega, by omega, by go_num, hB8⟩
        · have hltz : ¬ (kk : Int) < (xs.length : Int) := by omega
          obtain rfl : kk = xs.length := by omega
          have hB4 := thn hB3 BW.out
          clear BW hB3 hok
          have hO := mix_any ((k + 1) % 1048573) A1 xs.length c1 xs _ hsl4
          have hko : mix ((k + 1) % 1048573) xs = mixAll ((k + 1) % 1048573) xs := by unfold mix; rw [inB_true.2 (by omega)]; rfl
          have hon : mixAll ((k + 1) % 1048573) xs ≠ p := by
            rw [← hpe.out]; intro e; have := mixAll_inj xs _ _ (by omega) hkk e; omega
          rw [hko] at hO
          clear hko
          generalize mixAll ((k + 1) % 1048573) xs = q at hO hon
          have hqb : (q != p) = true := by simpa using hon
          clear hon
          go_wp2_with fail; refine (hO).mono ?_; rintro e w8 ⟨rfl, hbw8⟩
          have hB8 := thn hB4 hbw8
          have hsl8 := hsl4.below hbw8
          clear hO hsl4 hbw8 hB4
          have hT := mixS_any k _ _ _ _ w8 (hsl8.take_ (xs.length / 2) (by omega))
          have hD := mixS_any (mixAll k (xs.take (xs.length / 2))) _ _ _ _ w8 (hsl8.from1 (xs.length / 2) (by omega))
          have hE := mixS_any k none 0 0 [] w8 ⟨rfl, Nat.le_refl _, by omega, fun h => absurd h (by omega)⟩
          have hm1 := mixAll_bd k (xs.take (xs.length / 2)) hkk
          have hmd : mix (mixAll k (xs.take (xs.length / 2))) (xs.drop (xs.length / 2)) = p := by
            unfold mix; rw [inB_true.2 hm1, if_pos rfl, ← mixAll_app, List.take_append_drop]; exact hpe.out
          rw [hmx'.out] at hT hE
          rw [hmd] at hD
          have he0 : mixAll k [] = k := rfl
          rw [he0] at hE
          clear hmd he0 hsl8
          generalize mixAll k (xs.take (xs.length / 2)) = m1 at hT hD hm1
          go_wp2
          have hkb : (k == k) = true := by simp
          have hpb : (p == p) = true := by simp
          obtain ⟨hm10, hm11⟩ := hm1
          go_quiet ((first | (go_at_call 35; with_reducible exact Calls.quiet_of_same (hT _)) | (go_at_call 35; with_reducible exact Calls.quiet_of_same (hD _)) | (go_at_call 35; with_reducible exact Calls.quiet_of_same (hE _))))
          all_goals go_wp2
          all_goals (go_ret; exact ⟨rfl, belowDrewN hB8 _⟩)
  · clear h
    go_enter Try.func10, Try.ntmps10
    go_wp2
    go_ret
    exact ⟨rfl, Below.refl _ _⟩
end Go.Proofs.Ytpiijdfnhkmkaaa
