/- Slots and a number of partitions drawn; the walk of FnSlotsValid. -/
import Derived.Test.YtmlodhogfejdjaaDSlot
import Derived.Test.YtmlodhogfejdjaaSlotV
import Derived.Test.YtmlodhogfejdjaaAlive
namespace Go.Proofs.Ytmlodhogfejdjaa
open Go.RowKit

def svk {α : Type} (x : SV α × Int) : Value := .tuple #[x.1.v, .int .i64 x.2]
set_option maxHeartbeats 1000000 in
theorem l20Frame_any (r : Nat) (k b : Int) (w : World) (h : Rd w r 97 b) (hb : b ≤ 999990000) (hk : -1000 ≤ k) :
    Calls Try.prog 45 #[.pointer (some ⟨r, 0, none⟩), .int .i64 k] w (Post svk fun x w' => SV.ok w' w.heap.size 2 eS x.1 ∧ x.1.n ≤ 13 ∧ (∀ y ∈ x.1.xs, SlotB y) ∧ (-1 ≤ x.2 ∧ x.2 ≤ 6) ∧ Stp r 97 w (b + 120) w') := by
  have hS := Stp.refl h
  have hr0 := h.lt
  clear h
  skip
  go_enter Try.func45, Try.ntmps45
  go_wp2_with fail; refine (pick_any _ (4) _ _ (by repeat (first | exact hS.rd | apply Rd.drew | apply Rd.alloc | (apply Rd.setCell; rotate_left; assumption))) (by omega) (by omega)).mono ?_; rintro e w0 ⟨v0, rfl, hv00, hv01, hs⟩; replace hS := Stp.trans (by repeat (first | exact hS | apply Stp.drew | apply Stp.alloc | (apply Stp.set; assumption; assumption))) hs; clear hs
  have hz0 := hS.grown.size
  go_wp2_with fail; refine (l20Slots_any r (1 + v0) k _ _ (by repeat (first | exact hS.rd | apply Rd.drew | apply Rd.alloc | (apply Rd.setCell; rotate_left; assumption))) (by omega) (by omega)).mono ?_; rintro e w1 ⟨s, rfl, hs1, hs2, hs3, hs⟩; replace hS := Stp.trans (by repeat (first | exact hS | apply Stp.drew | apply Stp.alloc | (apply Stp.set; assumption; assumption))) hs; clear hs
  go_wp2_with fail
  refine (odd_any _ 20 _ _ hS.rd (by omega) (by omega)).mono ?_
  rintro e w2 ⟨q, rfl, hs⟩
  have hsl2 : Sl w2 2 eS s.A s.n s.c s.xs := hs1.sl.stp hs fun b o e => by have := hs1.fresh b o e; omega
  replace hS := Stp.trans (by repeat (first | exact hS | apply Stp.drew | apply Stp.alloc)) hs; clear hs
  cases q
  · go_wp2
    go_ret2
    exact ⟨(s, 1 + v0), rfl, ⟨hsl2, fun b o e => Nat.le_trans hz0 (hs1.fresh b o e), hs1.nil, hs1.spot⟩, hs2, hs3, (by simp only []; omega), hS.le (by omega)⟩
  · have B1 := Blk.new w2 3 #[.int .i64 (-1), .int .i64 6]; have lB1 := hS.rd.lt; have nB1 := Nat.ne_of_gt lB1; have sB1 := hS.grown.size
    go_wp2_with fail
    refine (pick_any _ 2 _ _ (hS.alloc _).rd (by omega) (by omega)).mono ?_
    rintro e w3 ⟨v3, rfl, hv30, hv31, hs⟩
    have hsl3 : Sl w3 2 eS s.A s.n s.c s.xs := (hsl2.below ((Below.refl _ _).alloc (Nat.le_refl _) (.cells #[.int .i64 (-1), .int .i64 6] 3))).stp hs fun b o e => by have := hs1.fresh b o e; omega
    replace B1 := Blk.stp hs B1 (by assumption)
    replace hS := Stp.trans (by repeat (first | exact hS | apply Stp.drew | apply Stp.alloc)) hs; clear hs
    have hs3' := sel_bd (lo := -1) (hi := 7) [-1, 6] (by simp) (by simp) v3 hv30 hv31
    have g1 := (B1.cell v3.toNat).trans (litq2 hv30 hv31 _ _)
    go_wp2
    go_ret2
    exact ⟨(s, sel [-1, 6] v3), rfl, ⟨hsl3, fun b o e => Nat.le_trans hz0 (hs1.fresh b o e), hs1.nil, hs1.spot⟩, hs2, hs3, (by simp only []; omega), hS.le (by omega)⟩

theorem drawSlotsValid_any (A : Option Addr) (n c : Nat) (zs : List Int) (w : World) (h : Code w A n c zs) :
    Calls Try.prog 15 #[.slice A n c] w (Post svk fun x w' => SV.ok w' w.heap.size 2 eS x.1 ∧ x.1.n ≤ 13 ∧ (∀ y ∈ x.1.xs, SlotB y) ∧ (-1 ≤ x.2 ∧ x.2 ≤ 6) ∧ Below w.heap.size w w') := by
  obtain ⟨r, hr, hrw⟩ : ∃ r, w.heap.size = r ∧ w.heap.size ≤ r := ⟨_, rfl, Nat.le_refl _⟩
  have hopen := open_at r A n c zs w h hr
  clear h hr
  go_enter Try.func15, Try.ntmps15
  go_wp2_with fail
  refine hopen.mono ?_
  rintro e w0 ⟨rfl, hrd, hb, hsz⟩
  replace hb := hb.mono hrw
  have hS := Stp.refl hrd
  have hr0 := hrd.lt
  clear hrd hopen
  go_wp2_with fail; refine (l20Frame_any r 2 _ _ (by repeat (first | exact hS.rd | apply Rd.drew | apply Rd.alloc | (apply Rd.setCell; rotate_left; assumption))) (by omega) (by omega)).mono ?_; rintro e w1 ⟨x, rfl, hs1, hs2, hs3, hs4, hs⟩; replace hS := Stp.trans (by repeat (first | exact hS | apply Stp.drew | apply Stp.alloc | (apply Stp.set; assumption; assumption))) hs; clear hs
  have hBel := hS.belowT (a := w) (B := w.heap.size) hb (by assumption) hb.size
  simp only [svk]
  go_wp2
  go_ret2
  exact ⟨x, rfl, ⟨hs1.sl, fun b o e => Nat.le_trans hb.size (hs1.fresh b o e), hs1.nil, hs1.spot⟩, hs2, hs3, hs4, hBel⟩

theorem slotsOk_bad (xs : List (Int × Int)) (p : Int) : slotsOk (xs ++ [(-1, 0)]) p = false := by simp [slotsOk, slotOk, inB]
theorem slotsOk_nil (p : Int) : slotsOk [] p = false := by simp [slotsOk, inB]
theorem slotsOk_1 (xs : List (Int × Int)) (p : Int) (h : slotsOk xs p = true) : 1 ≤ xs.length ∧ slotsOk (xs.take 1) p = true := by
  simp only [slotsOk, Bool.and_eq_true, inB_true, List.all_eq_true] at h ⊢
  obtain ⟨h1, h2, h3⟩ := h
  exact ⟨by omega, h1, by rw [List.length_take]; omega, fun x hx => h3 x (List.mem_of_mem_take hx)⟩

set_option maxHeartbeats 1000000 in
theorem lawSlotsValid (A : Option Addr) (n c : Nat) (zs : List Int) (w : World) (h : Code w A n c zs) :
    Calls Try.prog 3 #[.slice A n c] w fun e w' => .returned (.bool true) = e ∧ Below w.heap.size w w' := by
  have hle := h.le
  have hmax := h.max
  by_cases hn : n ≤ 1048576
  · have hdraw := drawSlotsValid_any A n c zs w h
    clear h
    go_enter Try.func3, Try.ntmps3
    go_wp2_with fail
    refine hdraw.mono ?_
    rintro e w1 ⟨⟨⟨A1, n1, c1, xs⟩, p⟩, rfl, ⟨hsl, _, hnil, _⟩, hn1, _, hp, hb⟩
    clear hdraw
    simp only [svk, SV.v] at hsl hnil hn1 hp ⊢
    obtain rfl : xs.length = n1 := hsl.len
    have hle1 := hsl.le
    have hmax1 := hsl.max
    have hI := fun W h => slotsValid_any A1 xs.length c1 xs p W h
    have hS := fun W h => specSlotsValid_any A1 xs.length c1 xs p W (by omega) h
    have hv := slotsOk_1 xs p
    have hN := fun W => slotsValid_any none 0 0 [] p W ⟨rfl, Nat.le_refl _, by omega, fun h => absurd h (by omega)⟩
    rw [slotsOk_nil] at hN
    obtain ⟨hp0, hp1⟩ := hp
    generalize slotsOk xs p = v at *
    skip
    cases v
    · clear hv
      go_wp2_with fail; refine (hI _ hsl).mono ?_; rintro e w2 ⟨rfl, hbw2⟩
      have hsl2 := hsl.below hbw2
      go_wp2_with fail; refine (hS _ hsl2).mono ?_; rintro e w3 ⟨rfl, hbw3⟩
      have hsl3 := hsl2.below hbw3
      have hB3 : Below w.heap.size w w3 := (by repeat (first | exact Below.refl _ _ | assumption | apply alo | (apply Below.setCell; rotate_left; (first | assumption | exact Nat.le_refl _ | (simp only []; omega))) | apply Below.drew | apply belowDrewN | (refine thn ?_ (by assumption))))
      clear hI hS hsl hsl2 hb hbw2 hbw3
      have own0 : Own (w3.alloc (.cells #[] 28)) w3.heap.size 28 2 eS _ ([] : List (Int × Int)) := Own.of_blk (Blk.new w3 28 #[]) (Nat.le_refl _) encS (by simp [maxLen])
      have hB4 := (Below.refl w3.heap.size w3).alloc (Nat.le_refl _) (.cells #[] 28)
      have hlen1 : xs.length + 1 ≤ 100000000 := by omega
      go_wp2_with (first
        | (at_builtin; refine app_own rfl _ _ appSlot rfl encS w3.heap.size _ [] rfl own0 _ _ _ xs rfl hnil (hsl3.below hB4) (by simp; omega) hB4.size ?_; intro v5 w5 own5 hg5; have hB5 := belowApp hB4 own0 hg5 (Nat.le_refl _) hB4.size; clear hg5 own0 hB4; simp only [List.nil_append] at own5; have own6 := own5.alloc (.cells #[.int .i64 (-1), .int .i64 0] 28); have src6 : Sl (w5.alloc (.cells #[.int .i64 (-1), .int .i64 0] 28)) 2 eS (some ⟨w5.heap.size, 0, none⟩) 1 1 [(-1, 0)] := Sl.of_blk (xs := [(-1, 0)]) (Blk.new w5 28 #[.int .i64 (-1), .int .i64 0]) encS (by simp); have hB6 := hB5.alloc hB5.size (.cells #[.int .i64 (-1), .int .i64 0] 28))
        | (at_builtin; refine app_own rfl _ _ appSlot rfl encS w3.heap.size _ xs rfl own6 _ _ _ [(-1, 0)] rfl (fun e => by cases e) src6 hlen1 hB6.size ?_; intro v7 w7 own7 hg7; have hB7 := belowApp hB6 own6 hg7 (Nat.le_refl _) hB6.size; clear hg7 own6 own5 src6 hB6 hlen1 hB5))
      obtain ⟨A7, c7, rfl, _, hsl7, _⟩ := own7.sl encS
      clear own7
      have hJ := slotsValid_any A7 _ c7 _ p _ hsl7
      rw [slotsOk_bad] at hJ
      go_wp2_with fail; refine (hJ).mono ?_; rintro e w8 ⟨rfl, hbw8⟩
      go_wp2_with fail; refine (hN _).mono ?_; rintro e w8b ⟨rfl, hbw8b⟩
      go_wp2_with fail; refine (alive_any _).mono ?_; rintro e w9 ⟨rfl, hbw9⟩
      go_wp2
      go_ret
      exact ⟨rfl, thn (thn (thn (thn hB3 hB7) hbw8) hbw8b) hbw9⟩
    · obtain ⟨hv1, hv2⟩ := hv rfl
      clear hv
      replace hv2 := Lib.hid hv2
      go_wp2_with fail; refine (hI _ hsl).mono ?_; rintro e w2 ⟨rfl, hbw2⟩
      have hsl2 := hsl.below hbw2
      go_wp2_with fail; refine (hS _ hsl2).mono ?_; rintro e w2b ⟨rfl, hbw2b⟩
      have hsl3 := hsl2.below hbw2b
      have hB3 : Below w.heap.size w w2b := (by repeat (first | exact Below.refl _ _ | assumption | apply alo | (apply Below.setCell; rotate_left; (first | assumption | exact Nat.le_refl _ | (simp only []; omega))) | apply Below.drew | apply belowDrewN | (refine thn ?_ (by assumption))))
      clear hI hS hsl hsl2 hb hbw2 hbw2b
      have hT := slotsValid_any A1 1 c1 _ p _ (hsl3.take_ 1 hv1)
      rw [hv2.out] at hT
      clear hv2
      go_wp2_with fail; refine (hT).mono ?_; rintro e w3 ⟨rfl, hbw3⟩
      have hsl4 := hsl3.below hbw3
      replace hB3 := thn hB3 hbw3
      clear hsl3 hT
      have own0 : Own (w3.alloc (.cells #[] 28)) w3.heap.size 28 2 eS _ ([] : List (Int × Int)) := Own.of_blk (Blk.new w3 28 #[]) (Nat.le_refl _) encS (by simp [maxLen])
      have hB4 := (Below.refl w3.heap.size w3).alloc (Nat.le_refl _) (.cells #[] 28)
      have hlen1 : xs.length + 1 ≤ 100000000 := by omega
      go_wp2_with (first
        | (at_builtin; refine app_own rfl _ _ appSlot rfl encS w3.heap.size _ [] rfl own0 _ _ _ xs rfl hnil (hsl4.below hB4) (by simp; omega) hB4.size ?_; intro v5 w5 own5 hg5; have hB5 := belowApp hB4 own0 hg5 (Nat.le_refl _) hB4.size; clear hg5 own0 hB4; simp only [List.nil_append] at own5; have own6 := own5.alloc (.cells #[.int .i64 (-1), .int .i64 0] 28); have src6 : Sl (w5.alloc (.cells #[.int .i64 (-1), .int .i64 0] 28)) 2 eS (some ⟨w5.heap.size, 0, none⟩) 1 1 [(-1, 0)] := Sl.of_blk (xs := [(-1, 0)]) (Blk.new w5 28 #[.int .i64 (-1), .int .i64 0]) encS (by simp); have hB6 := hB5.alloc hB5.size (.cells #[.int .i64 (-1), .int .i64 0] 28))
        | (at_builtin; refine app_own rfl _ _ appSlot rfl encS w3.heap.size _ xs rfl own6 _ _ _ [(-1, 0)] rfl (fun e => by cases e) src6 hlen1 hB6.size ?_; intro v7 w7 own7 hg7; have hB7 := belowApp hB6 own6 hg7 (Nat.le_refl _) hB6.size; clear hg7 own6 own5 src6 hB6 hlen1 hB5))
      obtain ⟨A7, c7, rfl, _, hsl7, _⟩ := own7.sl encS
      clear own7
      have hJ := slotsValid_any A7 _ c7 _ p _ hsl7
      rw [slotsOk_bad] at hJ
      go_wp2_with fail; refine (hJ).mono ?_; rintro e w8 ⟨rfl, hbw8⟩
      go_wp2_with fail; refine (hN _).mono ?_; rintro e w8b ⟨rfl, hbw8b⟩
      go_wp2_with fail; refine (alive_any _).mono ?_; rintro e w9 ⟨rfl, hbw9⟩
      go_wp2
      go_ret
      exact ⟨rfl, thn (thn (thn (thn hB3 hB7) hbw8) hbw8b) hbw9⟩
  · clear h
    go_enter Try.func3, Try.ntmps3
    go_wp2
    go_ret
    exact ⟨rfl, Below.refl _ _⟩
end Go.Proofs.Ytmlodhogfejdjaa
