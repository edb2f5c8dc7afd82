/- The walk of FnPartsValid. -/
import Derived.Test.YtmlodhogfejdjaaDPart
import Derived.Test.YtmlodhogfejdjaaPartV
import Derived.Test.YtmlodhogfejdjaaClip
import Derived.Test.YtmlodhogfejdjaaAlive
namespace Go.Proofs.Ytmlodhogfejdjaa
set_option linter.unusedVariables false
set_option linter.unusedSimpArgs false
open Go.RowKit

theorem partsOk_bad (xs : List PartV) : partsOk (xs ++ [(⟨none, 0, 0, []⟩, 0)]) = false := by
  simp [partsOk, partOk, inB]
theorem partsOk_take (xs : List PartV) (j : Nat) (h : partsOk xs = true) : partsOk (xs.take j) = true := by
  unfold partsOk at h ⊢
  simp only [Bool.and_eq_true, decide_eq_true_eq, List.all_eq_true] at h ⊢
  exact ⟨by rw [List.length_take]; omega, fun x hx => h.2 x (List.mem_of_mem_take hx)⟩
theorem PtOk.take {w : World} {xs : List PartV} (h : PtOk w xs) (j : Nat) : PtOk w (xs.take j) := fun x hx => h x (List.mem_of_mem_take hx)
theorem PtOk.bad {w : World} {xs : List PartV} (h : PtOk w xs) : PtOk w (xs ++ [(⟨none, 0, 0, []⟩, 0)]) := fun x hx => (List.mem_append.1 hx).elim (h x) (fun h9 => by rw [List.mem_singleton.1 h9]; exact slN w 3 Win.cells)
theorem drawPartsValid_any (A : Option Addr) (n c : Nat) (zs : List Int) (w : World) (h : Code w A n c zs) :
    Calls Try.prog 32 #[.slice A n c] w (Post SV.v fun s w' => Own w' w.heap.size 56 2 eP s.v s.xs ∧ PtOwn w' w.heap.size s.xs ∧ (1 ≤ s.n ∧ s.n ≤ 10) ∧ Below w.heap.size w w') := by
  obtain ⟨r, hr, hrw⟩ : ∃ r, w.heap.size = r ∧ w.heap.size ≤ r := ⟨_, rfl, Nat.le_refl _⟩
  have hopen := open_at r A n c zs w h hr
  clear h hr
  go_enter Try.func32, Try.ntmps32
  go_wp2_with fail
  refine hopen.mono ?_
  rintro e w0 ⟨rfl, hrd, hb, hsz⟩
  replace hb := hb.mono hrw
  have hS := Stp.refl hrd
  have hr0 := hrd.lt
  clear hrd hopen
  go_wp2_with fail
  refine (l20Parts_any r 2 _ _ hS.rd (by omega) (by omega)).mono ?_
  rintro e w1 ⟨s, rfl, hs1, hs2, hs3, hs⟩
  replace hS := Stp.trans (by repeat (first | exact hS | apply Stp.drew | apply Stp.alloc)) hs; clear hs
  have hBel := hS.belowT (a := w) (B := w.heap.size) hb (by assumption) hb.size
  go_wp2
  go_ret
  exact ⟨s, rfl, hs1.low hb.size, fun x hx => (hs2 x hx).low hb.size, hs3, hBel⟩
theorem drawPartsApart_any (A : Option Addr) (n c : Nat) (zs : List Int) (w : World) (h : Code w A n c zs) :
    Calls Try.prog 43 #[.slice A n c] w (Post SV.v fun s w' => Own w' w.heap.size 56 2 eP s.v s.xs ∧ PtOwn w' w.heap.size s.xs ∧ (1 ≤ s.n ∧ s.n ≤ 10) ∧ Below w.heap.size w w') := by
  obtain ⟨r, hr, hrw⟩ : ∃ r, w.heap.size = r ∧ w.heap.size ≤ r := ⟨_, rfl, Nat.le_refl _⟩
  have hopen := open_at r A n c zs w h hr
  clear h hr
  go_enter Try.func43, Try.ntmps43
  go_wp2_with fail
  refine hopen.mono ?_
  rintro e w0 ⟨rfl, hrd, hb, hsz⟩
  replace hb := hb.mono hrw
  have hS := Stp.refl hrd
  have hr0 := hrd.lt
  clear hrd hopen
  go_wp2_with fail
  refine (l20Parts_any r 9 _ _ hS.rd (by omega) (by omega)).mono ?_
  rintro e w1 ⟨s, rfl, hs1, hs2, hs3, hs⟩
  replace hS := Stp.trans (by repeat (first | exact hS | apply Stp.drew | apply Stp.alloc)) hs; clear hs
  have hBel := hS.belowT (a := w) (B := w.heap.size) hb (by assumption) hb.size
  go_wp2
  go_ret
  exact ⟨s, rfl, hs1.low hb.size, fun x hx => (hs2 x hx).low hb.size, hs3, hBel⟩
theorem lawPartsValid (A : Option Addr) (n c : Nat) (zs : List Int) (w : World) (h : Code w A n c zs) :
    Calls Try.prog 9 #[.slice A n c] w fun e w' => .returned (.bool true) = e ∧ Below w.heap.size w w' := by
  have hle := h.le
  have hmax := h.max
  by_cases hn : n ≤ 1048576
  · have hdraw := drawPartsValid_any A n c zs w h
    clear h
    go_enter Try.func9, Try.ntmps9
    go_wp2_with fail
    refine hdraw.mono ?_
    rintro e w1 ⟨⟨A1, n1, c1, xs⟩, rfl, hown, hpto, hn1, hb⟩
    clear hdraw
    simp only [SV.v] at hown hn1 ⊢
    obtain ⟨hsl, -, hnil, -⟩ := Own.okv encP hown
    have hpt := hpto.ok
    clear hown hpto
    simp only [] at hsl hnil
    obtain rfl : xs.length = n1 := hsl.len
    have hle1 := hsl.le
    have hmax1 := hsl.max
    have hI := fun W h h9 => partsValid_any A1 xs.length c1 xs W h h9
    have hS := fun W h h9 => specPartsValid_any A1 xs.length c1 xs W h h9
    have hv : partsOk xs = true → ∀ j, partsOk (xs.take j) = true := fun h j => partsOk_take xs j h
    generalize partsOk xs = v at *
    skip
    cases v
    · clear hv
      go_wp2_with fail; refine (hI _ hsl hpt).mono ?_; rintro e w2 ⟨rfl, hbw2⟩
      have hpt2 := hpt.below hbw2
      have hsl2 := hsl.below hbw2
      go_wp2_with fail; refine (hS _ hsl2 hpt2).mono ?_; rintro e w3 ⟨rfl, hbw3⟩
      have hpt3 := hpt2.below hbw3
      have hsl3 := hsl2.below hbw3
      have hB3 : Below w.heap.size w w3 := (by repeat (first | exact Below.refl _ _ | assumption | apply alo | (apply Below.setCell; rotate_left; (first | assumption | exact Nat.le_refl _ | (simp only []; omega))) | apply Below.drew | apply belowDrewN | (refine thn ?_ (by assumption))))
      clear hI hS hsl hsl2 hb hbw2 hbw3
      have own0 : Own (w3.alloc (.cells #[] 56)) w3.heap.size 56 2 eP _ ([] : List PartV) := Own.of_blk (Blk.new w3 56 #[]) (Nat.le_refl _) encP (by simp [maxLen])
      have hB4 := (Below.refl w3.heap.size w3).alloc (Nat.le_refl _) (.cells #[] 56)
      have hlen1 : xs.length + 1 ≤ 100000000 := by omega
      go_wp2_with (first
        | (at_builtin; refine app_own rfl _ _ appPart rfl encP w3.heap.size _ [] rfl own0 _ _ _ xs rfl hnil (hsl3.below hB4) (by simp; omega) hB4.size ?_; intro v5 w5 own5 hg5; have hB5 := belowApp hB4 own0 hg5 (Nat.le_refl _) hB4.size; clear hg5 own0 hB4; simp only [List.nil_append] at own5; have own6 := own5.alloc (.cells #[.slice none 0 0, .int .i64 0] 56); have src6 : Sl (w5.alloc (.cells #[.slice none 0 0, .int .i64 0] 56)) 2 eP (some ⟨w5.heap.size, 0, none⟩) 1 1 [((⟨none, 0, 0, []⟩, 0) : PartV)] := Sl.of_blk (xs := [((⟨none, 0, 0, []⟩, 0) : PartV)]) (Blk.new w5 56 #[.slice none 0 0, .int .i64 0]) encP (by simp); have hB6 := hB5.alloc hB5.size (.cells #[.slice none 0 0, .int .i64 0] 56))
        | (at_builtin; refine app_own rfl _ _ appPart rfl encP w3.heap.size _ xs rfl own6 _ _ _ [((⟨none, 0, 0, []⟩, 0) : PartV)] rfl (fun e => by cases e) src6 hlen1 hB6.size ?_; intro v7 w7 own7 hg7; have hB7 := belowApp hB6 own6 hg7 (Nat.le_refl _) hB6.size; clear hg7 own6 own5 src6 hB6 hlen1 hB5))
      obtain ⟨A7, c7, rfl, _, hsl7, _⟩ := own7.sl encP
      clear own7
      have hJ := partsValid_any A7 _ c7 _ _ hsl7 (hpt3.below hB7).bad
      rw [partsOk_bad] at hJ
      go_wp2_with fail; refine (hJ).mono ?_; rintro e w8 ⟨rfl, hbw8⟩
      go_wp2_with fail; refine (alive_any _).mono ?_; rintro e w9 ⟨rfl, hbw9⟩
      go_wp2
      go_ret
      exact ⟨rfl, thn (thn (thn hB3 hB7) hbw8) hbw9⟩
    · replace hv := Lib.hid (hv rfl)
      go_wp2_with fail; refine (hI _ hsl hpt).mono ?_; rintro e w2 ⟨rfl, hbw2⟩
      have hpt2 := hpt.below hbw2
      have hsl2 := hsl.below hbw2
      go_wp2_with fail; refine (hS _ hsl2 hpt2).mono ?_; rintro e w2b ⟨rfl, hbw2b⟩
      have hpt3 := hpt2.below hbw2b
      have hsl3 := hsl2.below hbw2b
      have hB3 : Below w.heap.size w w2b := (by repeat (first | exact Below.refl _ _ | assumption | apply alo | (apply Below.setCell; rotate_left; (first | assumption | exact Nat.le_refl _ | (simp only []; omega))) | apply Below.drew | apply belowDrewN | (refine thn ?_ (by assumption))))
      clear hI hS hsl hsl2 hb hbw2 hbw2b
      have hT := partsValid_any A1 (xs.length / 2) c1 _ _ (hsl3.take_ (xs.length / 2) (by omega)) (hpt3.take _)
      rw [hv.out] at hT
      clear hv
      go_wp2_with fail; refine (hT).mono ?_; rintro e w3 ⟨rfl, hbw3⟩
      have hsl4 := hsl3.below hbw3
      have hpt4 := hpt3.below hbw3
      replace hB3 := thn hB3 hbw3
      clear hsl3 hT
      have own0 : Own (w3.alloc (.cells #[] 56)) w3.heap.size 56 2 eP _ ([] : List PartV) := Own.of_blk (Blk.new w3 56 #[]) (Nat.le_refl _) encP (by simp [maxLen])
      have hB4 := (Below.refl w3.heap.size w3).alloc (Nat.le_refl _) (.cells #[] 56)
      have hlen1 : xs.length + 1 ≤ 100000000 := by omega
      go_wp2_with (first
        | (at_builtin; refine app_own rfl _ _ appPart rfl encP w3.heap.size _ [] rfl own0 _ _ _ xs rfl hnil (hsl4.below hB4) (by simp; omega) hB4.size ?_; intro v5 w5 own5 hg5; have hB5 := belowApp hB4 own0 hg5 (Nat.le_refl _) hB4.size; clear hg5 own0 hB4; simp only [List.nil_append] at own5; have own6 := own5.alloc (.cells #[.slice none 0 0, .int .i64 0] 56); have src6 : Sl (w5.alloc (.cells #[.slice none 0 0, .int .i64 0] 56)) 2 eP (some ⟨w5.heap.size, 0, none⟩) 1 1 [((⟨none, 0, 0, []⟩, 0) : PartV)] := Sl.of_blk (xs := [((⟨none, 0, 0, []⟩, 0) : PartV)]) (Blk.new w5 56 #[.slice none 0 0, .int .i64 0]) encP (by simp); have hB6 := hB5.alloc hB5.size (.cells #[.slice none 0 0, .int .i64 0] 56))
        | (at_builtin; refine app_own rfl _ _ appPart rfl encP w3.heap.size _ xs rfl own6 _ _ _ [((⟨none, 0, 0, []⟩, 0) : PartV)] rfl (fun e => by cases e) src6 hlen1 hB6.size ?_; intro v7 w7 own7 hg7; have hB7 := belowApp hB6 own6 hg7 (Nat.le_refl _) hB6.size; clear hg7 own6 own5 src6 hB6 hlen1 hB5))
      obtain ⟨A7, c7, rfl, _, hsl7, _⟩ := own7.sl encP
      clear own7
      have hJ := partsValid_any A7 _ c7 _ _ hsl7 (hpt4.below hB7).bad
      rw [partsOk_bad] at hJ
      go_wp2_with fail; refine (hJ).mono ?_; rintro e w8 ⟨rfl, hbw8⟩
      go_wp2_with fail; refine (alive_any _).mono ?_; rintro e w9 ⟨rfl, hbw9⟩
      go_wp2
      go_ret
      exact ⟨rfl, thn (thn (thn hB3 hB7) hbw8) hbw9⟩
  · clear h
    go_enter Try.func9, Try.ntmps9
    go_wp2
    go_ret
    exact ⟨rfl, Below.refl _ _⟩
end Go.Proofs.Ytmlodhogfejdjaa
