/- The walk of FnHealthTable. -/
import Derived.Test.YtpiijdfnhkmkaaaAct
import Derived.Test.YtpiijdfnhkmkaaaTab
import Derived.Test.YtpiijdfnhkmkaaaAlive
namespace Go.Proofs.Ytpiijdfnhkmkaaa
open Go.RowKit

theorem tabOk_len {xs : List Int} (h : xs.length ≠ 3) : tabOk xs = false := by simp [tabOk, h]
theorem tabOk_3 {xs : List Int} (h : tabOk xs = true) : xs.length = 3 := by simp [tabOk] at h; exact h.1

theorem lawHealthTable (A : Option Addr) (n c : Nat) (zs : List Int) (w : World) (h : Code w A n c zs) :
    Calls Try.prog 9 #[.slice A n c] w fun e w' => .returned (.bool true) = e ∧ Below w.heap.size w w' := by
  have hle := h.le
  have hmax := h.max
  by_cases hn : n ≤ 1048576
  · have hdraw := drawHealthTable_any A n c zs w h
    clear h
    go_enter Try.func9, Try.ntmps9
    go_wp2_with fail
    refine hdraw.mono ?_
    rintro e w1 ⟨⟨A1, n1, c1, xs⟩, rfl, ⟨hsl, hfr, hnil, _⟩, hn1, hb⟩
    clear hdraw
    simp only [SV.v] at hsl hfr hnil hn1 ⊢
    have hI := fun W h => healthTable_any A1 n1 c1 xs W h
    have hS := fun W h => specHealthTable_any A1 n1 c1 xs W h
    have hv := @tabOk_3 xs
    generalize tabOk xs = v at *
    skip
    cases v
    · clear hv
      go_wp2_with fail; refine (hI _ hsl).mono ?_; rintro e w2 ⟨rfl, hbw2⟩
      have hsl2 := hsl.below hbw2
      go_wp2_with fail; refine (hS _ hsl2).mono ?_; rintro e w3 ⟨rfl, hbw3⟩
      go_wp2_with fail; refine (alive_any _).mono ?_; rintro e w4 ⟨rfl, hbw4⟩
      go_wp2
      go_ret
      exact ⟨rfl, (by repeat (first | exact Below.refl _ _ | assumption | apply alo | (apply Below.setCell; rotate_left; (first | assumption | exact Nat.le_refl _ | (simp only []; omega))) | apply Below.drew | apply Below.drewN | (refine thn ?_ (by assumption))))⟩
    · have hx := Lib.hid (hv rfl)
      clear hv
      obtain rfl : n1 = 3 := by have := hsl.len; have := hx.out; omega
      obtain ⟨g, o, rfl, _, _⟩ := hsl.cells (by omega)
      have hc1 := hsl.le
      have hc2 := hsl.max
      clear hnil hfr
      go_wp2_with fail; refine (hI _ hsl).mono ?_; rintro e w2 ⟨rfl, hbw2⟩
      have hsl2 := hsl.below hbw2
      go_wp2_with fail; refine (hS _ hsl2).mono ?_; rintro e w3 ⟨rfl, hbw3⟩
      have hsl3 := hsl2.below hbw3
      have hB3 : Below w.heap.size w w3 := (by repeat (first | exact Below.refl _ _ | assumption | apply alo | (apply Below.setCell; rotate_left; (first | assumption | exact Nat.le_refl _ | (simp only []; omega))) | apply Below.drew | apply Below.drewN | (refine thn ?_ (by assumption))))
      clear hI hS hsl hsl2 hb hbw2 hbw3
      have own0 : Own (w3.alloc (.cells #[] 3)) w3.heap.size 3 1 eI _ ([] : List Int) := Own.of_blk (Blk.new w3 3 #[]) (Nat.le_refl _) encI (by simp [maxLen])
      have hB4 := (Below.refl w3.heap.size w3).alloc (Nat.le_refl _) (.cells #[] 3)
      have hx1 : xs.length + 1 ≤ 100000000 := by have := hx.out; omega
      go_wp2_with (first
        | (at_builtin; refine app_own rfl _ _ appInt rfl encI w3.heap.size _ [] rfl own0 _ _ _ xs rfl (fun e => by cases e) (hsl3.below hB4) (by simp) hB4.size ?_; intro v5 w5 own5 hg5; have hB5 := belowApp hB4 own0 hg5 (Nat.le_refl _) hB4.size; clear hg5 own0 hB4; simp only [List.nil_append] at own5; have own6 := own5.alloc (.cells #[.int .i64 0] 3); have src6 : Sl (w5.alloc (.cells #[.int .i64 0] 3)) 1 eI (some ⟨w5.heap.size, 0, none⟩) 1 1 [0] := Sl.of_blk (xs := [0]) (Blk.new w5 3 #[.int .i64 0]) encI (by simp); have hB6 := hB5.alloc hB5.size (.cells #[.int .i64 0] 3))
        | (at_builtin; refine app_own rfl _ _ appInt rfl encI w3.heap.size _ xs rfl own6 _ _ _ [0] rfl (fun e => by cases e) src6 hx1 hB6.size ?_; intro v7 w7 own7 hg7; have hB7 := belowApp hB6 own6 hg7 (Nat.le_refl _) hB6.size; clear hg7 own6 own5 src6 hB6 hx1))
      obtain ⟨A7, c7, rfl, _, hsl7, _⟩ := own7.sl encI
      have hJ := healthTable_any A7 _ c7 _ _ hsl7
      rw [tabOk_len (xs := xs ++ [0]) (by have := hx.out; simp; omega)] at hJ
      go_wp2_with fail; refine (hJ).mono ?_; rintro e w8 ⟨rfl, hbw8⟩
      have hsl8 := (hsl3.below hB7).below hbw8
      have hK := fun A' c' h1 h2 h3 => healthTable_any A' _ c' _ _ (hsl8.drop_ 1 (by omega) (A' := A') (c' := c') h1 h2 h3)
      rw [tabOk_len (xs := xs.drop 1) (by have := hx.out; simp; omega)] at hK
      clear hsl3 hsl7 own7
      have hB8 : Below w.heap.size w w8 := thn (thn hB3 hB7) hbw8
      clear hB7 hB3 hB5 hbw8
      go_wp2_with fail
      refine (hK _ _ (by omega) (by omega) (fun b o e _ => by injection e with e; injection e with e1 e2; subst e1 e2; simp)).mono ?_
      rintro e w9 ⟨rfl, hbw9⟩
      clear hK
      go_wp2_with fail; refine (alive_any _).mono ?_; rintro e w10 ⟨rfl, hbw10⟩
      go_wp2
      go_ret
      exact ⟨rfl, (by repeat (first | exact Below.refl _ _ | assumption | apply alo | (apply Below.setCell; rotate_left; (first | assumption | exact Nat.le_refl _ | (simp only []; omega))) | apply Below.drew | apply Below.drewN | (refine thn ?_ (by assumption))))⟩
  · clear h
    go_enter Try.func9, Try.ntmps9
    go_wp2
    go_ret
    exact ⟨rfl, Below.refl _ _⟩
end Go.Proofs.Ytpiijdfnhkmkaaa
