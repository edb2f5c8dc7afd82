/- clone at packets and numbers. -/
import Derived.Test.YthellpcohdbbfaaClip
import Derived.Deep.RegionWith
namespace Go.Proofs.Ythellpcohdbbfaa
set_option linter.unusedVariables false
set_option linter.unusedSimpArgs false
open Go.RowKit

/-- A slice's address as a list's slice has it. -/
def Plain (A : Option Addr) (c : Nat) : Prop := (A = none → c = 0) ∧ ∀ ad, A = some ad → ad.spot = none
theorem Plain.from_ {A : Option Addr} {c : Nat} (h : Plain A c) (j k : Nat) : Plain (if c = j then A else Option.map (fun x => x.add (j * k)) A) (c - j) := by
  by_cases e : c = j
  · rw [if_pos e]
    exact ⟨fun _ => by omega, h.2⟩
  · rw [if_neg e]
    cases A with
    | none => exact ⟨fun _ => by have := h.1 rfl; omega, fun ad e => by cases e⟩
    | some x =>
      obtain ⟨b, o, sp⟩ := x
      obtain rfl : sp = none := h.2 _ rfl
      exact ⟨fun e => (by cases e), fun ad e => by
        simp only [Option.map_some, Addr.add_lit] at e
        injection e with e
        rw [← e]⟩
theorem SV.ok.plain {α : Type} {w : World} {base k : Nat} {enc : α → List Value} {s : SV α} (h : SV.ok w base k enc s) : Plain s.A s.c := ⟨h.nil, h.spot⟩
theorem Calls.sameB {P : Program} {f : FuncId} {args : Array Value} {w : World} {v : Value} (h : Calls P f args w fun e w' => .returned v = e ∧ w = w') : Calls P f args w fun e w' => .returned v = e ∧ Below w.heap.size w w' := h.mono fun _ _ ⟨a, b⟩ => ⟨a, b ▸ Below.refl _ _⟩

theorem clonePNil (w : World) : Calls Try.prog 85 #[.slice none 0 0] w fun e w' => .returned (.slice none 0 0) = e ∧ Below w.heap.size w w' := by
  have h0 : ∀ W : World, Calls Try.prog 92 #[.slice none 0 0] W fun e w' => .returned (.slice none 0 0) = e ∧ Below W.heap.size W w' := by
    intro W
    have heq : (binOp .eql 53 (.slice none 0 0) (.slice none 0 0)).run Try.prog W = .ok (.bool true) W := by kernel_rfl
    go_enter Try.func92, Try.ntmps92
    go_wp2
    go_ret
    exact ⟨rfl, Below.refl _ _⟩
  have hc := fun W => clipPkt_any none 0 0 (Nat.le_refl _) (by omega) (fun _ => rfl) W
  go_enter Try.func85, Try.ntmps85
  go_wp2_with fail
  refine (h0 _).mono ?_
  rintro e w1 ⟨rfl, hb⟩
  go_wp2_with fail
  refine (hc _).mono ?_
  rintro e w' ⟨rfl, rfl⟩
  go_wp2
  go_ret
  exact ⟨rfl, hb⟩
set_option maxRecDepth 100000 in
theorem cloneP_0 (b o n c : Nat) (xs : List (Int × Int)) (hn : n ≤ 1000) (w : World) (hs : Sl w 2 eS (some ⟨b, o, none⟩) n c xs) :
    Calls Try.prog 92 #[.slice (some ⟨b, o, none⟩) n c] w (Post SV.v fun s w' => SV.ok w' w.heap.size 2 eS s ∧ s.xs = xs ∧ Below w.heap.size w w') := by
  have hl := Lib.hid hs.len
  have own0 : Own (w.alloc (.cells #[] 59)) w.heap.size 59 2 eS _ ([] : List (Int × Int)) := Own.of_blk (Blk.new w 59 #[]) (Nat.le_refl _) encS (by simp [maxLen])
  have hB0 := alo (Below.refl w.heap.size w) (.cells #[] 59)
  have src := hs.below hB0
  have hlen : n ≤ 100000000 := by omega
  have heq : (binOp .eql 53 (.slice (some ⟨b, o, none⟩) n c) (.slice none 0 0)).run Try.prog w = .ok (.bool false) w := by kernel_rfl
  go_enter Try.func92, Try.ntmps92
  go_wp2_with (at_builtin; refine app_own rfl _ _ appPkt rfl encS w.heap.size _ [] rfl own0 _ _ _ xs rfl (fun e => by cases e) src (by simp; omega) hB0.size ?_; intro v5 w5 own5 hg5; have hB5 := belowApp hB0 own0 hg5 (Nat.le_refl _) hB0.size; clear hg5 own0 hB0 src; simp only [List.nil_append] at own5)
  obtain ⟨A9, c9, rfl, hA9, hsl9, hfr9⟩ := own5.sl encS
  go_ret
  exact ⟨⟨A9, _, c9, xs⟩, rfl, ⟨hsl9, fun g o e => (hfr9 g o e).1, hA9.1, hA9.2⟩, rfl, hB5⟩
theorem cloneP_any (A : Option Addr) (n c : Nat) (xs : List (Int × Int)) (hn : n ≤ 1000) (hA : Plain A c) (w : World) (hs : Sl w 2 eS A n c xs) :
    Calls Try.prog 85 #[.slice A n c] w (Post SV.v fun s w' => SV.ok w' w.heap.size 2 eS s ∧ s.xs = xs ∧ Below w.heap.size w w') := by
  cases A with
  | none =>
    obtain rfl : c = 0 := hA.1 rfl
    have hl := hs.le
    obtain rfl : n = 0 := by omega
    obtain rfl : xs = [] := List.eq_nil_of_length_eq_zero hs.len
    exact (clonePNil w).mono fun e w' ⟨e1, e2⟩ => ⟨⟨none, 0, 0, []⟩, e1.symm, okNil _ _ _ _, rfl, e2⟩
  | some ad =>
    obtain ⟨b, o, sp⟩ := ad
    obtain rfl : sp = none := hA.2 _ rfl
    have h1 := cloneP_0 b o n c xs hn w hs
    go_enter Try.func85, Try.ntmps85
    go_wp2_with fail
    refine h1.mono ?_
    rintro e w1 ⟨⟨A9, n9, c9, l9⟩, rfl, ⟨hsl9, hfr9, hnil9, hspot9⟩, hl9, hb9⟩
    simp only [SV.v] at hsl9 hl9 hfr9 hnil9 hspot9 ⊢
    have hle9 := hsl9.le
    have hmax9 := hsl9.max
    have hc := clipPkt_any A9 n9 c9 hle9 hmax9 hnil9
    clear h1
    go_wp2_with fail
    refine (hc _).mono ?_
    rintro e w' ⟨rfl, rfl⟩
    go_wp2
    go_ret
    exact ⟨⟨A9, n9, n9, l9⟩, rfl, ⟨⟨hsl9.len, Nat.le_refl _, Nat.le_trans hle9 hmax9, hsl9.cells⟩, hfr9, fun e => (by have := hnil9 e; simp only [] at *; omega), hspot9⟩, hl9, hb9⟩
end Go.Proofs.Ythellpcohdbbfaa