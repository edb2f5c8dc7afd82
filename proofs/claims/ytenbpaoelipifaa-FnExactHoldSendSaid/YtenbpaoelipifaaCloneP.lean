/- clone at packets and numbers. -/
import Derived.Test.YtenbpaoelipifaaClip
import Derived.Test.YtenbpaoelipifaaWSl
import Derived.ArgAppend
import Derived.Deep.RegionWith
namespace Go.Proofs.Ytenbpaoelipifaa
set_option linter.unusedVariables false
set_option linter.unusedSimpArgs false
open Go.RowKit

/-- A slice's address as a list's slice has it. -/
def Plain (A : Option Addr) (c : Nat) : Prop := (A = none → c = 0) ∧ ∀ ad, A = some ad → ad.spot = none
theorem Plain.from_ {A : Option Addr} {c : Nat} (h : Plain A c) (j k : Nat) : Plain (if c = j then A else Option.map (fun x => x.add (j * k)) A) (c - j) := by
  by_cases e : c = j
  · rw [if_pos e]
    exact ⟨fun _ => by omega, h.2⟩
  · rw [if_neg e]
    cases A with
    | none => exact ⟨fun _ => by have := h.1 rfl; omega, fun ad e => by cases e⟩
    | some x =>
      obtain ⟨b, o, sp⟩ := x
      obtain rfl : sp = none := h.2 _ rfl
      exact ⟨fun e => (by cases e), fun ad e => by
        simp only [Option.map_some, Addr.add_lit] at e
        injection e with e
        rw [← e]⟩
theorem SV.ok.plain {α : Type} {w : World} {base k : Nat} {enc : α → List Value} {s : SV α} (h : SV.ok w base k enc s) : Plain s.A s.c := ⟨h.nil, h.spot⟩
theorem Calls.sameB {P : Program} {f : FuncId} {args : Array Value} {w : World} {v : Value} (h : Calls P f args w fun e w' => .returned v = e ∧ w = w') : Calls P f args w fun e w' => .returned v = e ∧ Below w.heap.size w w' := h.mono fun _ _ ⟨a, b⟩ => ⟨a, b ▸ Below.refl _ _⟩

theorem WS.clip {α : Type} {w : World} {base E k n c : Nat} {enc : α → List Value} {A : Option Addr} {xs : List α} (h : WS w base E k enc ⟨A, n, c, xs⟩) : WS w base E k enc ⟨A, n, n, xs⟩ := by
  obtain ⟨hok, hwr⟩ := h
  have hle := hok.sl.le
  have hmax := hok.sl.max
  simp only [] at hle hmax
  refine ⟨⟨⟨hok.sl.len, Nat.le_refl _, Nat.le_trans hle hmax, hok.sl.cells⟩, hok.fresh, fun e => ?_, hok.spot⟩, hwr⟩
  have := hok.nil e
  simp only [] at this ⊢
  omega
theorem Sl.flat {α : Type} {w : World} {k m c : Nat} {enc : α → List Value} {ad : Addr} {ys : List α} (hk : Enc enc k) (h0 : 0 < k) (h : Sl w k enc (some ad) m c ys) : ∀ (j : Nat) (u : Value), (ys.flatMap enc)[j]? = some u → w.cell? (ad.add j) = some u := by
  intro j u hu
  have hyl := h.len
  by_cases hm : 0 < m
  · obtain ⟨b, off, e, hb, hc⟩ := h.cells hm
    injection e with e
    subst e
    have hj : j < (ys.flatMap enc).length := (List.getElem?_eq_some_iff.1 hu).1
    rw [flatMap_len hk.len] at hj
    have hq : j / k < ys.length := (Nat.div_lt_iff_lt_mul h0).2 hj
    have hr := Nat.mod_lt j h0
    have hd : j / k * k + j % k = j := Nat.div_add_mod' j k
    have hy : ys[j / k]? = some ys[j / k] := List.getElem?_eq_getElem hq
    have he : (enc ys[j / k])[j % k]? = some ((enc ys[j / k])[j % k]'(by rw [hk.len]; exact hr)) := List.getElem?_eq_getElem _
    have h1 := flatMap_get hk.len ys _ _ _ _ hy he
    rw [hd, hu] at h1
    injection h1 with h1
    subst h1
    have h2 := hc _ _ hy _ _ he
    rw [show (⟨b, off, none⟩ : Addr).add j = ⟨b, off + j / k * k + j % k, none⟩ by rw [Addr.add_lit]; congr 1; omega]
    exact h2
  · obtain rfl : ys = [] := List.eq_nil_of_length_eq_zero (by omega)
    simp at hu
/-- append onto a slice without room behind it: a new list of the call's own, nothing that was there is written. -/
theorem app_full {P : Program} {w : World} {ops : Array Oper} {rest : List Oper} {o : Oper} {a : Act} {Q : Exit → Act → World → Prop} (hgd : o.guard = none) (s x : Operand) {T E k bytes : Nat} (hT : AppT P T E k bytes)
    (ho : o.op = .call { callee := .builtin .append, args := #[s, x], argTypes := #[T, T] }) {α : Type} {enc : α → List Value} (hk : Enc enc k)
    (A : Option Addr) (n c0 : Nat) (xs : List α) (hs : a.eval s = .slice A n c0) (hc0 : c0 = n) (hA : A = none → c0 = 0) (hsl : Sl w k enc A n c0 xs)
    (ad : Addr) (m c : Nat) (ys : List α) (hx : a.eval x = .slice (some ad) m c) (hsrc : Sl w k enc (some ad) m c ys) (hm : 0 < m)
    (hlen : n + m ≤ 100000000)
    (h : ∀ v' w', Own w' w.heap.size E k enc v' (xs ++ ys) → w.grownBy w' none → wpList P ops Q rest (a.put o.dst v') w') : wpList P ops Q (o :: rest) a w := by
  obtain ⟨i, z, hi, hz, hsz, hby, hzs⟩ := hT.info
  have hbytes : (n + m) * bytes ≤ 140737488355328 := Nat.le_trans (Nat.mul_le_mul hlen hT.small) (by decide)
  have hxl := hsl.len
  have hyl := hsrc.len
  refine wpList_append_grows w hgd s x T ho E i z k bytes hT.under hi hz hsz hby hzs hT.pos A n c0 (xs.flatMap enc) hs (fun e => ⟨by have := hA e; omega, hA e⟩) (by rw [flatMap_len hk.len, hxl]) (fun b e => by subst e; exact hsl.flat hk hT.pos) ad m c (ys.flatMap enc) hx (by rw [flatMap_len hk.len, hyl]) (hsrc.flat hk hT.pos) (fun u hu => ?_) (by omega) (by unfold maxLen; omega) hbytes fun v' w' r1 r2 => h v' w' ?_ r2
  · obtain ⟨y, _, hy⟩ := List.mem_flatMap.1 hu
    exact hk.one y u hy
  · unfold Own
    rw [List.flatMap_append, List.length_append, hxl, hyl]
    exact r1
theorem clonePNil (w : World) : Calls Try.prog 92 #[.slice none 0 0] w fun e w' => .returned (.slice none 0 0) = e ∧ Below w.heap.size w w' := by
  have h0 : ∀ W : World, Calls Try.prog 97 #[.slice none 0 0] W fun e w' => .returned (.slice none 0 0) = e ∧ Below W.heap.size W w' := by
    intro W
    have heq : (binOp .eql 27 (.slice none 0 0) (.slice none 0 0)).run Try.prog W = .ok (.bool true) W := by kernel_rfl
    go_enter Try.func97, Try.ntmps97
    go_wp2
    go_ret
    exact ⟨rfl, Below.refl _ _⟩
  have hc := fun W => clipPkt_any none 0 0 (Nat.le_refl _) (by omega) (fun _ => rfl) W
  go_enter Try.func92, Try.ntmps92
  go_wp2_with fail
  refine (h0 _).mono ?_
  rintro e w1 ⟨rfl, hb⟩
  go_wp2_with fail
  refine (hc _).mono ?_
  rintro e w' ⟨rfl, rfl⟩
  go_wp2
  go_ret
  exact ⟨rfl, hb⟩
set_option maxRecDepth 100000 in
theorem cloneP_0 (b o n c : Nat) (xs : List (Int × Int)) (hn : n ≤ 1000) (w : World) (hs : Sl w 2 eS (some ⟨b, o, none⟩) n c xs) :
    Calls Try.prog 97 #[.slice (some ⟨b, o, none⟩) n c] w (Post SV.v fun s w' => WS w' w.heap.size 75 2 eS s ∧ s.xs = xs ∧ Below w.heap.size w w') := by
  have hl := Lib.hid hs.len
  have own0 : Own (w.alloc (.cells #[] 75)) w.heap.size 75 2 eS _ ([] : List (Int × Int)) := Own.of_blk (Blk.new w 75 #[]) (Nat.le_refl _) encS (by simp [maxLen])
  have hB0 := alo (Below.refl w.heap.size w) (.cells #[] 75)
  have src := hs.below hB0
  have hlen : n ≤ 100000000 := by omega
  have heq : (binOp .eql 27 (.slice (some ⟨b, o, none⟩) n c) (.slice none 0 0)).run Try.prog w = .ok (.bool false) w := by kernel_rfl
  go_enter Try.func97, Try.ntmps97
  go_wp2_with (at_builtin; refine app_own rfl _ _ appPkt rfl encS w.heap.size _ [] rfl own0 _ _ _ xs rfl (fun e => by cases e) src (by simp; omega) hB0.size ?_; intro v5 w5 own5 hg5; have hB5 := belowApp hB0 own0 hg5 (Nat.le_refl _) hB0.size; clear hg5 own0 hB0 src; simp only [List.nil_append] at own5)
  obtain ⟨A9, c9, rfl, hA9, hsl9, hfr9⟩ := own5.sl encS
  go_ret
  exact ⟨⟨A9, _, c9, xs⟩, rfl, own5.ws encS ⟨hsl9.le, Nat.le_refl _⟩, rfl, hB5⟩
theorem cloneP_any (A : Option Addr) (n c : Nat) (xs : List (Int × Int)) (hn : n ≤ 1000) (hA : Plain A c) (w : World) (hs : Sl w 2 eS A n c xs) :
    Calls Try.prog 92 #[.slice A n c] w (Post SV.v fun s w' => WS w' w.heap.size 75 2 eS s ∧ (s.xs = xs ∧ s.c = s.n) ∧ Below w.heap.size w w') := by
  cases A with
  | none =>
    obtain rfl : c = 0 := hA.1 rfl
    have hl := hs.le
    obtain rfl : n = 0 := by omega
    obtain rfl : xs = [] := List.eq_nil_of_length_eq_zero hs.len
    exact (clonePNil w).mono fun e w' ⟨e1, e2⟩ => ⟨⟨none, 0, 0, []⟩, e1.symm, WS.nilS, ⟨rfl, rfl⟩, e2⟩
  | some ad =>
    obtain ⟨b, o, sp⟩ := ad
    obtain rfl : sp = none := hA.2 _ rfl
    have h1 := cloneP_0 b o n c xs hn w hs
    go_enter Try.func92, Try.ntmps92
    go_wp2_with fail
    refine h1.mono ?_
    rintro e w1 ⟨⟨A9, n9, c9, l9⟩, rfl, hws9, hl9, hb9⟩
    have hle9 := hws9.ok.sl.le
    have hmax9 := hws9.ok.sl.max
    have hnil9 := hws9.ok.nil
    simp only [SV.v] at hl9 hle9 hmax9 hnil9 ⊢
    have hc := clipPkt_any A9 n9 c9 hle9 hmax9 hnil9
    clear h1
    go_wp2_with fail
    refine (hc _).mono ?_
    rintro e w' ⟨rfl, rfl⟩
    go_wp2
    go_ret
    exact ⟨⟨A9, n9, n9, l9⟩, rfl, hws9.clip, ⟨hl9, rfl⟩, hb9⟩
theorem cloneINil (w : World) : Calls Try.prog 90 #[.slice none 0 0] w fun e w' => .returned (.slice none 0 0) = e ∧ Below w.heap.size w w' := by
  have h0 : ∀ W : World, Calls Try.prog 95 #[.slice none 0 0] W fun e w' => .returned (.slice none 0 0) = e ∧ Below W.heap.size W w' := by
    intro W
    have heq : (binOp .eql 48 (.slice none 0 0) (.slice none 0 0)).run Try.prog W = .ok (.bool true) W := by kernel_rfl
    go_enter Try.func95, Try.ntmps95
    go_wp2
    go_ret
    exact ⟨rfl, Below.refl _ _⟩
  have hc := fun W => clipInt_any none 0 0 (Nat.le_refl _) (by omega) (fun _ => rfl) W
  go_enter Try.func90, Try.ntmps90
  go_wp2_with fail
  refine (h0 _).mono ?_
  rintro e w1 ⟨rfl, hb⟩
  go_wp2_with fail
  refine (hc _).mono ?_
  rintro e w' ⟨rfl, rfl⟩
  go_wp2
  go_ret
  exact ⟨rfl, hb⟩
set_option maxRecDepth 100000 in
theorem cloneI_0 (b o n c : Nat) (xs : List (Int)) (hn : n ≤ 1000) (w : World) (hs : Sl w 1 eI (some ⟨b, o, none⟩) n c xs) :
    Calls Try.prog 95 #[.slice (some ⟨b, o, none⟩) n c] w (Post SV.v fun s w' => WS w' w.heap.size 3 1 eI s ∧ s.xs = xs ∧ Below w.heap.size w w') := by
  have hl := Lib.hid hs.len
  have own0 : Own (w.alloc (.cells #[] 3)) w.heap.size 3 1 eI _ ([] : List (Int)) := Own.of_blk (Blk.new w 3 #[]) (Nat.le_refl _) encI (by simp [maxLen])
  have hB0 := alo (Below.refl w.heap.size w) (.cells #[] 3)
  have src := hs.below hB0
  have hlen : n ≤ 100000000 := by omega
  have heq : (binOp .eql 48 (.slice (some ⟨b, o, none⟩) n c) (.slice none 0 0)).run Try.prog w = .ok (.bool false) w := by kernel_rfl
  go_enter Try.func95, Try.ntmps95
  go_wp2_with (at_builtin; refine app_own rfl _ _ appInt rfl encI w.heap.size _ [] rfl own0 _ _ _ xs rfl (fun e => by cases e) src (by simp; omega) hB0.size ?_; intro v5 w5 own5 hg5; have hB5 := belowApp hB0 own0 hg5 (Nat.le_refl _) hB0.size; clear hg5 own0 hB0 src; simp only [List.nil_append] at own5)
  obtain ⟨A9, c9, rfl, hA9, hsl9, hfr9⟩ := own5.sl encI
  go_ret
  exact ⟨⟨A9, _, c9, xs⟩, rfl, own5.ws encI ⟨hsl9.le, Nat.le_refl _⟩, rfl, hB5⟩
theorem cloneI_any (A : Option Addr) (n c : Nat) (xs : List (Int)) (hn : n ≤ 1000) (hA : Plain A c) (w : World) (hs : Sl w 1 eI A n c xs) :
    Calls Try.prog 90 #[.slice A n c] w (Post SV.v fun s w' => WS w' w.heap.size 3 1 eI s ∧ (s.xs = xs ∧ s.c = s.n) ∧ Below w.heap.size w w') := by
  cases A with
  | none =>
    obtain rfl : c = 0 := hA.1 rfl
    have hl := hs.le
    obtain rfl : n = 0 := by omega
    obtain rfl : xs = [] := List.eq_nil_of_length_eq_zero hs.len
    exact (cloneINil w).mono fun e w' ⟨e1, e2⟩ => ⟨⟨none, 0, 0, []⟩, e1.symm, WS.nilS, ⟨rfl, rfl⟩, e2⟩
  | some ad =>
    obtain ⟨b, o, sp⟩ := ad
    obtain rfl : sp = none := hA.2 _ rfl
    have h1 := cloneI_0 b o n c xs hn w hs
    go_enter Try.func90, Try.ntmps90
    go_wp2_with fail
    refine h1.mono ?_
    rintro e w1 ⟨⟨A9, n9, c9, l9⟩, rfl, hws9, hl9, hb9⟩
    have hle9 := hws9.ok.sl.le
    have hmax9 := hws9.ok.sl.max
    have hnil9 := hws9.ok.nil
    simp only [SV.v] at hl9 hle9 hmax9 hnil9 ⊢
    have hc := clipInt_any A9 n9 c9 hle9 hmax9 hnil9
    clear h1
    go_wp2_with fail
    refine (hc _).mono ?_
    rintro e w' ⟨rfl, rfl⟩
    go_wp2
    go_ret
    exact ⟨⟨A9, n9, n9, l9⟩, rfl, hws9.clip, ⟨hl9, rfl⟩, hb9⟩
end Go.Proofs.Ytenbpaoelipifaa
