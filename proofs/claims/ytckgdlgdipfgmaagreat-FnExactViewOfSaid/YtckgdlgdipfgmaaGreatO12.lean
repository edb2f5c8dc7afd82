/- A region that draws its order in its first m operations, in general: what each leaves is told by F, what may turn by R, how far the region is by J; guards are reckoned. view of the program: what a partition sees. Lists of numbers and of instructions compared: slices.Equal, l21Ints, l21Orders. -/
import Derived.Test.YtckgdlgdipfgmaaGreatO2
import Derived.Test.YtckgdlgdipfgmaaGreatO4
import Derived.Test.YtckgdlgdipfgmaaGreatO5
import Derived.Test.YtckgdlgdipfgmaaGreatO11
import Derived.BigQuiet
import Derived.Deep.QuietTactic

namespace Go.Proofs.YtckgdlgdipfgmaaGreat
set_option linter.unusedVariables false
set_option linter.unusedSimpArgs false
open Go.RowKit

section
variable {P : Program} {ops : Array Oper} {Q : Exit → Act → World → Prop}

def relChk (ops : Array Oper) (N : Nat) : Bool :=
  (List.range ops.size).all fun i => match ops[i]? with
    | none => true
    | some o => o.after.all (fun e => !Region.binds .any e || decide (e.on < i)) && (match o.dst with
      | none => true
      | some d => decide (d < N) && (List.range ops.size).all fun j => match ops[j]? with
        | none => true
        | some y => !(y.dst == some d) || decide (j = i))
theorem relChk_spec {ops : Array Oper} {N : Nat} (h : relChk ops N = true) (i : Nat) (o : Oper) (ho : ops[i]? = some o) :
    (∀ e ∈ o.after, Region.binds .any e = true → e.on < i) ∧ ∀ d, o.dst = some d → d < N ∧ ∀ j y, ops[j]? = some y → y.dst = some d → i = j := by
  have hi : i < ops.size := (Array.getElem?_eq_some_iff.1 ho).1
  unfold relChk at h
  rw [List.all_eq_true] at h
  have h1 := h i (List.mem_range.2 hi)
  rw [ho] at h1
  simp only [Bool.and_eq_true] at h1
  obtain ⟨h2, h4⟩ := h1
  refine ⟨fun e he hbe => ?_, fun d hd => ?_⟩
  · have := Array.all_eq_true_iff_forall_mem.1 h2 e he
    simpa [hbe] using this
  · rw [hd] at h4
    simp only [Bool.and_eq_true, decide_eq_true_eq] at h4
    refine ⟨h4.1, fun j y hy hyd => ?_⟩
    have hj : j < ops.size := (Array.getElem?_eq_some_iff.1 hy).1
    have h5 := List.all_eq_true.1 h4.2 j (List.mem_range.2 hj)
    rw [hy] at h5
    simp [hyd] at h5
    exact h5.symm

/-- A guarded operation is wanted, its guard's slot known. -/
theorem wanted_of {o : Oper} {a : Act} {k x : Nat} {b : Bool} {y : Oper} (hg : o.guard = some (k, b)) (hk : ops[k]? = some y) (hd : y.dst = some x) (h : a.tmps.getD x undef = .bool b) : Region.wanted o (yielded ops a.tmps) = true := by
  have hx : a.tmps[x]? = some (.bool b) := by
    simp only [Array.getD_eq_getD_getElem?] at h
    cases e : a.tmps[x]? with
    | none => rw [e] at h; simp [undef] at h
    | some v => rw [e] at h; simp at h; rw [h]
  simp [Region.wanted, yielded, hg, hk, hd, hx]
/-- Of the slots: what none of the first m operations writes is as it was. -/
def FrmM (ops : Array Oper) (m : Nat) (a0 a : Act) : Prop := a.defers = a0.defers ∧ a.tmps.size = a0.tmps.size ∧ ∀ k, (∀ (i : Nat) (o : Oper), i < m → ops[i]? = some o → o.dst ≠ some k) → a.tmps.getD k undef = a0.tmps.getD k undef
def drawFrM (ops : Array Oper) (m k : Nat) : Bool := (List.range m).all fun i => match ops[i]? with
  | none => true
  | some o => !(o.dst == some k)
theorem drawFrM_spec {ops : Array Oper} {m k : Nat} (h : drawFrM ops m k = true) (i : Nat) (o : Oper) (hi : i < m) (ho : ops[i]? = some o) : o.dst ≠ some k := by
  have := List.all_eq_true.1 h i (List.mem_range.2 hi)
  rw [ho] at this
  intro e
  simp [e] at this
/-- What an operation leaves. -/
def LeavesR (F : Nat → Value → World → Prop) (R : World → World → Prop) (J : Nat → World → Prop) (i : Nat) (o : Oper) (a : Act) (w : World) (c : Nat) (a' : Act) (w' : World) : Prop :=
  ∃ v, a' = a.put o.dst v ∧ (∀ d, o.dst = some d → F i v w') ∧ R w w' ∧ J (c + 1) w'
theorem LeavesR.val {F : Nat → Value → World → Prop} {R : World → World → Prop} {J : Nat → World → Prop} {i c : Nat} {o : Oper} {a : Act} {w w' : World} {v : Value} (hF : F i v w') (hR : R w w') (hJ : J (c + 1) w') : LeavesR F R J i o a w c (a.put o.dst v) w' := ⟨v, rfl, fun _ _ => hF, hR, hJ⟩
theorem region_rel {id : Nat} (hm : P.follows .mixedOrders = true) (F : Nat → Value → World → Prop) (R : World → World → Prop) (J : Nat → World → Prop) (m : Nat) (a0 : Act) (w : World)
    (hchk : relChk ops a0.tmps.size = true) (htail : tailChk ops m = true)
    (hF : ∀ i v w w', F i v w → R w w' → F i v w') (hR : ∀ w, R w w) (hmono : ∀ c c' w, c ≤ c' → J c w → J c' w)
    (hS : J 0 w.drew)
    (hob : ∀ (i : Nat) (o : Oper), i < m → ops[i]? = some o → ∀ (a : Act) (w : World) (c : Nat), c ≤ m → J c w → FrmM ops m a0 a →
      (∀ e ∈ o.after, Region.binds .any e = true → ∀ oj d, ops[e.on]? = some oj → oj.dst = some d → F e.on (a.tmps.getD d undef) w) →
      (Region.wanted o (yielded ops a.tmps) = true ∧ o.wp P a w (LeavesR F R J i o a w c) Q) ∨
      (Region.wanted o (yielded ops a.tmps) = false ∧ F i undef w))
    (hend : ∀ (V : Nat → Value) (w : World), (∀ (i : Nat) (x : Oper) (d : Nat), i < m → ops[i]? = some x → x.dst = some d → F i (V i) w) → J m w →
      wpList P ops Q (ops.toList.drop m) (puts ops a0 V m) w) :
    (Code.region id ops true).wp P Q a0 w := by
  have hback : ∀ (i : Nat) (o : Oper), ops[i]? = some o → ∀ e ∈ o.after, Region.binds .any e = true → e.on < i := fun i o ho => (relChk_spec hchk i o ho).1
  have hdst : ∀ (i j : Nat) (x y : Oper) (d : Nat), ops[i]? = some x → ops[j]? = some y → x.dst = some d → y.dst = some d → i = j := fun i j x y d hx hy hxd hyd => ((relChk_spec hchk i x hx).2 d hxd).2 j y hy hyd
  have hlt : ∀ (i : Nat) (x : Oper) (d : Nat), ops[i]? = some x → x.dst = some d → d < a0.tmps.size := fun i x d hx hd => ((relChk_spec hchk i x hx).2 d hd).1
  unfold tailChk at htail
  rw [Bool.and_eq_true, decide_eq_true_eq] at htail
  obtain ⟨hms, hl⟩ := htail
  have hwait : ∀ (listed : Array Bool) (i : Nat) (o : Oper), Closed ops listed → m ≤ i → ops[i]? = some o → (∀ e ∈ o.after, Region.binds .any e = true → listed.getD e.on false = true) → ∀ j, j < i → listed.getD j false = true := by
    intro listed i o hc hi ho hd j hj
    have hi' : i < ops.size := (Array.getElem?_eq_some_iff.1 ho).1
    have h1 := List.all_eq_true.1 hl i (List.mem_range.2 hi')
    simp only [Bool.or_eq_true, decide_eq_true_eq] at h1
    rcases h1 with h1 | h1
    · omega
    · exact reach_listed hc ops.size i j o ho hd (List.all_eq_true.1 h1 j (List.mem_range.2 hj))
  have hrest : ∀ k, wpOps P ops Q (List.range' k (ops.size - k)) = wpList P ops Q (ops.toList.drop k) := by
    intro k
    have h1 := wpOps_eq_wpList (P := P) (ops := ops) (Q := Q) (ops.toList.drop k) k (fun j => by simp)
    rw [← h1]
    simp
  -- what holds when all the first m are listed
  have hgo : ∀ (listed : Array Bool) (a : Act) (w' : World), (∀ j, j < m → listed.getD j true = true) → (∀ j, m ≤ j → j < ops.size → listed.getD j true = false) → FrmL ops listed a0 a →
      (∀ (i : Nat) (o : Oper) (d : Nat), listed.getD i false = true → ops[i]? = some o → o.dst = some d → F i (a.tmps.getD d undef) w') → listed.size = ops.size → J m w' →
      wpOps P ops Q (List.range' m (ops.size - m)) a w' := by
    intro listed a w' h1 h2 hfr hv hsz hS'
    rw [hrest]
    let V : Nat → Value := fun i => match ops[i]? with
      | some o => match o.dst with
        | some d => a.tmps.getD d undef
        | none => undef
      | none => undef
    have hV : ∀ (i : Nat) (o : Oper) (d : Nat), ops[i]? = some o → o.dst = some d → V i = a.tmps.getD d undef := fun i o d ho hd => by simp only [V, ho, hd]
    have ha : a = puts ops a0 V m := by
      refine act_ext (hfr.1.trans (puts_defers a0 V m).symm) (hfr.2.1.trans (puts_size a0 V m).symm) fun d => ?_
      by_cases hd : ∃ (i : Nat) (o : Oper), i < m ∧ ops[i]? = some o ∧ o.dst = some d
      · obtain ⟨i, o, hi, ho, hod⟩ := hd
        rw [puts_some a0 V d m i o hi ho hod (hlt i o d ho hod) (fun j y hy hyd => hdst i j o y d ho hy hod hyd), hV i o d ho hod]
      · rw [puts_none a0 V d m (fun i o hi ho hod => hd ⟨i, o, hi, ho, hod⟩)]
        refine hfr.2.2 d fun i o hli ho hod => ?_
        have hi' : i < ops.size := (Array.getElem?_eq_some_iff.1 ho).1
        by_cases him : i < m
        · exact hd ⟨i, o, him, ho, hod⟩
        · have := h2 i (by omega) hi'
          rw [hli] at this; cases this
    rw [ha]
    refine hend V w' (fun i x d hi hx hd => ?_) hS'
    rw [hV i x d hx hd]
    refine hv i x d ?_ hx hd
    have h3 := h1 i hi
    have hi' : i < listed.size := by omega
    simp [hi'] at h3 ⊢
    exact h3
  have htf : ∀ (listed : Array Bool) (i : Nat), listed.size = ops.size → i < ops.size → (listed.getD i true = false ↔ listed.getD i false = false) := by
    intro listed i h1 h2
    have : i < listed.size := by omega
    simp [this]
  refine wp_region_any hm ?_
  refine wpAny_inv (fun listed a w' => listed.size = ops.size ∧ Closed ops listed ∧ ((∃ i, m ≤ i ∧ i ≤ ops.size ∧ (∀ j, j < i → listed.getD j true = true) ∧ (∀ j, i ≤ j → j < ops.size → listed.getD j true = false) ∧ wpOps P ops Q (List.range' i (ops.size - i)) a w') ∨
      ((∃ j, j < m ∧ listed.getD j true = false) ∧ (∀ j, m ≤ j → j < ops.size → listed.getD j true = false) ∧ FrmL ops listed a0 a ∧
      (∀ (i : Nat) (o : Oper) (d : Nat), listed.getD i false = true → ops[i]? = some o → o.dst = some d → F i (a.tmps.getD d undef) w') ∧
      ∃ c : Nat, c + cnt listed m ≤ m ∧ J c w'))) ?_ ?_ _ _ _ _ ?_ ?_
  · intro listed a w' i ⟨hsz, hcl, hI⟩ hi
    obtain ⟨hun, o, ho, hdep⟩ := mem_ready.1 hi
    have him : i < ops.size := (Array.getElem?_eq_some_iff.1 ho).1
    have hdep' : ∀ j, m ≤ i → j < i → listed.getD j false = true := fun j h1 h2 => hwait listed i o hcl h1 ho hdep j h2
    have hcl' : Closed ops (listed.setIfInBounds i true) := by
      intro k y hk hy e he hb
      have hke : listed.getD e.on false = true := by
        by_cases e' : k = i
        · subst e'
          rw [ho] at hy
          injection hy with hy
          subst hy
          exact hdep e he hb
        · rw [getD_set_ne false (Ne.symm e')] at hk
          exact hcl k y hk hy e he hb
      exact getD_set_true hke
    rcases hI with ⟨i0, h0, h00, h1, h2, h3⟩ | ⟨⟨j0, hj0, hj0f⟩, h2, hfr, hv, c, hc, hS'⟩
    · have hii : i0 ≤ i := by
        rcases Nat.lt_or_ge i i0 with h | h
        · have := h1 i h; rw [hun] at this; cases this
        · exact h
      obtain rfl : i0 = i := by
        rcases Nat.lt_or_ge i0 i with h | h
        · have := hdep' i0 (by omega) h
          have h4 := (htf listed i0 hsz (by omega)).1 (h2 i0 (Nat.le_refl _) (by omega))
          rw [this] at h4; cases h4
        · omega
      rw [show ops.size - i0 = (ops.size - (i0 + 1)) + 1 by omega, List.range'_succ, wpOps_cons] at h3
      refine wpOp_mono ?_ h3
      intro a' w'' h4
      refine ⟨by simpa using hsz, hcl', .inl ⟨i0 + 1, by omega, by omega, fun j hj => ?_, fun j hj hj' => ?_, h4⟩⟩
      · by_cases e : j = i0
        · subst e
          have : j < listed.size := by omega
          simp [this]
        · rw [getD_set_ne true (Ne.symm e)]; exact h1 j (by omega)
      · rw [getD_set_ne true (by omega)]; exact h2 j (by omega) hj'
    · have hilt : i < m := by
        rcases Nat.lt_or_ge i m with h | h
        · exact h
        · have := hdep' j0 h (by omega)
          have h4 := (htf listed j0 hsz (by omega)).1 hj0f
          rw [this] at h4; cases h4
      have hcs := cnt_set hun m hilt
      have hfr0 : FrmM ops m a0 a := ⟨hfr.1, hfr.2.1, fun k hk => hfr.2.2 k fun j y hj hy => hk j y (by
        rcases Nat.lt_or_ge j m with h | h
        · exact h
        · have h5 : j < ops.size := (Array.getElem?_eq_some_iff.1 hy).1
          have h6 := h2 j h h5
          have h7 : j < listed.size := by omega
          simp [h7] at h6 hj
          rw [hj] at h6; cases h6) hy⟩
      have hpost : ∀ (v : Value) (w'' : World), (∀ d, o.dst = some d → F i v w'') → R w' w'' → J (c + 1) w'' →
          (listed.setIfInBounds i true).size = ops.size ∧ Closed ops (listed.setIfInBounds i true) ∧ ((∃ i', m ≤ i' ∧ i' ≤ ops.size ∧ (∀ j, j < i' → (listed.setIfInBounds i true).getD j true = true) ∧ (∀ j, i' ≤ j → j < ops.size → (listed.setIfInBounds i true).getD j true = false) ∧ wpOps P ops Q (List.range' i' (ops.size - i')) (a.put o.dst v) w'') ∨
            ((∃ j, j < m ∧ (listed.setIfInBounds i true).getD j true = false) ∧ (∀ j, m ≤ j → j < ops.size → (listed.setIfInBounds i true).getD j true = false) ∧ FrmL ops (listed.setIfInBounds i true) a0 (a.put o.dst v) ∧
            (∀ (i' : Nat) (o' : Oper) (d : Nat), (listed.setIfInBounds i true).getD i' false = true → ops[i']? = some o' → o'.dst = some d → F i' ((a.put o.dst v).tmps.getD d undef) w'') ∧
            ∃ c : Nat, c + cnt (listed.setIfInBounds i true) m ≤ m ∧ J c w'')) := by
        intro v w'' hFv hg hJ
        have hsz' : (listed.setIfInBounds i true).size = ops.size := by simpa using hsz
        have hfr' : FrmL ops (listed.setIfInBounds i true) a0 (a.put o.dst v) := by
          refine ⟨?_, ?_, fun k hk => ?_⟩
          · rw [← hfr.1]; cases o.dst <;> rfl
          · rw [← hfr.2.1]; cases o.dst <;> simp [Act.put]
          · have hil : i < listed.size := by omega
            rw [getD_put_ne _ _ _ _ (hk i o (by simp [hil]) ho)]
            refine hfr.2.2 k fun j y hj hy => hk j y ?_ hy
            by_cases e : j = i
            · subst e; simp [hil]
            · rw [getD_set_ne true (Ne.symm e)]; exact hj
        have hv' : ∀ (j : Nat) (oj : Oper) (d : Nat), (listed.setIfInBounds i true).getD j false = true → ops[j]? = some oj → oj.dst = some d → F j ((a.put o.dst v).tmps.getD d undef) w'' := by
          intro j oj d hj hoj hd
          by_cases e : j = i
          · subst e
            rw [ho] at hoj
            injection hoj with hoj
            subst hoj
            rw [hd, getD_put_same _ _ _ (by rw [hfr.2.1]; exact hlt j o d ho hd)]
            exact hFv d hd
          · rw [getD_put_ne _ _ _ _ (fun h => e (hdst j i oj o d hoj ho hd h))]
            refine hF j _ w' w'' (hv j oj d ?_ hoj hd) hg
            rwa [getD_set_ne false (Ne.symm e)] at hj
        have h2' : ∀ j, m ≤ j → j < ops.size → (listed.setIfInBounds i true).getD j true = false := fun j hj hj' => by
          rw [getD_set_ne true (by omega)]; exact h2 j hj hj'
        refine ⟨hsz', hcl', ?_⟩
        by_cases hall : ∀ j, j < m → (listed.setIfInBounds i true).getD j true = true
        · exact .inl ⟨m, Nat.le_refl _, hms, hall, h2', hgo _ _ _ hall h2' hfr' hv' hsz' (hmono _ _ _ (by omega) hJ)⟩
        · have ⟨j1, hj1⟩ := Classical.not_forall.1 hall
          have ⟨hj2, hj3⟩ := Classical.not_imp.1 hj1
          exact .inr ⟨⟨j1, hj2, by simpa using hj3⟩, h2', hfr', hv', c + 1, by omega, hJ⟩
      unfold wpOp
      simp only [ho]
      rcases hob i o hilt ho a w' c (by omega) hS' hfr0 (fun e he hb oj d hoj hd => hv e.on oj d (hdep e he hb) hoj hd) with ⟨hw, hwp⟩ | ⟨hw, hFu⟩
      · simp only [hw, if_true]
        left
        refine Oper.wp_mono ?_ hwp
        rintro a' w'' ⟨v, rfl, hFv, hg, hJ⟩
        exact hpost v w'' hFv hg hJ
      · simp only [hw, Bool.false_eq_true, if_false]
        exact hpost undef w' (fun _ _ => hFu) (hR w') (hmono _ _ _ (Nat.le_succ c) hS')
  · intro listed a w' ⟨hsz, _, hI⟩ hr
    have hall := unlisted_ready hback hr
    rcases hI with ⟨i0, h0, h00, h1, h2, h3⟩ | ⟨⟨j0, hj0, hj0f⟩, _⟩
    · obtain rfl : i0 = ops.size := by
        rcases Nat.lt_or_ge i0 ops.size with h | h
        · have h4 := hall i0 h
          rw [h2 i0 (Nat.le_refl _) h] at h4; cases h4
        · omega
      simpa [wpOps] using h3
    · have := hall j0 (by omega)
      rw [hj0f] at this; cases this
  · unfold left
    simp
  · refine ⟨by simp, fun k o hk => ?_, ?_⟩
    · exfalso
      rcases Nat.lt_or_ge k ops.size with h | h
      · simp [h] at hk
      · simp [h] at hk
    have hfl : ∀ j, j < ops.size → (Array.replicate ops.size false).getD j true = false := fun j hj => by simp [hj]
    have hfr : FrmL ops (Array.replicate ops.size false) a0 a0 := ⟨rfl, rfl, fun _ _ => rfl⟩
    have hv0 : ∀ (w' : World) (i : Nat) (o : Oper) (d : Nat), (Array.replicate ops.size false).getD i false = true → ops[i]? = some o → o.dst = some d → F i (a0.tmps.getD d undef) w' := by
      intro w' i o d hi
      exfalso
      rcases Nat.lt_or_ge i ops.size with h | h
      · simp [h] at hi
      · simp [h] at hi
    by_cases hm0 : m = 0
    · subst hm0
      exact .inl ⟨0, Nat.le_refl _, Nat.zero_le _, fun j hj => absurd hj (Nat.not_lt_zero _), fun j _ hj => hfl j hj, hgo _ _ _ (fun j hj => absurd hj (Nat.not_lt_zero _)) (fun j _ hj => hfl j hj) hfr (hv0 _) (by simp) hS⟩
    · refine .inr ⟨⟨0, by omega, hfl 0 (by omega)⟩, fun j _ hj => hfl j hj, hfr, hv0 _, 0, ?_, hS⟩
      unfold cnt
      have := List.length_filter_le (fun j => !(Array.replicate ops.size false).getD j true) (List.range m)
      simp at this ⊢
      exact this
end
end Go.Proofs.YtckgdlgdipfgmaaGreat

namespace Go.Proofs.YtckgdlgdipfgmaaGreat
set_option linter.unusedVariables false
set_option linter.unusedSimpArgs false
open Go.RowKit

def relView (q q5 n1 c1 n3 c3 : Nat) (A1 A3 : Option Addr) (ck who tk ow : Int) (sb : Bool) : Nat → Value → World → Prop
  | 0, v, _ => v = .pointer (some ⟨q5, 0, none⟩)
  | 1, v, _ => v = .slice A1 n1 c1
  | 2, v, _ => v = .pointer (some ⟨q5, 1, none⟩)
  | 3, v, _ => v = .int .i64 ck
  | 4, v, _ => v = .pointer (some ⟨q5, 2, none⟩)
  | 5, v, _ => v = .bool sb
  | 6, v, _ => v = .int .i64 (bitI sb)
  | 7, v, _ => v = .pointer (some ⟨q, 0, none⟩)
  | 8, v, _ => v = .pointer (some ⟨q, 0, none⟩)
  | 9, v, _ => v = .pointer (some ⟨q, 0, none⟩)
  | 10, v, _ => v = .pointer (some ⟨q, 2, none⟩)
  | 11, v, _ => v = .slice A3 n3 c3
  | 12, v, _ => v = .int .i64 who
  | 13, v, _ => v = .pointer (some ⟨q, 0, none⟩)
  | 14, v, _ => v = .pointer (some ⟨q, 0, none⟩)
  | 15, v, _ => v = .pointer (some ⟨q, 6, none⟩)
  | 16, v, _ => v = .int .i64 tk
  | 17, v, _ => v = .int .i64 ow
  | 18, v, W => ∃ g, v = .slice (some ⟨g, 0, none⟩) 3 3 ∧ Blk W g 3 #[.int .i64 ck, .int .i64 (bitI sb), .int .i64 ow]
  | _, _, _ => True
theorem relView_below (q q5 n1 c1 n3 c3 : Nat) (A1 A3 : Option Addr) (ck who tk ow : Int) (sb : Bool) {i : Nat} {v : Value} {w w' : World} (h : relView q q5 n1 c1 n3 c3 A1 A3 ck who tk ow sb i v w) (hb : Below w.heap.size w w') : relView q q5 n1 c1 n3 c3 A1 A3 ck who tk ow sb i v w' := by
  match i, h with
  | 0, h => exact h
  | 1, h => exact h
  | 2, h => exact h
  | 3, h => exact h
  | 4, h => exact h
  | 5, h => exact h
  | 6, h => exact h
  | 7, h => exact h
  | 8, h => exact h
  | 9, h => exact h
  | 10, h => exact h
  | 11, h => exact h
  | 12, h => exact h
  | 13, h => exact h
  | 14, h => exact h
  | 15, h => exact h
  | 16, h => exact h
  | 17, h => exact h
  | 18, ⟨g, e, B⟩ => exact ⟨g, e, B.below hb⟩
  | n + 19, _ => trivial

theorem headL_len {C : MacC} {n : Int} (h : machOkC C = true) {k : List Int × Int × Bool} (hk : k ∈ C.2.2.1) : (headL C n k).length ≤ 11 := by
  have := mo_core8 h k hk
  simp only [headL, List.length_append, List.length_cons, List.length_nil]
  omega
set_option maxRecDepth 100000 in
set_option maxHeartbeats 4000000 in
theorem view_any (m : MacR) (n : Int) (q : Nat) (w : World) (h : okM w m) (hsn : seenC (cM m) n = true) (hB : Blk w q 43 #[m.1.1.v, m.1.2.1.v, m.1.2.2.v, m.2.1.v, m.2.2.1.v, m.2.2.2.1.v, .int .i64 m.2.2.2.2]) (hnil : ∀ x ∈ m.2.2.1.xs, x.1.A = none → x.1.c = 0) (hnil2 : ∀ x ∈ m.2.2.2.1.xs, x.A = none → x.c = 0) :
    Calls Tryz.prog 48 #[.pointer (some ⟨q, 0, none⟩), .int .i64 n] w (Post SV.v fun s w' => WS w' w.heap.size 3 1 eI s ∧ s.xs = viewL (cM m) n ∧ Below w.heap.size w w') := by
  obtain ⟨⟨⟨A1, n1, c1, x1⟩, ⟨A2, n2, c2, x2⟩, ⟨A3, n3, c3, x3⟩⟩, ⟨A4, n4, c4, x4⟩, ⟨A5, n5, c5, x5⟩, ⟨A6, n6, c6, x6⟩, tick⟩ := m
  have hs2 : Sl w 4 eC A2 n2 c2 x2 := h.1.2.1
  have hs3 : Sl w 2 eS A3 n3 c3 x3 := h.1.2.2
  have hs5 : Sl w 3 eCo A5 n5 c5 x5 := h.2.2.1.1
  have hs6 : Sl w 1 eHr A6 n6 c6 x6 := h.2.2.2.1
  have HK := Lib.hid (show ∀ y ∈ x5, okC w y from h.2.2.1.2)
  have HH := Lib.hid (show ∀ y ∈ x6, okH w y from h.2.2.2.2)
  have HN := Lib.hid (show ∀ y ∈ x5, y.1.A = none → y.1.c = 0 from hnil)
  have HN2 := Lib.hid (show ∀ y ∈ x6, y.A = none → y.c = 0 from hnil2)
  have hl1 : x1.length = n1 := h.1.1.1.len
  have hle2 := hs2.le
  have hmax2 := hs2.max
  have hle5 := hs5.le
  have hmax5 := hs5.max
  have hle6 := hs6.le
  have hmax6 := hs6.max
  simp only [SV.v_mk] at hB
  obtain ⟨C, hC⟩ : ∃ C : MacC, cM ((((⟨A1, n1, c1, x1⟩, ⟨A2, n2, c2, x2⟩, ⟨A3, n3, c3, x3⟩) : SetR), ⟨A4, n4, c4, x4⟩, ⟨A5, n5, c5, x5⟩, ⟨A6, n6, c6, x6⟩, tick) : MacR) = C := ⟨_, rfl⟩
  have E1 : C.1.1 = x1.map cP := by rw [← hC]; rfl
  have E2 : C.1.2.1 = x2 := by rw [← hC]; rfl
  have E3 : C.1.2.2 = x3 := by rw [← hC]; rfl
  have E5 : C.2.2.1 = x5.map cC := by rw [← hC]; rfl
  have E6 : C.2.2.2.1 = x6.map cH := by rw [← hC]; rfl
  have E7 : C.2.2.2.2 = tick := by rw [← hC]; rfl
  rw [hC] at hsn ⊢
  obtain ⟨hok, hn0, hn1⟩ := seenC_out hsn
  have hl := mo_lens hok
  have hsl := su_slots (mo_setup hok)
  have htk := mo_tick hok
  have hh4 := mo_hold4 hok
  rw [E7] at htk
  rw [E3, E1, List.length_map, hl1] at hsl
  rw [E5, List.length_map, hs5.len] at hn1
  have h62 : n6 = n2 := by
    have := hl.2.2
    rw [E6, List.length_map, E2, hs6.len, hs2.len] at this
    exact this
  subst h62
  have hn8 : n6 ≤ 8 := by
    have := su_nc (mo_setup hok)
    rw [E2, hs2.len] at this
    exact this
  obtain ⟨N, rfl⟩ : ∃ N : Nat, n = (N : Int) := ⟨n.toNat, by omega⟩
  have hN : N < n5 := by omega
  obtain ⟨b5, o5, rfl, y5, hx5, hc5⟩ := hs5.nth hN (Below.refl _ _)
  have hm5 := List.mem_of_getElem? hx5
  have HV := Lib.hid (show viewL C N = headL C N (cC y5) ++ msgsL N x2 (x6.map cH) n6 from by
    rw [viewL_eq (k := cC y5) (by rw [E5, Int.toNat_natCast]; exact mapAt hx5), E2, E6, hs2.len])
  have hhl := headL_len (n := (N : Int)) hok (k := cC y5) (by rw [E5]; exact List.mem_map_of_mem hm5)
  have HM := Lib.hid (fun k => show (msgsL N x2 (x6.map cH) k).length ≤ 5 * k from by
    have := view_bd (n := (N : Int)) hok k
    rw [E2, E6] at this
    exact this)
  have HH4 := Lib.hid (show ∀ y ∈ x6, y.n ≤ 4 from fun y hy => by
    have h1 := hh4 (cH y) (by rw [E6]; exact List.mem_map_of_mem hy)
    have h2 := Sl.len (HH.out y hy)
    simp only [cH] at h1
    omega)
  have hOwn := own_any A3 n3 c3 x3 n1 N tick hsl (by omega)
  have HE := Lib.hid (show headL C N (cC y5) = y5.1.xs ++ [y5.2.1, bitI y5.2.2, ownL x3 N tick] from by unfold headL; rw [E3, E7]; rfl)
  have hok5 := HK.out y5 hm5
  have hnl5 := HN.out y5 hm5
  have q0 := hc5 0 _ rfl
  have q1 := hc5 1 _ rfl
  have q2 := hc5 2 _ rfl
  clear hC E1 E2 E3 E5 E6 E7 hsn hok hl hsl hh4 h hc5 hx5 hm5 HK HN hnil hnil2 hl1
  obtain ⟨⟨A9, n9, c9, x9⟩, a9, t9⟩ := y5
  simp only [eCo, SV.v, Nat.add_zero] at q0 q1 q2 hnl5 HE
  simp only [okC] at hok5
  have hn9 : n9 ≤ 8 := by
    have h1 := hok5.len
    rw [HE.out] at hhl
    simp only [List.length_append, List.length_cons, List.length_nil] at hhl
    omega
  generalize ownL x3 N tick = ow at *
  have hNz : (N : Int) < (n5 : Int) := by omega
  have hqlt := hB.lt
  have z4 := hB.c4
  have hb0 := alo (Below.refl w.heap.size w) (.cells #[.slice A9 n9 c9, .int .i64 a9, .bool t9] 74)
  have B5 := Blk.new w 74 #[.slice A9 n9 c9, .int .i64 a9, .bool t9]
  have B0 := hB.alloc (.cells #[.slice A9 n9 c9, .int .i64 a9, .bool t9] 74)
  have hBit := fun W => show Calls Tryz.prog 81 #[.bool t9] W fun e w' => .returned (.int .i64 (bitI t9)) = e ∧ Below W.heap.size W w' from (bit_any t9 W).mono fun e w' h => ⟨h.1, h.2 ▸ Below.refl _ _⟩
  have hOwn := fun W (hW : Below (w.alloc (.cells #[.slice A9 n9 c9, .int .i64 a9, .bool t9] 74)).heap.size _ W) => hOwn W ((hs3.below hb0).below hW)
  have hgw : w.heap.size < (w.alloc (.cells #[.slice A9 n9 c9, .int .i64 a9, .bool t9] 74)).heap.size := by simp
  go_enter Tryz.func48, Tryz.ntmps48
  go_wp2_with fail
  generalize w.alloc (.cells #[.slice A9 n9 c9, .int .i64 a9, .bool t9] 74) = W0 at *
  clear z4 q0 q1 q2
  refine region_rel (by kernel_rfl) (fun iz vz wz => relView q w.heap.size n9 c9 n3 c3 A9 A3 a9 (N : Int) tick ow t9 iz vz wz) (fun wz wz' => Below wz.heap.size wz wz') (fun _ wz' => Below W0.heap.size W0 wz') 19 _ W0 (by kernel_rfl) (by kernel_rfl) (fun iz vz wz wz' h hb => relView_below q w.heap.size n9 c9 n3 c3 A9 A3 a9 (N : Int) tick ow t9 h hb) (fun wz => Below.refl _ _) (fun _ _ _ _ h => h) (show Below W0.heap.size W0 W0.drew from (Below.refl _ _).drew) ?_ ?_
  · intro i o him ho a wa cc hcc hJ hfr hdep
    have B0 := B0.below hJ
    have B5 := B5.below hJ
    have cB0_0 := B0.c0; have cB0_1 := B0.c1; have cB0_2 := B0.c2; have cB0_3 := B0.c3; have cB0_4 := B0.c4; have cB0_5 := B0.c5; have cB0_6 := B0.c6; have fB0 := B0.frozen; have cB5_0 := B5.c0; have cB5_1 := B5.c1; have cB5_2 := B5.c2; have fB5 := B5.frozen
    match i, ho, him with
    | 0, ho, _ =>
      injection ho with ho
      subst ho
      have h5 := hfr.2.2 5 (drawFrM_spec (by kernel_rfl))
      clear hdep hfr
      simp only [Array.getD_eq_getD_getElem?] at h5
      refine .inl ⟨rfl, ?_⟩
      unfold Oper.wp
      go_simp
      exact LeavesR.val rfl (Below.refl _ _) hJ
    | 1, ho, _ =>
      injection ho with ho
      subst ho
      have h16 := hdep ⟨0, .data⟩ (by simp) (by kernel_rfl) _ 16 rfl rfl
      clear hdep hfr
      replace h16 : a.tmps.getD 16 undef = .pointer (some ⟨w.heap.size, 0, none⟩) := h16
      simp only [Array.getD_eq_getD_getElem?] at h16
      refine .inl ⟨rfl, ?_⟩
      unfold Oper.wp
      go_simp
      exact LeavesR.val rfl (Below.refl _ _) hJ
    | 2, ho, _ =>
      injection ho with ho
      subst ho
      have h5 := hfr.2.2 5 (drawFrM_spec (by kernel_rfl))
      clear hdep hfr
      simp only [Array.getD_eq_getD_getElem?] at h5
      refine .inl ⟨rfl, ?_⟩
      unfold Oper.wp
      go_simp
      exact LeavesR.val rfl (Below.refl _ _) hJ
    | 3, ho, _ =>
      injection ho with ho
      subst ho
      have h18 := hdep ⟨2, .data⟩ (by simp) (by kernel_rfl) _ 18 rfl rfl
      clear hdep hfr
      replace h18 : a.tmps.getD 18 undef = .pointer (some ⟨w.heap.size, 1, none⟩) := h18
      simp only [Array.getD_eq_getD_getElem?] at h18
      refine .inl ⟨rfl, ?_⟩
      unfold Oper.wp
      go_simp
      exact LeavesR.val rfl (Below.refl _ _) hJ
    | 4, ho, _ =>
      injection ho with ho
      subst ho
      have h5 := hfr.2.2 5 (drawFrM_spec (by kernel_rfl))
      clear hdep hfr
      simp only [Array.getD_eq_getD_getElem?] at h5
      refine .inl ⟨rfl, ?_⟩
      unfold Oper.wp
      go_simp
      exact LeavesR.val rfl (Below.refl _ _) hJ
    | 5, ho, _ =>
      injection ho with ho
      subst ho
      have h20 := hdep ⟨4, .data⟩ (by simp) (by kernel_rfl) _ 20 rfl rfl
      clear hdep hfr
      replace h20 : a.tmps.getD 20 undef = .pointer (some ⟨w.heap.size, 2, none⟩) := h20
      simp only [Array.getD_eq_getD_getElem?] at h20
      refine .inl ⟨rfl, ?_⟩
      unfold Oper.wp
      go_simp
      exact LeavesR.val rfl (Below.refl _ _) hJ
    | 6, ho, _ =>
      injection ho with ho
      subst ho
      have h21 := hdep ⟨5, .data⟩ (by simp) (by kernel_rfl) _ 21 rfl rfl
      clear hdep hfr
      replace h21 : a.tmps.getD 21 undef = .bool t9 := h21
      simp only [Array.getD_eq_getD_getElem?] at h21
      refine .inl ⟨rfl, ?_⟩
      unfold Oper.wp
      go_simp
      refine (hBit _).mono ?_
      rintro e wb ⟨rfl, hb'⟩
      exact LeavesR.val rfl hb' (thn hJ hb')
    | 7, ho, _ =>
      injection ho with ho
      subst ho
      have h0 := hfr.2.2 0 (drawFrM_spec (by kernel_rfl))
      clear hdep hfr
      simp only [Array.getD_eq_getD_getElem?] at h0
      refine .inl ⟨rfl, ?_⟩
      unfold Oper.wp
      go_simp
      exact LeavesR.val rfl (Below.refl _ _) hJ
    | 8, ho, _ =>
      injection ho with ho
      subst ho
      have h23 := hdep ⟨7, .data⟩ (by simp) (by kernel_rfl) _ 23 rfl rfl
      clear hdep hfr
      replace h23 : a.tmps.getD 23 undef = .pointer (some ⟨q, 0, none⟩) := h23
      simp only [Array.getD_eq_getD_getElem?] at h23
      refine .inl ⟨rfl, ?_⟩
      unfold Oper.wp
      go_simp
      exact LeavesR.val rfl (Below.refl _ _) hJ
    | 9, ho, _ =>
      injection ho with ho
      subst ho
      have h24 := hdep ⟨8, .data⟩ (by simp) (by kernel_rfl) _ 24 rfl rfl
      clear hdep hfr
      replace h24 : a.tmps.getD 24 undef = .pointer (some ⟨q, 0, none⟩) := h24
      simp only [Array.getD_eq_getD_getElem?] at h24
      refine .inl ⟨rfl, ?_⟩
      unfold Oper.wp
      go_simp
      exact LeavesR.val rfl (Below.refl _ _) hJ
    | 10, ho, _ =>
      injection ho with ho
      subst ho
      have h25 := hdep ⟨9, .data⟩ (by simp) (by kernel_rfl) _ 25 rfl rfl
      clear hdep hfr
      replace h25 : a.tmps.getD 25 undef = .pointer (some ⟨q, 0, none⟩) := h25
      simp only [Array.getD_eq_getD_getElem?] at h25
      refine .inl ⟨rfl, ?_⟩
      unfold Oper.wp
      go_simp
      exact LeavesR.val rfl (Below.refl _ _) hJ
    | 11, ho, _ =>
      injection ho with ho
      subst ho
      have h26 := hdep ⟨10, .data⟩ (by simp) (by kernel_rfl) _ 26 rfl rfl
      clear hdep hfr
      replace h26 : a.tmps.getD 26 undef = .pointer (some ⟨q, 2, none⟩) := h26
      simp only [Array.getD_eq_getD_getElem?] at h26
      refine .inl ⟨rfl, ?_⟩
      unfold Oper.wp
      go_simp
      exact LeavesR.val rfl (Below.refl _ _) hJ
    | 12, ho, _ =>
      injection ho with ho
      subst ho
      have h1 := hfr.2.2 1 (drawFrM_spec (by kernel_rfl))
      clear hdep hfr
      simp only [Array.getD_eq_getD_getElem?] at h1
      refine .inl ⟨rfl, ?_⟩
      unfold Oper.wp
      go_simp
      exact LeavesR.val rfl (Below.refl _ _) hJ
    | 13, ho, _ =>
      injection ho with ho
      subst ho
      have h0 := hfr.2.2 0 (drawFrM_spec (by kernel_rfl))
      clear hdep hfr
      simp only [Array.getD_eq_getD_getElem?] at h0
      refine .inl ⟨rfl, ?_⟩
      unfold Oper.wp
      go_simp
      exact LeavesR.val rfl (Below.refl _ _) hJ
    | 14, ho, _ =>
      injection ho with ho
      subst ho
      have h29 := hdep ⟨13, .data⟩ (by simp) (by kernel_rfl) _ 29 rfl rfl
      clear hdep hfr
      replace h29 : a.tmps.getD 29 undef = .pointer (some ⟨q, 0, none⟩) := h29
      simp only [Array.getD_eq_getD_getElem?] at h29
      refine .inl ⟨rfl, ?_⟩
      unfold Oper.wp
      go_simp
      exact LeavesR.val rfl (Below.refl _ _) hJ
    | 15, ho, _ =>
      injection ho with ho
      subst ho
      have h30 := hdep ⟨14, .data⟩ (by simp) (by kernel_rfl) _ 30 rfl rfl
      clear hdep hfr
      replace h30 : a.tmps.getD 30 undef = .pointer (some ⟨q, 0, none⟩) := h30
      simp only [Array.getD_eq_getD_getElem?] at h30
      refine .inl ⟨rfl, ?_⟩
      unfold Oper.wp
      go_simp
      exact LeavesR.val rfl (Below.refl _ _) hJ
    | 16, ho, _ =>
      injection ho with ho
      subst ho
      have h31 := hdep ⟨15, .data⟩ (by simp) (by kernel_rfl) _ 31 rfl rfl
      clear hdep hfr
      replace h31 : a.tmps.getD 31 undef = .pointer (some ⟨q, 6, none⟩) := h31
      simp only [Array.getD_eq_getD_getElem?] at h31
      refine .inl ⟨rfl, ?_⟩
      unfold Oper.wp
      go_simp
      exact LeavesR.val rfl (Below.refl _ _) hJ
    | 17, ho, _ =>
      injection ho with ho
      subst ho
      have h27 := hdep ⟨11, .data⟩ (by simp) (by kernel_rfl) _ 27 rfl rfl
      have h28 := hdep ⟨12, .data⟩ (by simp) (by kernel_rfl) _ 28 rfl rfl
      have h32 := hdep ⟨16, .data⟩ (by simp) (by kernel_rfl) _ 32 rfl rfl
      clear hdep hfr
      replace h27 : a.tmps.getD 27 undef = .slice A3 n3 c3 := h27
      simp only [Array.getD_eq_getD_getElem?] at h27
      replace h28 : a.tmps.getD 28 undef = .int .i64 (N : Int) := h28
      simp only [Array.getD_eq_getD_getElem?] at h28
      replace h32 : a.tmps.getD 32 undef = .int .i64 tick := h32
      simp only [Array.getD_eq_getD_getElem?] at h32
      refine .inl ⟨rfl, ?_⟩
      unfold Oper.wp
      go_simp
      refine (hOwn _ hJ).mono ?_
      rintro e wb ⟨rfl, hb'⟩
      exact LeavesR.val rfl hb' (thn hJ hb')
    | 18, ho, _ =>
      injection ho with ho
      subst ho
      have h19 := hdep ⟨3, .data⟩ (by simp) (by kernel_rfl) _ 19 rfl rfl
      have h22 := hdep ⟨6, .data⟩ (by simp) (by kernel_rfl) _ 22 rfl rfl
      have h33 := hdep ⟨17, .data⟩ (by simp) (by kernel_rfl) _ 33 rfl rfl
      clear hdep hfr
      replace h19 : a.tmps.getD 19 undef = .int .i64 a9 := h19
      simp only [Array.getD_eq_getD_getElem?] at h19
      replace h22 : a.tmps.getD 22 undef = .int .i64 (bitI t9) := h22
      simp only [Array.getD_eq_getD_getElem?] at h22
      replace h33 : a.tmps.getD 33 undef = .int .i64 ow := h33
      simp only [Array.getD_eq_getD_getElem?] at h33
      refine .inl ⟨rfl, ?_⟩
      unfold Oper.wp
      go_simp
      exact LeavesR.val ⟨_, rfl, Blk.new wa _ _⟩ (alo (Below.refl _ _) _) (alo hJ _)
    | n + 19, _, him => exact absurd him (by omega)
  · intro V w9 hV hJ
    have hV0 := hV 0 _ 16 (by decide) rfl rfl
    replace hV0 : V 0 = .pointer (some ⟨w.heap.size, 0, none⟩) := hV0
    have hV1 := hV 1 _ 17 (by decide) rfl rfl
    replace hV1 : V 1 = .slice A9 n9 c9 := hV1
    have hV2 := hV 2 _ 18 (by decide) rfl rfl
    replace hV2 : V 2 = .pointer (some ⟨w.heap.size, 1, none⟩) := hV2
    have hV3 := hV 3 _ 19 (by decide) rfl rfl
    replace hV3 : V 3 = .int .i64 a9 := hV3
    have hV4 := hV 4 _ 20 (by decide) rfl rfl
    replace hV4 : V 4 = .pointer (some ⟨w.heap.size, 2, none⟩) := hV4
    have hV5 := hV 5 _ 21 (by decide) rfl rfl
    replace hV5 : V 5 = .bool t9 := hV5
    have hV6 := hV 6 _ 22 (by decide) rfl rfl
    replace hV6 : V 6 = .int .i64 (bitI t9) := hV6
    have hV7 := hV 7 _ 23 (by decide) rfl rfl
    replace hV7 : V 7 = .pointer (some ⟨q, 0, none⟩) := hV7
    have hV8 := hV 8 _ 24 (by decide) rfl rfl
    replace hV8 : V 8 = .pointer (some ⟨q, 0, none⟩) := hV8
    have hV9 := hV 9 _ 25 (by decide) rfl rfl
    replace hV9 : V 9 = .pointer (some ⟨q, 0, none⟩) := hV9
    have hV10 := hV 10 _ 26 (by decide) rfl rfl
    replace hV10 : V 10 = .pointer (some ⟨q, 2, none⟩) := hV10
    have hV11 := hV 11 _ 27 (by decide) rfl rfl
    replace hV11 : V 11 = .slice A3 n3 c3 := hV11
    have hV12 := hV 12 _ 28 (by decide) rfl rfl
    replace hV12 : V 12 = .int .i64 (N : Int) := hV12
    have hV13 := hV 13 _ 29 (by decide) rfl rfl
    replace hV13 : V 13 = .pointer (some ⟨q, 0, none⟩) := hV13
    have hV14 := hV 14 _ 30 (by decide) rfl rfl
    replace hV14 : V 14 = .pointer (some ⟨q, 0, none⟩) := hV14
    have hV15 := hV 15 _ 31 (by decide) rfl rfl
    replace hV15 : V 15 = .pointer (some ⟨q, 6, none⟩) := hV15
    have hV16 := hV 16 _ 32 (by decide) rfl rfl
    replace hV16 : V 16 = .int .i64 tick := hV16
    have hV17 := hV 17 _ 33 (by decide) rfl rfl
    replace hV17 : V 17 = .int .i64 ow := hV17
    obtain ⟨gE34, hV18, NE34⟩ := hV 18 _ 34 (by decide) rfl rfl
    clear hV
    simp only [puts, List.drop, Act.put, List.getElem?_toArray, List.getElem?_cons_succ, List.getElem?_cons_zero, List.setIfInBounds_toArray, List.set_cons_succ, List.set_cons_zero, hV0, hV1, hV2, hV3, hV4, hV5, hV6, hV7, hV8, hV9, hV10, hV11, hV12, hV13, hV14, hV15, hV16, hV17, hV18]
    clear hV0 hV1 hV2 hV3 hV4 hV5 hV6 hV7 hV8 hV9 hV10 hV11 hV12 hV13 hV14 hV15 hV16 hV17 hV18
    replace B0 := B0.below hJ
    replace B5 := B5.below hJ
    have hb9 := thn hb0 hJ
    have B10 := Blk.new w9 47 #[.slice A9 n9 c9, .slice (some ⟨gE34, 0, none⟩) 3 3]
    have hbx := alo (Below.refl w9.heap.size w9) (.cells #[.slice A9 n9 c9, .slice (some ⟨gE34, 0, none⟩) 3 3] 47)
    have src2 := Sl.of_blk (xs := [a9, bitI t9, ow]) (NE34.alloc (.cells #[.slice A9 n9 c9, .slice (some ⟨gE34, 0, none⟩) 3 3] 47)) encI (by simp)
    have hcg := concatG_any A9 (some ⟨gE34, 0, none⟩) n9 c9 3 3 x9 [a9, bitI t9, ow] w9.heap.size (by omega) (by omega) hnl5 (fun e => by cases e) _ (hok5.below (thn hb9 hbx)) src2 B10
    rw [← HE.out] at hcg
    generalize headL C N (cC (⟨A9, n9, c9, x9⟩, a9, t9)) = Hd at *
    go_wp2_with fail
    refine hcg.mono ?_
    rintro e w10 ⟨v, rfl, own6, hb10⟩
    have hb11 := thn hb9 (thn hbx hb10)
    replace own6 := own6.low (base' := w.heap.size) (by have := hb9.size; simp; omega)
    clear hcg hb10 hbx src2 B10 B5 B0 NE34 hb9 hb0 hJ hBit hOwn hok5 hgw HE
    have z1 := (hB.below hb11).c1
    go_wp2_with fail
    clear z1
    go_loopg [6, 43] n6 (fun gg s6 s43 wr => ∃ (kk : Nat) (v : Value), kk ≤ n6 ∧ n6 - kk ≤ gg ∧ s6 = v ∧ s43 = .int .i64 kk ∧ Aside (Below w.heap.size w wr) ∧ Aside (Own wr w.heap.size 3 1 eI v (Hd ++ msgsL N x2 (x6.map cH) kk)))
    case atStart => exact ⟨0, _, Nat.zero_le _, by omega, rfl, rfl, (show Aside _ from hb11), (show Aside _ from by rw [msgsL_zero, List.append_nil]; exact own6)⟩
    case round =>
      obtain ⟨kk, v, hkk, hg, hv6, rfl, BW, OW⟩ := hrel
      subst hv6
      clear own6 hb11
      have own6 := OW.out
      have hbw := BW.out
      clear OW BW
      by_cases hlt : kk < n6
      · have hltz : (kk : Int) < (n6 : Int) := by omega
        obtain ⟨b2, o2, rfl, y2, hx2, hc2⟩ := hs2.nth hlt (Below.refl _ _)
        obtain ⟨b6, o6, rfl, y6, hx6, hc6⟩ := hs6.nth hlt (Below.refl _ _)
        have q0 := hc2 0 _ rfl
        have q1 := hc2 1 _ rfl
        have q2 := hc2 2 _ rfl
        have q3 := hc2 3 _ rfl
        have r0 := hc6 0 _ rfl
        have hm6 := List.mem_of_getElem? hx6
        have hy6 := HH.out y6 hm6
        have hy4 := HH4.out y6 hm6
        have hyn := HN2.out y6 hm6
        have HT := Lib.hid (fun (e : y2.2.2.1 = (N : Int)) => show msgsL N x2 (x6.map cH) (kk + 1) = (msgsL N x2 (x6.map cH) kk ++ [(y6.xs.length : Int)]) ++ y6.xs from msgsL_to (n := (N : Int)) hx2 (mapAt (f := cH) hx6) e)
        have HF := Lib.hid (fun (e : ¬ y2.2.2.1 = (N : Int)) => msgsL_not (n := (N : Int)) hx2 (mapAt (f := cH) hx6) e)
        have hml := HM.out kk
        clear hc2 hc6 hx2 hx6 hm6
        obtain ⟨k2, f2, t2, z2⟩ := y2
        obtain ⟨A8, n8, c8, x8⟩ := y6
        simp only [eC, eHr, SV.v, Nat.add_zero, Nat.mul_one] at r0 q0 q1 q2 q3 hy4 hyn
        simp only [okH] at hy6
        simp only [] at HT HF
        have hl8 := hy6.len
        have l2 := World.block_lt_of_cell? _ _ q0
        have l6 := World.block_lt_of_cell? _ _ r0
        have u0 := (hbw.cell (p := ⟨b2, o2 + kk * 4, none⟩) l2).trans q0
        have u1 := (hbw.cell (p := ⟨b2, o2 + kk * 4 + 1, none⟩) l2).trans q1
        have u2 := (hbw.cell (p := ⟨b2, o2 + kk * 4 + 2, none⟩) l2).trans q2
        have u3 := (hbw.cell (p := ⟨b2, o2 + kk * 4 + 3, none⟩) l2).trans q3
        have hbV := alo hbw (.cells #[.int .i64 k2, .int .i64 f2, .int .i64 t2, .int .i64 z2] 78)
        have B8 := Blk.new wr 78 #[.int .i64 k2, .int .i64 f2, .int .i64 t2, .int .i64 z2]
        have d2 := B8.c2
        by_cases ht : t2 = (N : Int)
        · subst ht
          have HS := Lib.hid (show Hd ++ msgsL N x2 (x6.map cH) (kk + 1) = ((Hd ++ msgsL N x2 (x6.map cH) kk) ++ [(n8 : Int)]) ++ x8 from by
            have h1 := HT.out rfl
            rw [hl8] at h1
            rw [h1]
            simp only [List.append_assoc])
          clear HT HF
          have hbY := alo hbV (.cells #[.int .i64 n8] 3)
          have z5 := (hB.below hbV).c5
          have r0a := (hbV.cell (p := ⟨b6, o6 + kk, none⟩) l6).trans r0
          have own7 := (own6.alloc (.cells #[.int .i64 k2, .int .i64 f2, .int .i64 N, .int .i64 z2] 78)).alloc (.cells #[.int .i64 n8] 3)
          have src7 := Sl.of_blk (xs := [(n8 : Int)]) (Blk.new2 wr (.cells #[.int .i64 k2, .int .i64 f2, .int .i64 N, .int .i64 z2] 78) 3 #[.int .i64 n8]) encI (by simp)
          have hlen7 : (Hd ++ msgsL N x2 (x6.map cH) kk).length + 1 ≤ 100000000 := by rw [List.length_append]; omega
          have hlen8 : ((Hd ++ msgsL N x2 (x6.map cH) kk) ++ [(n8 : Int)]).length + n8 ≤ 100000000 := by rw [List.length_append, List.length_append, List.length_singleton]; omega
          go_wp2_with (first
            | (at_builtin; refine app_own rfl _ _ appInt rfl encI w.heap.size _ _ rfl own7 _ 1 1 [(n8 : Int)] rfl (fun e => by cases e) src7 hlen7 hbY.size ?_; intro v5 w5 own5 hg5; have hb5 := belowApp hbY own7 hg5 (Nat.le_refl _) hbY.size; clear hg5 own7 own6 src7 hlen7 z5 r0a; have z5 := (hB.below hb5).c5; have r0a := (hb5.cell (p := ⟨b6, o6 + kk, none⟩) l6).trans r0; have src8 := hy6.below hb5)
            | (at_builtin; refine app_own rfl _ _ appInt rfl encI w.heap.size _ _ rfl own5 _ _ _ x8 rfl hyn src8 hlen8 hb5.size ?_; intro v8 w8 own8 hg8; have hb8 := belowApp hb5 own5 hg8 (Nat.le_refl _) hb5.size))
          rw [← HS.out] at own8
          go_roundg (n6 - (kk + 1))
          case measure => omega
          case rel => exact ⟨kk + 1, _, by omega, by omega, rfl, by go_num, (show Aside _ from hb8), (show Aside _ from own8)⟩
        · have ht2 : (t2 == (N : Int)) = false := by rw [beq_eq_false_iff_ne]; exact ht
          have HS := Lib.hid (HF.out ht)
          clear HT HF
          have own7 := own6.alloc (.cells #[.int .i64 k2, .int .i64 f2, .int .i64 t2, .int .i64 z2] 78)
          go_wp2
          go_roundg (n6 - (kk + 1))
          case measure => omega
          case rel => exact ⟨kk + 1, _, by omega, by omega, rfl, by go_num, (show Aside _ from hbV), (show Aside _ from by rw [HS.out]; exact own7)⟩
      · have hltz : ¬ (kk : Int) < (n6 : Int) := by omega
        obtain rfl : n6 = kk := by omega
        rw [← HV.out] at own6
        obtain ⟨A8, c8, rfl, hA8, sl8, -⟩ := own6.sl encI
        have hle8 := sl8.le
        have hmax8 := sl8.max
        have hcp := fun W => clipInt_any A8 _ c8 hle8 hmax8 hA8.1 W
        have ws8 := own6.ws (c' := (viewL C N).length) encI ⟨Nat.le_refl _, hle8⟩
        go_wp2_with fail
        refine (hcp _).mono ?_; rintro e w' ⟨rfl, rfl⟩
        go_wp2
        go_ret
        exact ⟨⟨A8, _, _, _⟩, rfl, ws8, rfl, hbw⟩
end Go.Proofs.YtckgdlgdipfgmaaGreat

namespace Go.Proofs.YtckgdlgdipfgmaaGreat
set_option linter.unusedVariables false
set_option linter.unusedSimpArgs false
open Go.RowKit

theorem eqI_any (A A' : Option Addr) (n n' c c' : Nat) (xs ys : List Int) (w : World) (hs : Sl w 1 eI A n c xs) (hs' : Sl w 1 eI A' n' c' ys) :
    Calls Tryz.prog 40 #[.slice A n c, .slice A' n' c'] w fun e w' => .returned (.bool (decide (xs = ys))) = e ∧ Below w.heap.size w w' := by
  have hle := hs.le
  have hmax := hs.max
  have hle' := hs'.le
  have hmax' := hs'.max
  by_cases hn : n = n'
  · subst hn
    go_enter Tryz.func40, Tryz.ntmps40
    go_wp2
    go_loopg [13] n (fun gg s3 wr => ∃ kk : Nat, kk ≤ n ∧ n - kk ≤ gg ∧ s3 = .int .i64 kk ∧ Aside (Below w.heap.size w wr) ∧ Aside (∀ j, j < kk → xs[j]? = ys[j]?))
    case atStart => exact ⟨0, Nat.zero_le _, by omega, rfl, (show Aside _ from Below.refl _ _), fun j hj => absurd hj (Nat.not_lt_zero _)⟩
    case round =>
      obtain ⟨kk, hkk, hg, rfl, BW, AA⟩ := hrel
      by_cases hlt : kk < n
      · have hltz : (kk : Int) < (n : Int) := by omega
        obtain ⟨b, o, rfl, y, hy, hc⟩ := hs.nth hlt BW.out
        obtain ⟨b', o', rfl, y', hy', hc'⟩ := hs'.nth hlt BW.out
        have hc0 := hc 0 _ rfl
        have hc0' := hc' 0 _ rfl
        clear hc hc'
        simp only [eI, Nat.add_zero, Nat.mul_one] at hc0 hc0'
        have HX := Lib.hid hy
        have HY := Lib.hid hy'
        clear hy hy'
        by_cases hq : y = y'
        · subst hq
          go_wp2_with fail
          go_quiet (fail)
          go_wp2
          go_roundg (n - (kk + 1))
          case measure => omega
          case rel => exact ⟨kk + 1, by omega, by omega, by go_num, (show Aside _ from belowDrewN' BW.out _), (show Aside _ from same_step AA.out HX.out HY.out)⟩
        · go_wp2_with fail
          go_quiet (fail)
          go_wp2
          go_ret
          exact ⟨by rw [decide_eq_false (same_fails HX.out HY.out hq)]; rfl, belowDrewN' BW.out _⟩
      · have hltz : ¬ (kk : Int) < (n : Int) := by omega
        obtain rfl : kk = n := by omega
        go_wp2
        go_ret
        exact ⟨by rw [decide_eq_true (same_holds hs.len hs'.len AA.out)]; rfl, BW.out⟩
  · have hn' : ¬ xs = ys := fun e => hn (by rw [← hs.len, ← hs'.len, e])
    rw [decide_eq_false hn']
    have hnz : ¬ (n : Int) = (n' : Int) := by omega
    go_enter Tryz.func40, Tryz.ntmps40
    go_wp2
    go_ret
    exact ⟨rfl, Below.refl _ _⟩
theorem l21Ints_any (A A' : Option Addr) (n n' c c' : Nat) (xs ys : List Int) (w : World) (hs : Sl w 1 eI A n c xs) (hs' : Sl w 1 eI A' n' c' ys) :
    Calls Tryz.prog 31 #[.slice A n c, .slice A' n' c'] w fun e w' => .returned (.bool (decide (xs = ys))) = e ∧ Below w.heap.size w w' := by
  have hle := hs.le
  have hmax := hs.max
  have hle' := hs'.le
  have hmax' := hs'.max
  by_cases hn : n = n'
  · subst hn
    go_enter Tryz.func31, Tryz.ntmps31
    go_wp2
    go_loopg [5] n (fun gg s3 wr => ∃ kk : Nat, kk ≤ n ∧ n - kk ≤ gg ∧ s3 = .int .i64 kk ∧ Aside (Below w.heap.size w wr) ∧ Aside (∀ j, j < kk → xs[j]? = ys[j]?))
    case atStart => exact ⟨0, Nat.zero_le _, by omega, rfl, (show Aside _ from Below.refl _ _), fun j hj => absurd hj (Nat.not_lt_zero _)⟩
    case round =>
      obtain ⟨kk, hkk, hg, rfl, BW, AA⟩ := hrel
      by_cases hlt : kk < n
      · have hltz : (kk : Int) < (n : Int) := by omega
        obtain ⟨b, o, rfl, y, hy, hc⟩ := hs.nth hlt BW.out
        obtain ⟨b', o', rfl, y', hy', hc'⟩ := hs'.nth hlt BW.out
        have hc0 := hc 0 _ rfl
        have hc0' := hc' 0 _ rfl
        clear hc hc'
        simp only [eI, Nat.add_zero, Nat.mul_one] at hc0 hc0'
        have HX := Lib.hid hy
        have HY := Lib.hid hy'
        clear hy hy'
        by_cases hq : y = y'
        · subst hq
          go_wp2_with fail
          go_quiet (fail)
          go_wp2
          go_roundg (n - (kk + 1))
          case measure => omega
          case rel => exact ⟨kk + 1, by omega, by omega, by go_num, (show Aside _ from belowDrewN' BW.out _), (show Aside _ from same_step AA.out HX.out HY.out)⟩
        · go_wp2_with fail
          go_quiet (fail)
          go_wp2
          go_ret
          exact ⟨by rw [decide_eq_false (same_fails HX.out HY.out hq)]; rfl, belowDrewN' BW.out _⟩
      · have hltz : ¬ (kk : Int) < (n : Int) := by omega
        obtain rfl : kk = n := by omega
        go_wp2
        go_ret
        exact ⟨by rw [decide_eq_true (same_holds hs.len hs'.len AA.out)]; rfl, BW.out⟩
  · have hn' : ¬ xs = ys := fun e => hn (by rw [← hs.len, ← hs'.len, e])
    rw [decide_eq_false hn']
    have hnz : ¬ (n : Int) = (n' : Int) := by omega
    go_enter Tryz.func31, Tryz.ntmps31
    go_wp2
    go_ret
    exact ⟨rfl, Below.refl _ _⟩
set_option maxHeartbeats 1000000 in
theorem eqO_any (A A' : Option Addr) (n n' c c' : Nat) (xs ys : List (Int × Int × Int)) (w : World) (hs : Sl w 3 eO A n c xs) (hs' : Sl w 3 eO A' n' c' ys) :
    Calls Tryz.prog 43 #[.slice A n c, .slice A' n' c'] w fun e w' => .returned (.bool (decide (xs = ys))) = e ∧ Below w.heap.size w w' := by
  have hle := hs.le
  have hmax := hs.max
  have hle' := hs'.le
  have hmax' := hs'.max
  by_cases hn : n = n'
  · subst hn
    go_enter Tryz.func43, Tryz.ntmps43
    go_wp2
    go_loopg [13] n (fun gg s3 wr => ∃ kk : Nat, kk ≤ n ∧ n - kk ≤ gg ∧ s3 = .int .i64 kk ∧ Aside (Below w.heap.size w wr) ∧ Aside (∀ j, j < kk → xs[j]? = ys[j]?))
    case atStart => exact ⟨0, Nat.zero_le _, by omega, rfl, (show Aside _ from Below.refl _ _), fun j hj => absurd hj (Nat.not_lt_zero _)⟩
    case round =>
      obtain ⟨kk, hkk, hg, rfl, BW, AA⟩ := hrel
      by_cases hlt : kk < n
      · have hltz : (kk : Int) < (n : Int) := by omega
        obtain ⟨b, o, rfl, y, hy, hc⟩ := hs.nth hlt BW.out
        obtain ⟨b', o', rfl, y', hy', hc'⟩ := hs'.nth hlt BW.out
        have q0 := hc 0 _ rfl
        have q1 := hc 1 _ rfl
        have q2 := hc 2 _ rfl
        have r0 := hc' 0 _ rfl
        have r1 := hc' 1 _ rfl
        have r2 := hc' 2 _ rfl
        clear hc hc'
        simp only [eO, Nat.add_zero] at q0 q1 q2 r0 r1 r2
        have HX := Lib.hid hy
        have HY := Lib.hid hy'
        clear hy hy'
        by_cases hq : y = y'
        · subst hq
          go_wp2_with fail
          go_quiet (fail)
          go_wp2
          go_roundg (n - (kk + 1))
          case measure => omega
          case rel => exact ⟨kk + 1, by omega, by omega, by go_num, (show Aside _ from belowDrewN' BW.out _), (show Aside _ from same_step AA.out HX.out HY.out)⟩
        · have HN := Lib.hid (same_fails HX.out HY.out hq)
          obtain ⟨y0, y1, y2⟩ := y
          obtain ⟨z0, z1, z2⟩ := y'
          simp only [] at q0 q1 q2 r0 r1 r2
          clear HX HY
          by_cases h0 : y0 = z0
          · subst h0
            by_cases h1 : y1 = z1
            · subst h1
              have h2 : ¬ y2 = z2 := fun e => hq (by rw [e])
              clear hq
              go_wp2_with fail
              go_quiet (fail)
              go_wp2
              go_ret
              exact ⟨by rw [decide_eq_false HN.out]; rfl, belowDrewN' BW.out _⟩
            · clear hq
              go_wp2_with fail
              go_quiet (fail)
              go_wp2
              go_ret
              exact ⟨by rw [decide_eq_false HN.out]; rfl, belowDrewN' BW.out _⟩
          · clear hq
            go_wp2_with fail
            go_quiet (fail)
            go_wp2
            go_ret
            exact ⟨by rw [decide_eq_false HN.out]; rfl, belowDrewN' BW.out _⟩
      · have hltz : ¬ (kk : Int) < (n : Int) := by omega
        obtain rfl : kk = n := by omega
        go_wp2
        go_ret
        exact ⟨by rw [decide_eq_true (same_holds hs.len hs'.len AA.out)]; rfl, BW.out⟩
  · have hn' : ¬ xs = ys := fun e => hn (by rw [← hs.len, ← hs'.len, e])
    rw [decide_eq_false hn']
    have hnz : ¬ (n : Int) = (n' : Int) := by omega
    go_enter Tryz.func43, Tryz.ntmps43
    go_wp2
    go_ret
    exact ⟨rfl, Below.refl _ _⟩
set_option maxHeartbeats 1000000 in
theorem l21Orders_any (A A' : Option Addr) (n n' c c' : Nat) (xs ys : List (Int × Int × Int)) (w : World) (hs : Sl w 3 eO A n c xs) (hs' : Sl w 3 eO A' n' c' ys) :
    Calls Tryz.prog 34 #[.slice A n c, .slice A' n' c'] w fun e w' => .returned (.bool (decide (xs = ys))) = e ∧ Below w.heap.size w w' := by
  have hle := hs.le
  have hmax := hs.max
  have hle' := hs'.le
  have hmax' := hs'.max
  by_cases hn : n = n'
  · subst hn
    go_enter Tryz.func34, Tryz.ntmps34
    go_wp2
    go_loopg [5] n (fun gg s3 wr => ∃ kk : Nat, kk ≤ n ∧ n - kk ≤ gg ∧ s3 = .int .i64 kk ∧ Aside (Below w.heap.size w wr) ∧ Aside (∀ j, j < kk → xs[j]? = ys[j]?))
    case atStart => exact ⟨0, Nat.zero_le _, by omega, rfl, (show Aside _ from Below.refl _ _), fun j hj => absurd hj (Nat.not_lt_zero _)⟩
    case round =>
      obtain ⟨kk, hkk, hg, rfl, BW, AA⟩ := hrel
      by_cases hlt : kk < n
      · have hltz : (kk : Int) < (n : Int) := by omega
        obtain ⟨b, o, rfl, y, hy, hc⟩ := hs.nth hlt BW.out
        obtain ⟨b', o', rfl, y', hy', hc'⟩ := hs'.nth hlt BW.out
        have q0 := hc 0 _ rfl
        have q1 := hc 1 _ rfl
        have q2 := hc 2 _ rfl
        have r0 := hc' 0 _ rfl
        have r1 := hc' 1 _ rfl
        have r2 := hc' 2 _ rfl
        clear hc hc'
        simp only [eO, Nat.add_zero] at q0 q1 q2 r0 r1 r2
        have HX := Lib.hid hy
        have HY := Lib.hid hy'
        clear hy hy'
        by_cases hq : y = y'
        · subst hq
          go_wp2_with fail
          go_quiet (fail)
          go_wp2
          go_roundg (n - (kk + 1))
          case measure => omega
          case rel => exact ⟨kk + 1, by omega, by omega, by go_num, (show Aside _ from belowDrewN' BW.out _), (show Aside _ from same_step AA.out HX.out HY.out)⟩
        · have HN := Lib.hid (same_fails HX.out HY.out hq)
          obtain ⟨y0, y1, y2⟩ := y
          obtain ⟨z0, z1, z2⟩ := y'
          simp only [] at q0 q1 q2 r0 r1 r2
          clear HX HY
          by_cases h0 : y0 = z0
          · subst h0
            by_cases h1 : y1 = z1
            · subst h1
              have h2 : ¬ y2 = z2 := fun e => hq (by rw [e])
              clear hq
              go_wp2_with fail
              go_quiet (fail)
              go_wp2
              go_ret
              exact ⟨by rw [decide_eq_false HN.out]; rfl, belowDrewN' BW.out _⟩
            · clear hq
              go_wp2_with fail
              go_quiet (fail)
              go_wp2
              go_ret
              exact ⟨by rw [decide_eq_false HN.out]; rfl, belowDrewN' BW.out _⟩
          · clear hq
            go_wp2_with fail
            go_quiet (fail)
            go_wp2
            go_ret
            exact ⟨by rw [decide_eq_false HN.out]; rfl, belowDrewN' BW.out _⟩
      · have hltz : ¬ (kk : Int) < (n : Int) := by omega
        obtain rfl : kk = n := by omega
        go_wp2
        go_ret
        exact ⟨by rw [decide_eq_true (same_holds hs.len hs'.len AA.out)]; rfl, BW.out⟩
  · have hn' : ¬ xs = ys := fun e => hn (by rw [← hs.len, ← hs'.len, e])
    rw [decide_eq_false hn']
    have hnz : ¬ (n : Int) = (n' : Int) := by omega
    go_enter Tryz.func34, Tryz.ntmps34
    go_wp2
    go_ret
    exact ⟨rfl, Below.refl _ _⟩
end Go.Proofs.YtckgdlgdipfgmaaGreat
