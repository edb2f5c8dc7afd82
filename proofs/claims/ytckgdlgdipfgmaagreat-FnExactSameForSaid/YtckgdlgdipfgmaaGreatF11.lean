/- A region that draws its order in its first m operations alone: an invariant for these, then the rest in order. A region that draws its order in its first m operations, in general: what each leaves is told by F, what may turn by R, how far the region is by J; guards are reckoned. -/
import Derived.Test.YtckgdlgdipfgmaaGreatF10

namespace Go.Proofs.YtckgdlgdipfgmaaGreat
set_option linter.unusedVariables false
set_option linter.unusedSimpArgs false
open Go.RowKit

section
variable {P : Program} {ops : Array Oper} {Q : Exit → Act → World → Prop}

/-- The frame behind the first k operations, their values given. -/
def puts (ops : Array Oper) (a0 : Act) (V : Nat → Value) : Nat → Act
  | 0 => a0
  | k + 1 => match ops[k]? with
    | some o => (puts ops a0 V k).put o.dst (V k)
    | none => puts ops a0 V k
/-- Operation i waits for operation j, directly or through others. -/
def reachB (ops : Array Oper) : Nat → Nat → Nat → Bool
  | 0, _, _ => false
  | f + 1, i, j => match ops[i]? with
    | none => false
    | some o => o.after.any fun e => Region.binds .any e && (e.on == j || reachB ops f e.on j)
/-- Behind operation m - 1 each operation waits for all before it. -/
def tailChk (ops : Array Oper) (m : Nat) : Bool := decide (m ≤ ops.size) && (List.range ops.size).all fun i => decide (i < m) || (List.range i).all fun j => reachB ops ops.size i j
/-- What is listed is closed under waiting. -/
def Closed (ops : Array Oper) (listed : Array Bool) : Prop := ∀ (k : Nat) (o : Oper), listed.getD k false = true → ops[k]? = some o → ∀ e ∈ o.after, Region.binds .any e = true → listed.getD e.on false = true
theorem reach_listed {listed : Array Bool} (hc : Closed ops listed) : ∀ (f i j : Nat) (o : Oper), ops[i]? = some o → (∀ e ∈ o.after, Region.binds .any e = true → listed.getD e.on false = true) → reachB ops f i j = true → listed.getD j false = true
  | 0, i, j, o, ho, hd, h => by simp [reachB] at h
  | f + 1, i, j, o, ho, hd, h => by
    unfold reachB at h
    rw [ho] at h
    obtain ⟨e, he, hb⟩ := Array.any_eq_true'.1 h
    simp only [Bool.and_eq_true, Bool.or_eq_true, beq_iff_eq] at hb
    rcases hb.2 with h1 | h1
    · rw [← h1]; exact hd e he hb.1
    · have h2 := hd e he hb.1
      cases ho' : ops[e.on]? with
      | none =>
        cases f with
        | zero => simp [reachB] at h1
        | succ f => unfold reachB at h1; rw [ho'] at h1; cases h1
      | some o' => exact reach_listed hc f e.on j o' ho' (hc e.on o' h2 ho') h1
/-- What is known of the frame: the slots that no listed operation writes. -/
def FrmL (ops : Array Oper) (listed : Array Bool) (a0 a : Act) : Prop :=
  a.defers = a0.defers ∧ a.tmps.size = a0.tmps.size ∧ ∀ k, (∀ (i : Nat) (o : Oper), listed.getD i true = true → ops[i]? = some o → o.dst ≠ some k) → a.tmps.getD k undef = a0.tmps.getD k undef

theorem puts_defers (a0 : Act) (V : Nat → Value) (k : Nat) : (puts ops a0 V k).defers = a0.defers := by
  induction k with
  | zero => rfl
  | succ k ih =>
    unfold puts
    split
    · rename_i o _; rw [← ih]; cases o.dst <;> rfl
    · exact ih
theorem puts_size (a0 : Act) (V : Nat → Value) (k : Nat) : (puts ops a0 V k).tmps.size = a0.tmps.size := by
  induction k with
  | zero => rfl
  | succ k ih =>
    unfold puts
    split
    · rename_i o _; rw [← ih]; cases o.dst <;> simp [Act.put]
    · exact ih
theorem puts_none (a0 : Act) (V : Nat → Value) (d k : Nat) (h : ∀ (i : Nat) (o : Oper), i < k → ops[i]? = some o → o.dst ≠ some d) : (puts ops a0 V k).tmps.getD d undef = a0.tmps.getD d undef := by
  induction k with
  | zero => rfl
  | succ k ih =>
    unfold puts
    split
    · rename_i o ho; rw [getD_put_ne _ _ _ _ (h k o (Nat.lt_succ_self _) ho)]; exact ih fun i o hi => h i o (by omega)
    · exact ih fun i o hi => h i o (by omega)
theorem puts_some (a0 : Act) (V : Nat → Value) (d k i : Nat) (o : Oper) (hi : i < k) (ho : ops[i]? = some o) (hd : o.dst = some d) (hlt : d < a0.tmps.size)
    (hu : ∀ (j : Nat) (y : Oper), ops[j]? = some y → y.dst = some d → i = j) : (puts ops a0 V k).tmps.getD d undef = V i := by
  induction k with
  | zero => omega
  | succ k ih =>
    unfold puts
    by_cases e : i = k
    · subst e
      rw [ho]
      simp only [hd]
      exact getD_put_same _ _ _ (by rw [puts_size]; exact hlt)
    · split
      · rename_i y hy
        rw [getD_put_ne _ _ _ _ (fun h => e (hu k y hy h))]
        exact ih (by omega)
      · exact ih (by omega)
theorem act_ext {a b : Act} (h1 : a.defers = b.defers) (h2 : a.tmps.size = b.tmps.size) (h3 : ∀ k, a.tmps.getD k undef = b.tmps.getD k undef) : a = b := by
  obtain ⟨t, d⟩ := a
  obtain ⟨t', d'⟩ := b
  simp only at h1 h2 h3
  subst h1
  congr 1
  apply Array.ext h2
  intro i hi hi'
  have := h3 i
  simp only [Array.getD_eq_getD_getElem?, Array.getElem?_eq_getElem hi, Array.getElem?_eq_getElem hi', Option.getD_some] at this
  exact this

/-- How many of the first m are still to come. -/
def cnt (listed : Array Bool) (m : Nat) : Nat := ((List.range m).filter fun j => !listed.getD j true).length
theorem cnt_set {listed : Array Bool} {i : Nat} (h : listed.getD i true = false) : ∀ m, i < m → cnt (listed.setIfInBounds i true) m + 1 = cnt listed m := by
  have hsame : ∀ m, m ≤ i → cnt (listed.setIfInBounds i true) m = cnt listed m := by
    intro m hm
    unfold cnt
    congr 1
    refine List.filter_congr fun j hj => ?_
    rw [getD_set_ne true (by have := List.mem_range.1 hj; omega)]
  intro m
  induction m with
  | zero => intro hi; omega
  | succ m ih =>
    intro hi
    have hil : i < listed.size := by
      rcases Nat.lt_or_ge i listed.size with h' | h'
      · exact h'
      · simp [Array.getElem?_eq_none h'] at h
    by_cases e : i = m
    · subst e
      have := hsame i (Nat.le_refl _)
      unfold cnt at this ⊢
      rw [List.range_succ, List.filter_append, List.filter_append, List.length_append, List.length_append, this]
      have h1 : (listed.setIfInBounds i true).getD i true = true := by simp [hil]
      have h2 : List.filter (fun j => !(listed.setIfInBounds i true).getD j true) [i] = [] := by rw [List.filter_cons, h1]; rfl
      have h3 : List.filter (fun j => !listed.getD j true) [i] = [i] := by rw [List.filter_cons, h]; rfl
      rw [h2, h3]
      rfl
    · have := ih (by omega)
      unfold cnt at this ⊢
      rw [List.range_succ, List.filter_append, List.filter_append, List.length_append, List.length_append]
      have h1 : (listed.setIfInBounds i true).getD m true = listed.getD m true := getD_set_ne true e
      have h2 : List.filter (fun j => !(listed.setIfInBounds i true).getD j true) [m] = List.filter (fun j => !listed.getD j true) [m] := by rw [List.filter_cons, List.filter_cons, h1]; rfl
      rw [h2]
      omega
theorem cnt_zero {listed : Array Bool} {m : Nat} (h : ∀ j, j < m → listed.getD j true = true) : cnt listed m = 0 := by
  unfold cnt
  rw [List.length_eq_zero_iff, List.filter_eq_nil_iff]
  intro j hj
  rw [h j (List.mem_range.1 hj)]
  simp

theorem region_prefix {id : Nat} (hm : P.follows .mixedOrders = true) (F : Nat → Value → World → Prop) (r T m : Nat) (a0 : Act) (w0 w : World) (b : Int)
    (hchk : drawChk ops a0.tmps.size = true) (htail : tailChk ops m = true)
    (hF : ∀ i v w w', F i v w → w.grownBy w' (some r) → F i v w')
    (hS : Stp r T w0 b w)
    (hob : ∀ (i : Nat) (o : Oper), i < m → ops[i]? = some o → ∀ (a : Act) (w : World) (b' : Int), b' ≤ b + m → Stp r T w0 b' w → Frm ops a0 a →
      (∀ e ∈ o.after, Region.binds .any e = true → ∀ oj d, ops[e.on]? = some oj → oj.dst = some d → F e.on (a.tmps.getD d undef) w) →
      o.wp P a w (Leaves F r T i o a w b') Q)
    (hend : ∀ (V : Nat → Value) (w : World), (∀ (i : Nat) (x : Oper) (d : Nat), i < m → ops[i]? = some x → x.dst = some d → F i (V i) w) → Stp r T w0 (b + m) w →
      wpList P ops Q (ops.toList.drop m) (puts ops a0 V m) w) :
    (Code.region id ops true).wp P Q a0 w := by
  have hback : ∀ (i : Nat) (o : Oper), ops[i]? = some o → ∀ e ∈ o.after, Region.binds .any e = true → e.on < i := fun i o ho => (drawChk_spec hchk i o ho).1
  have hdst : ∀ (i j : Nat) (x y : Oper) (d : Nat), ops[i]? = some x → ops[j]? = some y → x.dst = some d → y.dst = some d → i = j := fun i j x y d hx hy hxd hyd => ((drawChk_spec hchk i x hx).2.2 d hxd).2 j y hy hyd
  have hlt : ∀ (i : Nat) (x : Oper) (d : Nat), ops[i]? = some x → x.dst = some d → d < a0.tmps.size := fun i x d hx hd => ((drawChk_spec hchk i x hx).2.2 d hd).1
  have hguard : ∀ (i : Nat) (x : Oper), ops[i]? = some x → x.guard = none := fun i x hx => (drawChk_spec hchk i x hx).2.1
  unfold tailChk at htail
  rw [Bool.and_eq_true, decide_eq_true_eq] at htail
  obtain ⟨hms, hl⟩ := htail
  have hwait : ∀ (listed : Array Bool) (i : Nat) (o : Oper), Closed ops listed → m ≤ i → ops[i]? = some o → (∀ e ∈ o.after, Region.binds .any e = true → listed.getD e.on false = true) → ∀ j, j < i → listed.getD j false = true := by
    intro listed i o hc hi ho hd j hj
    have hi' : i < ops.size := (Array.getElem?_eq_some_iff.1 ho).1
    have h1 := List.all_eq_true.1 hl i (List.mem_range.2 hi')
    simp only [Bool.or_eq_true, decide_eq_true_eq] at h1
    rcases h1 with h1 | h1
    · omega
    · exact reach_listed hc ops.size i j o ho hd (List.all_eq_true.1 h1 j (List.mem_range.2 hj))
  have hrest : ∀ k, wpOps P ops Q (List.range' k (ops.size - k)) = wpList P ops Q (ops.toList.drop k) := by
    intro k
    have h1 := wpOps_eq_wpList (P := P) (ops := ops) (Q := Q) (ops.toList.drop k) k (fun j => by simp)
    rw [← h1]
    simp
  -- what holds when all the first m are listed
  have hgo : ∀ (listed : Array Bool) (a : Act) (w' : World), (∀ j, j < m → listed.getD j true = true) → (∀ j, m ≤ j → j < ops.size → listed.getD j true = false) → FrmL ops listed a0 a →
      (∀ (i : Nat) (o : Oper) (d : Nat), listed.getD i false = true → ops[i]? = some o → o.dst = some d → F i (a.tmps.getD d undef) w') → listed.size = ops.size → Stp r T w0 (b + m) w' →
      wpOps P ops Q (List.range' m (ops.size - m)) a w' := by
    intro listed a w' h1 h2 hfr hv hsz hS'
    rw [hrest]
    let V : Nat → Value := fun i => match ops[i]? with
      | some o => match o.dst with
        | some d => a.tmps.getD d undef
        | none => undef
      | none => undef
    have hV : ∀ (i : Nat) (o : Oper) (d : Nat), ops[i]? = some o → o.dst = some d → V i = a.tmps.getD d undef := fun i o d ho hd => by simp only [V, ho, hd]
    have ha : a = puts ops a0 V m := by
      refine act_ext (hfr.1.trans (puts_defers a0 V m).symm) (hfr.2.1.trans (puts_size a0 V m).symm) fun d => ?_
      by_cases hd : ∃ (i : Nat) (o : Oper), i < m ∧ ops[i]? = some o ∧ o.dst = some d
      · obtain ⟨i, o, hi, ho, hod⟩ := hd
        rw [puts_some a0 V d m i o hi ho hod (hlt i o d ho hod) (fun j y hy hyd => hdst i j o y d ho hy hod hyd), hV i o d ho hod]
      · rw [puts_none a0 V d m (fun i o hi ho hod => hd ⟨i, o, hi, ho, hod⟩)]
        refine hfr.2.2 d fun i o hli ho hod => ?_
        have hi' : i < ops.size := (Array.getElem?_eq_some_iff.1 ho).1
        by_cases him : i < m
        · exact hd ⟨i, o, him, ho, hod⟩
        · have := h2 i (by omega) hi'
          rw [hli] at this; cases this
    rw [ha]
    refine hend V w' (fun i x d hi hx hd => ?_) hS'
    rw [hV i x d hx hd]
    refine hv i x d ?_ hx hd
    have h3 := h1 i hi
    have hi' : i < listed.size := by omega
    simp [hi'] at h3 ⊢
    exact h3
  have htf : ∀ (listed : Array Bool) (i : Nat), listed.size = ops.size → i < ops.size → (listed.getD i true = false ↔ listed.getD i false = false) := by
    intro listed i h1 h2
    have : i < listed.size := by omega
    simp [this]
  refine wp_region_any hm ?_
  refine wpAny_inv (fun listed a w' => listed.size = ops.size ∧ Closed ops listed ∧ ((∃ i, m ≤ i ∧ i ≤ ops.size ∧ (∀ j, j < i → listed.getD j true = true) ∧ (∀ j, i ≤ j → j < ops.size → listed.getD j true = false) ∧ wpOps P ops Q (List.range' i (ops.size - i)) a w') ∨
      ((∃ j, j < m ∧ listed.getD j true = false) ∧ (∀ j, m ≤ j → j < ops.size → listed.getD j true = false) ∧ FrmL ops listed a0 a ∧
      (∀ (i : Nat) (o : Oper) (d : Nat), listed.getD i false = true → ops[i]? = some o → o.dst = some d → F i (a.tmps.getD d undef) w') ∧
      ∃ c : Nat, c + cnt listed m ≤ m ∧ Stp r T w0 (b + c) w'))) ?_ ?_ _ _ _ _ ?_ ?_
  · intro listed a w' i ⟨hsz, hcl, hI⟩ hi
    obtain ⟨hun, o, ho, hdep⟩ := mem_ready.1 hi
    have him : i < ops.size := (Array.getElem?_eq_some_iff.1 ho).1
    have hdep' : ∀ j, m ≤ i → j < i → listed.getD j false = true := fun j h1 h2 => hwait listed i o hcl h1 ho hdep j h2
    have hcl' : Closed ops (listed.setIfInBounds i true) := by
      intro k y hk hy e he hb
      have hke : listed.getD e.on false = true := by
        by_cases e' : k = i
        · subst e'
          rw [ho] at hy
          injection hy with hy
          subst hy
          exact hdep e he hb
        · rw [getD_set_ne false (Ne.symm e')] at hk
          exact hcl k y hk hy e he hb
      exact getD_set_true hke
    rcases hI with ⟨i0, h0, h00, h1, h2, h3⟩ | ⟨⟨j0, hj0, hj0f⟩, h2, hfr, hv, c, hc, hS'⟩
    · have hii : i0 ≤ i := by
        rcases Nat.lt_or_ge i i0 with h | h
        · have := h1 i h; rw [hun] at this; cases this
        · exact h
      obtain rfl : i0 = i := by
        rcases Nat.lt_or_ge i0 i with h | h
        · have := hdep' i0 (by omega) h
          have h4 := (htf listed i0 hsz (by omega)).1 (h2 i0 (Nat.le_refl _) (by omega))
          rw [this] at h4; cases h4
        · omega
      rw [show ops.size - i0 = (ops.size - (i0 + 1)) + 1 by omega, List.range'_succ, wpOps_cons] at h3
      refine wpOp_mono ?_ h3
      intro a' w'' h4
      refine ⟨by simpa using hsz, hcl', .inl ⟨i0 + 1, by omega, by omega, fun j hj => ?_, fun j hj hj' => ?_, h4⟩⟩
      · by_cases e : j = i0
        · subst e
          have : j < listed.size := by omega
          simp [this]
        · rw [getD_set_ne true (Ne.symm e)]; exact h1 j (by omega)
      · rw [getD_set_ne true (by omega)]; exact h2 j (by omega) hj'
    · have hilt : i < m := by
        rcases Nat.lt_or_ge i m with h | h
        · exact h
        · have := hdep' j0 h (by omega)
          have h4 := (htf listed j0 hsz (by omega)).1 hj0f
          rw [this] at h4; cases h4
      unfold wpOp
      have hw : Region.wanted o (yielded ops a.tmps) = true := by simp [Region.wanted, hguard i o ho]
      simp only [ho, hw, if_true]
      left
      have hcs := cnt_set hun m hilt
      have hfr0 : Frm ops a0 a := ⟨hfr.1, hfr.2.1, fun k hk => hfr.2.2 k fun j y _ hy => hk j y hy⟩
      refine Oper.wp_mono ?_ (hob i o hilt ho a w' (b + c) (by omega) hS' hfr0 (fun e he hb oj d hoj hd => hv e.on oj d (hdep e he hb) hoj hd))
      rintro a' w'' ⟨v, rfl, hFv, hg, hrd⟩
      have hsz' : (listed.setIfInBounds i true).size = ops.size := by simpa using hsz
      have hfr' : FrmL ops (listed.setIfInBounds i true) a0 (a.put o.dst v) := by
        refine ⟨?_, ?_, fun k hk => ?_⟩
        · rw [← hfr.1]; cases o.dst <;> rfl
        · rw [← hfr.2.1]; cases o.dst <;> simp [Act.put]
        · have hil : i < listed.size := by omega
          rw [getD_put_ne _ _ _ _ (hk i o (by simp [hil]) ho)]
          refine hfr.2.2 k fun j y hj hy => hk j y ?_ hy
          by_cases e : j = i
          · subst e; simp [hil]
          · rw [getD_set_ne true (Ne.symm e)]; exact hj
      have hv' : ∀ (j : Nat) (oj : Oper) (d : Nat), (listed.setIfInBounds i true).getD j false = true → ops[j]? = some oj → oj.dst = some d → F j ((a.put o.dst v).tmps.getD d undef) w'' := by
        intro j oj d hj hoj hd
        by_cases e : j = i
        · subst e
          rw [ho] at hoj
          injection hoj with hoj
          subst hoj
          rw [hd, getD_put_same _ _ _ (by rw [hfr.2.1]; exact hlt j o d ho hd)]
          exact hFv d hd
        · rw [getD_put_ne _ _ _ _ (fun h => e (hdst j i oj o d hoj ho hd h))]
          refine hF j _ w' w'' (hv j oj d ?_ hoj hd) hg
          rwa [getD_set_ne false (Ne.symm e)] at hj
      have hS'' : Stp r T w0 (b + ((c + 1 : Nat) : Int)) w'' := by
        have h5 : (b + ((c + 1 : Nat) : Int)) = b + c + 1 := by omega
        rw [h5]; exact ⟨grown_trans hS'.grown hg, hrd⟩
      have h2' : ∀ j, m ≤ j → j < ops.size → (listed.setIfInBounds i true).getD j true = false := fun j hj hj' => by
        rw [getD_set_ne true (by omega)]; exact h2 j hj hj'
      refine ⟨hsz', hcl', ?_⟩
      by_cases hall : ∀ j, j < m → (listed.setIfInBounds i true).getD j true = true
      · exact .inl ⟨m, Nat.le_refl _, hms, hall, h2', hgo _ _ _ hall h2' hfr' hv' hsz' (hS''.le (by omega))⟩
      · have ⟨j1, hj1⟩ := Classical.not_forall.1 hall
        have ⟨hj2, hj3⟩ := Classical.not_imp.1 hj1
        exact .inr ⟨⟨j1, hj2, by simpa using hj3⟩, h2', hfr', hv', c + 1, by omega, hS''⟩
  · intro listed a w' ⟨hsz, _, hI⟩ hr
    have hall := unlisted_ready hback hr
    rcases hI with ⟨i0, h0, h00, h1, h2, h3⟩ | ⟨⟨j0, hj0, hj0f⟩, _⟩
    · obtain rfl : i0 = ops.size := by
        rcases Nat.lt_or_ge i0 ops.size with h | h
        · have h4 := hall i0 h
          rw [h2 i0 (Nat.le_refl _) h] at h4; cases h4
        · omega
      simpa [wpOps] using h3
    · have := hall j0 (by omega)
      rw [hj0f] at this; cases this
  · unfold left
    simp
  · refine ⟨by simp, fun k o hk => ?_, ?_⟩
    · exfalso
      rcases Nat.lt_or_ge k ops.size with h | h
      · simp [h] at hk
      · simp [h] at hk
    have hfl : ∀ j, j < ops.size → (Array.replicate ops.size false).getD j true = false := fun j hj => by simp [hj]
    have hfr : FrmL ops (Array.replicate ops.size false) a0 a0 := ⟨rfl, rfl, fun _ _ => rfl⟩
    have hv0 : ∀ (w' : World) (i : Nat) (o : Oper) (d : Nat), (Array.replicate ops.size false).getD i false = true → ops[i]? = some o → o.dst = some d → F i (a0.tmps.getD d undef) w' := by
      intro w' i o d hi
      exfalso
      rcases Nat.lt_or_ge i ops.size with h | h
      · simp [h] at hi
      · simp [h] at hi
    by_cases hm0 : m = 0
    · subst hm0
      exact .inl ⟨0, Nat.le_refl _, Nat.zero_le _, fun j hj => absurd hj (Nat.not_lt_zero _), fun j _ hj => hfl j hj, hgo _ _ _ (fun j hj => absurd hj (Nat.not_lt_zero _)) (fun j _ hj => hfl j hj) hfr (hv0 _) (by simp) (by simpa using hS.drew)⟩
    · refine .inr ⟨⟨0, by omega, hfl 0 (by omega)⟩, fun j _ hj => hfl j hj, hfr, hv0 _, 0, ?_, by simpa using hS.drew⟩
      unfold cnt
      have := List.length_filter_le (fun j => !(Array.replicate ops.size false).getD j true) (List.range m)
      simp at this ⊢
      exact this
end
end Go.Proofs.YtckgdlgdipfgmaaGreat

namespace Go.Proofs.YtckgdlgdipfgmaaGreat
set_option linter.unusedVariables false
set_option linter.unusedSimpArgs false
open Go.RowKit

section
variable {P : Program} {ops : Array Oper} {Q : Exit → Act → World → Prop}

def relChk (ops : Array Oper) (N : Nat) : Bool :=
  (List.range ops.size).all fun i => match ops[i]? with
    | none => true
    | some o => o.after.all (fun e => !Region.binds .any e || decide (e.on < i)) && (match o.dst with
      | none => true
      | some d => decide (d < N) && (List.range ops.size).all fun j => match ops[j]? with
        | none => true
        | some y => !(y.dst == some d) || decide (j = i))
theorem relChk_spec {ops : Array Oper} {N : Nat} (h : relChk ops N = true) (i : Nat) (o : Oper) (ho : ops[i]? = some o) :
    (∀ e ∈ o.after, Region.binds .any e = true → e.on < i) ∧ ∀ d, o.dst = some d → d < N ∧ ∀ j y, ops[j]? = some y → y.dst = some d → i = j := by
  have hi : i < ops.size := (Array.getElem?_eq_some_iff.1 ho).1
  unfold relChk at h
  rw [List.all_eq_true] at h
  have h1 := h i (List.mem_range.2 hi)
  rw [ho] at h1
  simp only [Bool.and_eq_true] at h1
  obtain ⟨h2, h4⟩ := h1
  refine ⟨fun e he hbe => ?_, fun d hd => ?_⟩
  · have := Array.all_eq_true_iff_forall_mem.1 h2 e he
    simpa [hbe] using this
  · rw [hd] at h4
    simp only [Bool.and_eq_true, decide_eq_true_eq] at h4
    refine ⟨h4.1, fun j y hy hyd => ?_⟩
    have hj : j < ops.size := (Array.getElem?_eq_some_iff.1 hy).1
    have h5 := List.all_eq_true.1 h4.2 j (List.mem_range.2 hj)
    rw [hy] at h5
    simp [hyd] at h5
    exact h5.symm

/-- A guarded operation is wanted, its guard's slot known. -/
theorem wanted_of {o : Oper} {a : Act} {k x : Nat} {b : Bool} {y : Oper} (hg : o.guard = some (k, b)) (hk : ops[k]? = some y) (hd : y.dst = some x) (h : a.tmps.getD x undef = .bool b) : Region.wanted o (yielded ops a.tmps) = true := by
  have hx : a.tmps[x]? = some (.bool b) := by
    simp only [Array.getD_eq_getD_getElem?] at h
    cases e : a.tmps[x]? with
    | none => rw [e] at h; simp [undef] at h
    | some v => rw [e] at h; simp at h; rw [h]
  simp [Region.wanted, yielded, hg, hk, hd, hx]
/-- Of the slots: what none of the first m operations writes is as it was. -/
def FrmM (ops : Array Oper) (m : Nat) (a0 a : Act) : Prop := a.defers = a0.defers ∧ a.tmps.size = a0.tmps.size ∧ ∀ k, (∀ (i : Nat) (o : Oper), i < m → ops[i]? = some o → o.dst ≠ some k) → a.tmps.getD k undef = a0.tmps.getD k undef
def drawFrM (ops : Array Oper) (m k : Nat) : Bool := (List.range m).all fun i => match ops[i]? with
  | none => true
  | some o => !(o.dst == some k)
theorem drawFrM_spec {ops : Array Oper} {m k : Nat} (h : drawFrM ops m k = true) (i : Nat) (o : Oper) (hi : i < m) (ho : ops[i]? = some o) : o.dst ≠ some k := by
  have := List.all_eq_true.1 h i (List.mem_range.2 hi)
  rw [ho] at this
  intro e
  simp [e] at this
/-- What an operation leaves. -/
def LeavesR (F : Nat → Value → World → Prop) (R : World → World → Prop) (J : Nat → World → Prop) (i : Nat) (o : Oper) (a : Act) (w : World) (c : Nat) (a' : Act) (w' : World) : Prop :=
  ∃ v, a' = a.put o.dst v ∧ (∀ d, o.dst = some d → F i v w') ∧ R w w' ∧ J (c + 1) w'
theorem LeavesR.val {F : Nat → Value → World → Prop} {R : World → World → Prop} {J : Nat → World → Prop} {i c : Nat} {o : Oper} {a : Act} {w w' : World} {v : Value} (hF : F i v w') (hR : R w w') (hJ : J (c + 1) w') : LeavesR F R J i o a w c (a.put o.dst v) w' := ⟨v, rfl, fun _ _ => hF, hR, hJ⟩
theorem region_rel {id : Nat} (hm : P.follows .mixedOrders = true) (F : Nat → Value → World → Prop) (R : World → World → Prop) (J : Nat → World → Prop) (m : Nat) (a0 : Act) (w : World)
    (hchk : relChk ops a0.tmps.size = true) (htail : tailChk ops m = true)
    (hF : ∀ i v w w', F i v w → R w w' → F i v w') (hR : ∀ w, R w w) (hmono : ∀ c c' w, c ≤ c' → J c w → J c' w)
    (hS : J 0 w.drew)
    (hob : ∀ (i : Nat) (o : Oper), i < m → ops[i]? = some o → ∀ (a : Act) (w : World) (c : Nat), c ≤ m → J c w → FrmM ops m a0 a →
      (∀ e ∈ o.after, Region.binds .any e = true → ∀ oj d, ops[e.on]? = some oj → oj.dst = some d → F e.on (a.tmps.getD d undef) w) →
      (Region.wanted o (yielded ops a.tmps) = true ∧ o.wp P a w (LeavesR F R J i o a w c) Q) ∨
      (Region.wanted o (yielded ops a.tmps) = false ∧ F i undef w))
    (hend : ∀ (V : Nat → Value) (w : World), (∀ (i : Nat) (x : Oper) (d : Nat), i < m → ops[i]? = some x → x.dst = some d → F i (V i) w) → J m w →
      wpList P ops Q (ops.toList.drop m) (puts ops a0 V m) w) :
    (Code.region id ops true).wp P Q a0 w := by
  have hback : ∀ (i : Nat) (o : Oper), ops[i]? = some o → ∀ e ∈ o.after, Region.binds .any e = true → e.on < i := fun i o ho => (relChk_spec hchk i o ho).1
  have hdst : ∀ (i j : Nat) (x y : Oper) (d : Nat), ops[i]? = some x → ops[j]? = some y → x.dst = some d → y.dst = some d → i = j := fun i j x y d hx hy hxd hyd => ((relChk_spec hchk i x hx).2 d hxd).2 j y hy hyd
  have hlt : ∀ (i : Nat) (x : Oper) (d : Nat), ops[i]? = some x → x.dst = some d → d < a0.tmps.size := fun i x d hx hd => ((relChk_spec hchk i x hx).2 d hd).1
  unfold tailChk at htail
  rw [Bool.and_eq_true, decide_eq_true_eq] at htail
  obtain ⟨hms, hl⟩ := htail
  have hwait : ∀ (listed : Array Bool) (i : Nat) (o : Oper), Closed ops listed → m ≤ i → ops[i]? = some o → (∀ e ∈ o.after, Region.binds .any e = true → listed.getD e.on false = true) → ∀ j, j < i → listed.getD j false = true := by
    intro listed i o hc hi ho hd j hj
    have hi' : i < ops.size := (Array.getElem?_eq_some_iff.1 ho).1
    have h1 := List.all_eq_true.1 hl i (List.mem_range.2 hi')
    simp only [Bool.or_eq_true, decide_eq_true_eq] at h1
    rcases h1 with h1 | h1
    · omega
    · exact reach_listed hc ops.size i j o ho hd (List.all_eq_true.1 h1 j (List.mem_range.2 hj))
  have hrest : ∀ k, wpOps P ops Q (List.range' k (ops.size - k)) = wpList P ops Q (ops.toList.drop k) := by
    intro k
    have h1 := wpOps_eq_wpList (P := P) (ops := ops) (Q := Q) (ops.toList.drop k) k (fun j => by simp)
    rw [← h1]
    simp
  -- what holds when all the first m are listed
  have hgo : ∀ (listed : Array Bool) (a : Act) (w' : World), (∀ j, j < m → listed.getD j true = true) → (∀ j, m ≤ j → j < ops.size → listed.getD j true = false) → FrmL ops listed a0 a →
      (∀ (i : Nat) (o : Oper) (d : Nat), listed.getD i false = true → ops[i]? = some o → o.dst = some d → F i (a.tmps.getD d undef) w') → listed.size = ops.size → J m w' →
      wpOps P ops Q (List.range' m (ops.size - m)) a w' := by
    intro listed a w' h1 h2 hfr hv hsz hS'
    rw [hrest]
    let V : Nat → Value := fun i => match ops[i]? with
      | some o => match o.dst with
        | some d => a.tmps.getD d undef
        | none => undef
      | none => undef
    have hV : ∀ (i : Nat) (o : Oper) (d : Nat), ops[i]? = some o → o.dst = some d → V i = a.tmps.getD d undef := fun i o d ho hd => by simp only [V, ho, hd]
    have ha : a = puts ops a0 V m := by
      refine act_ext (hfr.1.trans (puts_defers a0 V m).symm) (hfr.2.1.trans (puts_size a0 V m).symm) fun d => ?_
      by_cases hd : ∃ (i : Nat) (o : Oper), i < m ∧ ops[i]? = some o ∧ o.dst = some d
      · obtain ⟨i, o, hi, ho, hod⟩ := hd
        rw [puts_some a0 V d m i o hi ho hod (hlt i o d ho hod) (fun j y hy hyd => hdst i j o y d ho hy hod hyd), hV i o d ho hod]
      · rw [puts_none a0 V d m (fun i o hi ho hod => hd ⟨i, o, hi, ho, hod⟩)]
        refine hfr.2.2 d fun i o hli ho hod => ?_
        have hi' : i < ops.size := (Array.getElem?_eq_some_iff.1 ho).1
        by_cases him : i < m
        · exact hd ⟨i, o, him, ho, hod⟩
        · have := h2 i (by omega) hi'
          rw [hli] at this; cases this
    rw [ha]
    refine hend V w' (fun i x d hi hx hd => ?_) hS'
    rw [hV i x d hx hd]
    refine hv i x d ?_ hx hd
    have h3 := h1 i hi
    have hi' : i < listed.size := by omega
    simp [hi'] at h3 ⊢
    exact h3
  have htf : ∀ (listed : Array Bool) (i : Nat), listed.size = ops.size → i < ops.size → (listed.getD i true = false ↔ listed.getD i false = false) := by
    intro listed i h1 h2
    have : i < listed.size := by omega
    simp [this]
  refine wp_region_any hm ?_
  refine wpAny_inv (fun listed a w' => listed.size = ops.size ∧ Closed ops listed ∧ ((∃ i, m ≤ i ∧ i ≤ ops.size ∧ (∀ j, j < i → listed.getD j true = true) ∧ (∀ j, i ≤ j → j < ops.size → listed.getD j true = false) ∧ wpOps P ops Q (List.range' i (ops.size - i)) a w') ∨
      ((∃ j, j < m ∧ listed.getD j true = false) ∧ (∀ j, m ≤ j → j < ops.size → listed.getD j true = false) ∧ FrmL ops listed a0 a ∧
      (∀ (i : Nat) (o : Oper) (d : Nat), listed.getD i false = true → ops[i]? = some o → o.dst = some d → F i (a.tmps.getD d undef) w') ∧
      ∃ c : Nat, c + cnt listed m ≤ m ∧ J c w'))) ?_ ?_ _ _ _ _ ?_ ?_
  · intro listed a w' i ⟨hsz, hcl, hI⟩ hi
    obtain ⟨hun, o, ho, hdep⟩ := mem_ready.1 hi
    have him : i < ops.size := (Array.getElem?_eq_some_iff.1 ho).1
    have hdep' : ∀ j, m ≤ i → j < i → listed.getD j false = true := fun j h1 h2 => hwait listed i o hcl h1 ho hdep j h2
    have hcl' : Closed ops (listed.setIfInBounds i true) := by
      intro k y hk hy e he hb
      have hke : listed.getD e.on false = true := by
        by_cases e' : k = i
        · subst e'
          rw [ho] at hy
          injection hy with hy
          subst hy
          exact hdep e he hb
        · rw [getD_set_ne false (Ne.symm e')] at hk
          exact hcl k y hk hy e he hb
      exact getD_set_true hke
    rcases hI with ⟨i0, h0, h00, h1, h2, h3⟩ | ⟨⟨j0, hj0, hj0f⟩, h2, hfr, hv, c, hc, hS'⟩
    · have hii : i0 ≤ i := by
        rcases Nat.lt_or_ge i i0 with h | h
        · have := h1 i h; rw [hun] at this; cases this
        · exact h
      obtain rfl : i0 = i := by
        rcases Nat.lt_or_ge i0 i with h | h
        · have := hdep' i0 (by omega) h
          have h4 := (htf listed i0 hsz (by omega)).1 (h2 i0 (Nat.le_refl _) (by omega))
          rw [this] at h4; cases h4
        · omega
      rw [show ops.size - i0 = (ops.size - (i0 + 1)) + 1 by omega, List.range'_succ, wpOps_cons] at h3
      refine wpOp_mono ?_ h3
      intro a' w'' h4
      refine ⟨by simpa using hsz, hcl', .inl ⟨i0 + 1, by omega, by omega, fun j hj => ?_, fun j hj hj' => ?_, h4⟩⟩
      · by_cases e : j = i0
        · subst e
          have : j < listed.size := by omega
          simp [this]
        · rw [getD_set_ne true (Ne.symm e)]; exact h1 j (by omega)
      · rw [getD_set_ne true (by omega)]; exact h2 j (by omega) hj'
    · have hilt : i < m := by
        rcases Nat.lt_or_ge i m with h | h
        · exact h
        · have := hdep' j0 h (by omega)
          have h4 := (htf listed j0 hsz (by omega)).1 hj0f
          rw [this] at h4; cases h4
      have hcs := cnt_set hun m hilt
      have hfr0 : FrmM ops m a0 a := ⟨hfr.1, hfr.2.1, fun k hk => hfr.2.2 k fun j y hj hy => hk j y (by
        rcases Nat.lt_or_ge j m with h | h
        · exact h
        · have h5 : j < ops.size := (Array.getElem?_eq_some_iff.1 hy).1
          have h6 := h2 j h h5
          have h7 : j < listed.size := by omega
          simp [h7] at h6 hj
          rw [hj] at h6; cases h6) hy⟩
      have hpost : ∀ (v : Value) (w'' : World), (∀ d, o.dst = some d → F i v w'') → R w' w'' → J (c + 1) w'' →
          (listed.setIfInBounds i true).size = ops.size ∧ Closed ops (listed.setIfInBounds i true) ∧ ((∃ i', m ≤ i' ∧ i' ≤ ops.size ∧ (∀ j, j < i' → (listed.setIfInBounds i true).getD j true = true) ∧ (∀ j, i' ≤ j → j < ops.size → (listed.setIfInBounds i true).getD j true = false) ∧ wpOps P ops Q (List.range' i' (ops.size - i')) (a.put o.dst v) w'') ∨
            ((∃ j, j < m ∧ (listed.setIfInBounds i true).getD j true = false) ∧ (∀ j, m ≤ j → j < ops.size → (listed.setIfInBounds i true).getD j true = false) ∧ FrmL ops (listed.setIfInBounds i true) a0 (a.put o.dst v) ∧
            (∀ (i' : Nat) (o' : Oper) (d : Nat), (listed.setIfInBounds i true).getD i' false = true → ops[i']? = some o' → o'.dst = some d → F i' ((a.put o.dst v).tmps.getD d undef) w'') ∧
            ∃ c : Nat, c + cnt (listed.setIfInBounds i true) m ≤ m ∧ J c w'')) := by
        intro v w'' hFv hg hJ
        have hsz' : (listed.setIfInBounds i true).size = ops.size := by simpa using hsz
        have hfr' : FrmL ops (listed.setIfInBounds i true) a0 (a.put o.dst v) := by
          refine ⟨?_, ?_, fun k hk => ?_⟩
          · rw [← hfr.1]; cases o.dst <;> rfl
          · rw [← hfr.2.1]; cases o.dst <;> simp [Act.put]
          · have hil : i < listed.size := by omega
            rw [getD_put_ne _ _ _ _ (hk i o (by simp [hil]) ho)]
            refine hfr.2.2 k fun j y hj hy => hk j y ?_ hy
            by_cases e : j = i
            · subst e; simp [hil]
            · rw [getD_set_ne true (Ne.symm e)]; exact hj
        have hv' : ∀ (j : Nat) (oj : Oper) (d : Nat), (listed.setIfInBounds i true).getD j false = true → ops[j]? = some oj → oj.dst = some d → F j ((a.put o.dst v).tmps.getD d undef) w'' := by
          intro j oj d hj hoj hd
          by_cases e : j = i
          · subst e
            rw [ho] at hoj
            injection hoj with hoj
            subst hoj
            rw [hd, getD_put_same _ _ _ (by rw [hfr.2.1]; exact hlt j o d ho hd)]
            exact hFv d hd
          · rw [getD_put_ne _ _ _ _ (fun h => e (hdst j i oj o d hoj ho hd h))]
            refine hF j _ w' w'' (hv j oj d ?_ hoj hd) hg
            rwa [getD_set_ne false (Ne.symm e)] at hj
        have h2' : ∀ j, m ≤ j → j < ops.size → (listed.setIfInBounds i true).getD j true = false := fun j hj hj' => by
          rw [getD_set_ne true (by omega)]; exact h2 j hj hj'
        refine ⟨hsz', hcl', ?_⟩
        by_cases hall : ∀ j, j < m → (listed.setIfInBounds i true).getD j true = true
        · exact .inl ⟨m, Nat.le_refl _, hms, hall, h2', hgo _ _ _ hall h2' hfr' hv' hsz' (hmono _ _ _ (by omega) hJ)⟩
        · have ⟨j1, hj1⟩ := Classical.not_forall.1 hall
          have ⟨hj2, hj3⟩ := Classical.not_imp.1 hj1
          exact .inr ⟨⟨j1, hj2, by simpa using hj3⟩, h2', hfr', hv', c + 1, by omega, hJ⟩
      unfold wpOp
      simp only [ho]
      rcases hob i o hilt ho a w' c (by omega) hS' hfr0 (fun e he hb oj d hoj hd => hv e.on oj d (hdep e he hb) hoj hd) with ⟨hw, hwp⟩ | ⟨hw, hFu⟩
      · simp only [hw, if_true]
        left
        refine Oper.wp_mono ?_ hwp
        rintro a' w'' ⟨v, rfl, hFv, hg, hJ⟩
        exact hpost v w'' hFv hg hJ
      · simp only [hw, Bool.false_eq_true, if_false]
        exact hpost undef w' (fun _ _ => hFu) (hR w') (hmono _ _ _ (Nat.le_succ c) hS')
  · intro listed a w' ⟨hsz, _, hI⟩ hr
    have hall := unlisted_ready hback hr
    rcases hI with ⟨i0, h0, h00, h1, h2, h3⟩ | ⟨⟨j0, hj0, hj0f⟩, _⟩
    · obtain rfl : i0 = ops.size := by
        rcases Nat.lt_or_ge i0 ops.size with h | h
        · have h4 := hall i0 h
          rw [h2 i0 (Nat.le_refl _) h] at h4; cases h4
        · omega
      simpa [wpOps] using h3
    · have := hall j0 (by omega)
      rw [hj0f] at this; cases this
  · unfold left
    simp
  · refine ⟨by simp, fun k o hk => ?_, ?_⟩
    · exfalso
      rcases Nat.lt_or_ge k ops.size with h | h
      · simp [h] at hk
      · simp [h] at hk
    have hfl : ∀ j, j < ops.size → (Array.replicate ops.size false).getD j true = false := fun j hj => by simp [hj]
    have hfr : FrmL ops (Array.replicate ops.size false) a0 a0 := ⟨rfl, rfl, fun _ _ => rfl⟩
    have hv0 : ∀ (w' : World) (i : Nat) (o : Oper) (d : Nat), (Array.replicate ops.size false).getD i false = true → ops[i]? = some o → o.dst = some d → F i (a0.tmps.getD d undef) w' := by
      intro w' i o d hi
      exfalso
      rcases Nat.lt_or_ge i ops.size with h | h
      · simp [h] at hi
      · simp [h] at hi
    by_cases hm0 : m = 0
    · subst hm0
      exact .inl ⟨0, Nat.le_refl _, Nat.zero_le _, fun j hj => absurd hj (Nat.not_lt_zero _), fun j _ hj => hfl j hj, hgo _ _ _ (fun j hj => absurd hj (Nat.not_lt_zero _)) (fun j _ hj => hfl j hj) hfr (hv0 _) (by simp) hS⟩
    · refine .inr ⟨⟨0, by omega, hfl 0 (by omega)⟩, fun j _ hj => hfl j hj, hfr, hv0 _, 0, ?_, hS⟩
      unfold cnt
      have := List.length_filter_le (fun j => !(Array.replicate ops.size false).getD j true) (List.range m)
      simp at this ⊢
      exact this
end
end Go.Proofs.YtckgdlgdipfgmaaGreat
