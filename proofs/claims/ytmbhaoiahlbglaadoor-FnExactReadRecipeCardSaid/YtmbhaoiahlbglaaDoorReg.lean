/- A rule for regions that draw their order: each operation of the first m yields a value with a fact that later operations keep; the rest follows in the text's order. No conditions beyond those each lemma states. -/
import Derived.Test.YtmbhaoiahlbglaaDoorBase
import Derived.Orders
namespace Go.Proofs.YtmbhaoiahlbglaaDoor
open Go.RowKit
set_option linter.unusedVariables false
set_option linter.unusedSimpArgs false

section
variable {P : Program} {ops : Array Oper} {Q : Exit → Act → World → Prop} {md : Region.Mode}

theorem mem_ready {listed : Array Bool} {i : Nat} : i ∈ Region.ready md ops listed ↔ i < ops.size ∧ listed.getD i true = false ∧
    ∃ o, ops[i]? = some o ∧ ∀ e ∈ o.after, Region.binds md e = true → listed.getD e.on false = true := by
  unfold Region.ready
  simp only [List.mem_filter, List.mem_range, Bool.and_eq_true, Bool.not_eq_true']
  constructor
  · rintro ⟨h1, h2, h3⟩
    refine ⟨h1, h2, ops[i], by simp [h1], ?_⟩
    simp only [h1, Array.getElem?_eq_getElem, Option.map_some, Option.getD_some, Array.all_eq_true_iff_forall_mem, Bool.or_eq_true, Bool.not_eq_true'] at h3
    intro e he hb
    rcases h3 e he with h | h
    · rw [hb] at h; cases h
    · exact h
  · rintro ⟨h1, h2, o, ho, h3⟩
    refine ⟨h1, h2, ?_⟩
    simp only [ho, Option.map_some, Option.getD_some, Array.all_eq_true_iff_forall_mem, Bool.or_eq_true, Bool.not_eq_true']
    intro e he
    cases hb : Region.binds md e
    · exact .inl rfl
    · exact .inr (h3 e he hb)

/-- Does operation k wait for j, directly or through others? -/
def waits (ops : Array Oper) : Nat → Nat → Nat → Bool
  | 0, _, _ => false
  | n + 1, k, j => match ops[k]? with
    | some o => o.after.toList.any fun e => Region.binds .any e && (e.on == j || waits ops n e.on j)
    | none => false
/-- What waits for nothing that is not listed. -/
def Closed (ops : Array Oper) (listed : Array Bool) : Prop := ∀ i o, ops[i]? = some o → listed.getD i false = true → ∀ e ∈ o.after, Region.binds .any e = true → listed.getD e.on false = true
theorem waits_listed {listed : Array Bool} (hc : Closed ops listed) : ∀ n k j, (∀ o, ops[k]? = some o → ∀ e ∈ o.after, Region.binds .any e = true → listed.getD e.on false = true) → waits ops n k j = true → listed.getD j false = true
  | 0, _, _, _, h => by simp [waits] at h
  | n + 1, k, j, hd, h => by
    unfold waits at h
    cases ho : ops[k]? with
    | none => simp [ho] at h
    | some o =>
      simp only [ho, List.any_eq_true, Bool.and_eq_true, Bool.or_eq_true, beq_iff_eq] at h
      obtain ⟨e, he, hb, h⟩ := h
      have he' : e ∈ o.after := by simpa using he
      have hl := hd o ho e he' hb
      rcases h with h | h
      · rw [← h]; exact hl
      · exact waits_listed hc n e.on j (fun o' ho' => hc e.on o' ho' hl) h
theorem Closed.set_ {listed : Array Bool} (hc : Closed ops listed) {i : Nat} (hs : listed.size = ops.size) (hi : ∀ o, ops[i]? = some o → ∀ e ∈ o.after, Region.binds .any e = true → listed.getD e.on false = true) : Closed ops (listed.setIfInBounds i true) := by
  have key : ∀ j, listed.getD j false = true → (listed.setIfInBounds i true).getD j false = true := fun j hj => by
    by_cases hji : j = i
    · subst hji
      have : j < listed.size := by
        rcases Nat.lt_or_ge j listed.size with h | h
        · exact h
        · simp [Nat.not_lt.2 h] at hj
      simp [this]
    · simp only [Array.getD_eq_getD_getElem?, Array.getElem?_setIfInBounds_ne (Ne.symm hji)] at hj ⊢
      exact hj
  intro k o ho hk e he hb
  by_cases hki : k = i
  · subst hki
    exact key _ (hi o ho e he hb)
  · refine key _ (hc k o ho ?_ e he hb)
    simp only [Array.getD_eq_getD_getElem?, Array.getElem?_setIfInBounds_ne (Ne.symm hki)] at hk ⊢
    exact hk

/-- The first m operations wait for earlier ones alone, are unguarded and fill slots of their own; each later one waits for all before it. -/
def shapely (ops : Array Oper) (m : Nat) : Bool :=
  decide (m ≤ ops.size) &&
  ((List.range m).all fun i => match ops[i]? with
    | some o => o.guard.isNone && o.dst.isSome && o.after.all (fun e => !Region.binds .any e || decide (e.on < i))
    | none => false) &&
  ((List.range ops.size).all fun k => decide (k < m) || (match ops[k]? with
    | some o => (List.range k).all (fun j => waits ops (k + 1) k j) && o.after.all (fun e => !Region.binds .any e || decide (e.on < k))
    | none => false)) &&
  decide (((List.range m).filterMap fun i => (ops[i]?).bind (·.dst)).Nodup)

theorem shapely_le {m : Nat} (h : shapely ops m = true) : m ≤ ops.size := by
  simp only [shapely, Bool.and_eq_true, decide_eq_true_eq] at h
  exact h.1.1.1
theorem shapely_head {m i : Nat} (h : shapely ops m = true) (hi : i < m) : ∃ o d, ops[i]? = some o ∧ o.guard = none ∧ o.dst = some d ∧ ∀ e ∈ o.after, Region.binds .any e = true → e.on < i := by
  simp only [shapely, Bool.and_eq_true, List.all_eq_true, List.mem_range] at h
  have := h.1.1.2 i hi
  cases ho : ops[i]? with
  | none => simp [ho] at this
  | some o =>
    simp only [ho, Bool.and_eq_true, Option.isNone_iff_eq_none, Array.all_eq_true_iff_forall_mem, Bool.or_eq_true, Bool.not_eq_true', decide_eq_true_eq] at this
    obtain ⟨⟨h1, h2⟩, h3⟩ := this
    obtain ⟨d, hd⟩ := Option.isSome_iff_exists.1 h2
    refine ⟨o, d, rfl, h1, hd, fun e he hb => ?_⟩
    rcases h3 e he with h | h
    · rw [hb] at h; cases h
    · exact h
theorem shapely_tail {m k : Nat} (h : shapely ops m = true) (hk : m ≤ k) (hs : k < ops.size) : ∃ o, ops[k]? = some o ∧ (∀ j, j < k → waits ops (k + 1) k j = true) ∧ ∀ e ∈ o.after, Region.binds .any e = true → e.on < k := by
  simp only [shapely, Bool.and_eq_true, List.all_eq_true, List.mem_range] at h
  have := h.1.2 k hs
  rw [Bool.or_eq_true] at this
  rcases this with this | this
  · simp at this; omega
  cases ho : ops[k]? with
  | none => simp [ho] at this
  | some o =>
    simp only [ho, Bool.and_eq_true, List.all_eq_true, List.mem_range, Array.all_eq_true_iff_forall_mem, Bool.or_eq_true, Bool.not_eq_true', decide_eq_true_eq] at this
    refine ⟨o, rfl, fun j hj => ?_, fun e he hb => ?_⟩
    · exact this.1 j hj
    · rcases this.2 e he with h | h
      · rw [hb] at h; cases h
      · exact h
/-- What operation j left in its slot. -/
def slotOf (ops : Array Oper) (j : Nat) (a : Act) : Value := match (ops[j]?).bind (·.dst) with
  | some d => a.tmps.getD d undef
  | none => undef
/-- The frame behind the first m operations, their values given. -/
def putAll (ops : Array Oper) (vs : Nat → Value) : Nat → Act → Act
  | 0, a => a
  | m + 1, a => (putAll ops vs m a).put ((ops[m]?).bind (·.dst)) (vs m)

theorem wpOp_some {i : Nat} {o : Oper} {K : Act → World → Prop} {a : Act} {w : World} (ho : ops[i]? = some o) (hg : o.guard = none) (h : o.wp P a w K Q) : wpOp P ops Q i K a w := by
  unfold wpOp
  simp only [ho, Region.wanted, hg, if_true]
  exact .inl h

/-- The rest of a region, each operation waiting for all before it: in the text's order. -/
theorem wpAny_tail {m : Nat} (hs : shapely ops m = true) : ∀ (n k : Nat) (listed : Array Bool) (a : Act) (w : World), m ≤ k → k + n = ops.size →
    (∀ j, j < k → listed.getD j false = true) → (∀ j, k ≤ j → j < ops.size → listed.getD j true = false) → listed.size = ops.size → Closed ops listed →
    wpList P ops Q (ops.toList.drop k) a w → wpAny P .any ops Q n listed a w := by
  intro n
  induction n with
  | zero =>
    intro k listed a w hmk hk h1 h2 hsz hcl h
    refine ⟨?_, ?_⟩
    · apply List.eq_nil_iff_forall_not_mem.2
      intro i hi
      obtain ⟨hi1, hi2, -⟩ := mem_ready.1 hi
      have := h1 i (by omega)
      simp [hi1, hsz] at hi2 this
      rw [hi2] at this
      cases this
    · rw [List.drop_of_length_le (by simp; omega)] at h
      exact h
  | succ n ih =>
    intro k listed a w hmk hk h1 h2 hsz hcl h
    obtain ⟨o, ho, hall, hlt⟩ := shapely_tail hs hmk (show k < ops.size by omega)
    have hd : ops.toList.drop k = o :: ops.toList.drop (k + 1) := by
      have hkl : k < ops.toList.length := by simp; omega
      rw [List.drop_eq_getElem_cons hkl]
      congr 1
      rw [Array.getElem?_eq_getElem (by omega)] at ho
      simpa using ho
    refine ⟨fun hnil => ?_, fun i hi => ?_⟩
    · exfalso
      have : k ∈ Region.ready .any ops listed := mem_ready.2 ⟨by omega, h2 k (Nat.le_refl _) (by omega), o, ho, fun e he hb => h1 _ (hlt e he hb)⟩
      rw [hnil] at this
      cases this
    · obtain ⟨hi1, hi2, oi, hoi, hdep⟩ := mem_ready.1 hi
      have hik : i = k := by
        rcases Nat.lt_trichotomy i k with h' | h' | h'
        · have := h1 i h'
          simp [hi1, hsz] at hi2 this
          rw [hi2] at this
          cases this
        · exact h'
        · obtain ⟨o', ho', hall', -⟩ := shapely_tail hs (show m ≤ i by omega) hi1
          have := waits_listed hcl _ i k (fun o2 ho2 => by
            rw [hoi] at ho2
            injection ho2 with ho2
            subst ho2
            exact hdep) (hall' k h')
          have h3 := h2 k (Nat.le_refl _) (by omega)
          simp [hsz, show k < ops.size by omega] at this h3
          rw [h3] at this
          cases this
      subst hik
      rw [hd] at h
      have hK : ∀ a w, wpList P ops Q (ops.toList.drop (i + 1)) a w → wpAny P .any ops Q n (listed.setIfInBounds i true) a w := fun a w hh =>
        ih (i + 1) _ a w (by omega) (by omega)
          (fun j hj => by
            by_cases hji : j = i
            · subst hji; simp [hsz, hi1]
            · have := h1 j (by omega)
              simp only [Array.getD_eq_getD_getElem?, Array.getElem?_setIfInBounds_ne (Ne.symm hji)] at this ⊢
              exact this)
          (fun j hj hjs => by
            have := h2 j (by omega) hjs
            simp only [Array.getD_eq_getD_getElem?, Array.getElem?_setIfInBounds_ne (show i ≠ j by omega)] at this ⊢
            exact this)
          (by simp [hsz]) (hcl.set_ hsz (fun o2 ho2 => by
            rw [hoi] at ho2
            injection ho2 with ho2
            subst ho2
            exact hdep)) hh
      unfold wpList at h
      unfold wpOp
      simp only [ho]
      split
      · rename_i hw
        rw [if_pos hw] at h
        exact h.imp (Oper.wp_mono hK) id
      · rename_i hw
        rw [if_neg hw] at h
        exact hK _ _ h
end

section
variable {P : Program} {ops : Array Oper} {Q : Exit → Act → World → Prop}

theorem shapely_nodup {m i j : Nat} (h : shapely ops m = true) (hi : i < m) (hj : j < m) {d : Tmp} (h1 : (ops[i]?).bind (·.dst) = some d) (h2 : (ops[j]?).bind (·.dst) = some d) : i = j := by
  simp only [shapely, Bool.and_eq_true, decide_eq_true_eq] at h
  have hn := h.2
  clear h
  induction m with
  | zero => omega
  | succ m ih =>
    rw [List.range_succ, List.filterMap_append, List.nodup_append] at hn
    obtain ⟨n1, n2, n3⟩ := hn
    have key : ∀ k, k < m → (ops[k]?).bind (·.dst) = some d → (ops[m]?).bind (·.dst) = some d → False := fun k hk e1 e2 => by
      have := n3 d (List.mem_filterMap.2 ⟨k, by simp [hk], e1⟩) d (List.mem_filterMap.2 ⟨m, by simp, e2⟩)
      exact this rfl
    rcases Nat.lt_or_ge i m with a1 | a1 <;> rcases Nat.lt_or_ge j m with a2 | a2
    · exact ih a1 a2 n1
    · exact (key i a1 h1 ((show j = m by omega) ▸ h2)).elim
    · exact (key j a2 h2 ((show i = m by omega) ▸ h1)).elim
    · omega

theorem putAll_is (vs : Nat → Value) (a a0 : Act) (hsz : a.tmps.size = a0.tmps.size) (hd : a.defers = a0.defers) (hv : ∀ j, vs j = slotOf ops j a) (m : Nat)
    (same : ∀ t, (∀ j, j < m → (ops[j]?).bind (·.dst) ≠ some t) → a.tmps[t]? = a0.tmps[t]?) : putAll ops vs m a0 = a := by
  have main : ∀ n, (putAll ops vs n a0).tmps.size = a0.tmps.size ∧ (putAll ops vs n a0).defers = a0.defers ∧
      ∀ t, ((∃ j, j < n ∧ (ops[j]?).bind (·.dst) = some t) → (putAll ops vs n a0).tmps[t]? = a.tmps[t]?) ∧ ((∀ j, j < n → (ops[j]?).bind (·.dst) ≠ some t) → (putAll ops vs n a0).tmps[t]? = a0.tmps[t]?) := by
    intro n
    induction n with
    | zero => exact ⟨rfl, rfl, fun t => ⟨fun ⟨j, hj, _⟩ => absurd hj (by omega), fun _ => rfl⟩⟩
    | succ n ih =>
      obtain ⟨i1, i2, i3⟩ := ih
      cases hq : (ops[n]?).bind (·.dst) with
      | none =>
        refine ⟨by simpa [putAll, hq, Act.put] using i1, by simpa [putAll, hq, Act.put] using i2, fun t => ?_⟩
        have e : putAll ops vs (n + 1) a0 = putAll ops vs n a0 := by simp [putAll, hq, Act.put]
        rw [e]
        refine ⟨fun ⟨j, hj, hjt⟩ => (i3 t).1 ⟨j, ?_, hjt⟩, fun h => (i3 t).2 fun j hj => h j (by omega)⟩
        rcases Nat.lt_or_ge j n with h' | h'
        · exact h'
        · obtain rfl : j = n := by omega
          rw [hq] at hjt
          cases hjt
      | some d =>
        have e : (putAll ops vs (n + 1) a0).tmps = (putAll ops vs n a0).tmps.setIfInBounds d (vs n) := by simp [putAll, hq, Act.put]
        have e2 : (putAll ops vs (n + 1) a0).defers = (putAll ops vs n a0).defers := by simp [putAll, hq, Act.put]
        refine ⟨by rw [e]; simpa using i1, by rw [e2, i2], fun t => ?_⟩
        rw [e]
        by_cases hdt : d = t
        · subst hdt
          refine ⟨fun _ => ?_, fun h => absurd hq (h n (by omega))⟩
          rw [Array.getElem?_setIfInBounds_self, i1, ← hsz]
          split
          · rename_i hlt
            rw [hv n]
            simp [slotOf, hq, hlt]
          · rename_i hge
            simp at hge
            rw [Array.getElem?_eq_none hge]
        · rw [Array.getElem?_setIfInBounds_ne hdt]
          refine ⟨fun ⟨j, hj, hjt⟩ => (i3 t).1 ⟨j, ?_, hjt⟩, fun h => (i3 t).2 fun j hj => h j (by omega)⟩
          rcases Nat.lt_or_ge j n with h' | h'
          · exact h'
          · obtain rfl : j = n := by omega
            rw [hq] at hjt
            injection hjt with hjt
            exact absurd hjt hdt
  obtain ⟨i1, i2, i3⟩ := main m
  have ht : (putAll ops vs m a0).tmps = a.tmps := by
    apply Array.ext_getElem?
    intro t
    by_cases h : ∃ j, j < m ∧ (ops[j]?).bind (·.dst) = some t
    · exact (i3 t).1 h
    · have h' : ∀ j, j < m → (ops[j]?).bind (·.dst) ≠ some t := fun j hj e => h ⟨j, hj, e⟩
      rw [(i3 t).2 h', same t h']
  cases hp : putAll ops vs m a0 with
  | mk t1 d1 =>
    cases a with
    | mk t2 d2 =>
      rw [hp] at ht i2
      simp only at ht i2 hd
      rw [ht, i2, hd]

theorem count_flip (p : Nat → Bool) (i : Nat) (hp : p i = true) : ∀ n, ((List.range n).filter fun j => if j = i then false else p j).length + (if i < n then 1 else 0) = ((List.range n).filter p).length
  | 0 => by simp
  | n + 1 => by
    have ih := count_flip p i hp n
    rw [List.range_succ, List.filter_append, List.filter_append, List.length_append, List.length_append]
    by_cases hni : n = i
    · subst hni
      rw [if_neg (Nat.lt_irrefl _)] at ih
      simp only [List.filter_cons, List.filter_nil, if_true, hp, Nat.lt_succ_self]
      simp only [Bool.false_eq_true, if_false, List.length_nil, List.length_cons]
      omega
    · simp only [List.filter_cons, List.filter_nil, if_neg hni]
      have : (i < n + 1) = (i < n) := by apply propext; omega
      simp only [this]
      omega
/-- What holds of the frame while the first m operations come up. -/
structure Fr (ops : Array Oper) (m : Nat) (a0 a : Act) : Prop where
  size : a.tmps.size = a0.tmps.size
  defers : a.defers = a0.defers
  same : ∀ t, (∀ j, j < m → (ops[j]?).bind (·.dst) ≠ some t) → a.tmps[t]? = a0.tmps[t]?
theorem Fr.eval {m : Nat} {a0 a : Act} (h : Fr ops m a0 a) {t : Tmp} (ht : ((List.range m).all fun j => (ops[j]?).bind (·.dst) != some t) = true) : a.eval (.tmp t) = a0.eval (.tmp t) := by
  have := h.same t (fun j hj => by
    have := List.all_eq_true.1 ht j (by simpa using hj)
    simpa using this)
  simp only [Act.eval, Array.getD_eq_getD_getElem?, this]

theorem wpAny_head {m : Nat} (hs : shapely ops m = true) {a0 : Act} (hD : ∀ j, j < m → ∀ d, (ops[j]?).bind (·.dst) = some d → d < a0.tmps.size)
    (F : Nat → Value → World → Prop) (G : World → Prop)
    (hF : ∀ j, j < m → ∀ v w w', Below w.heap.size w w' → F j v w → F j v w') (hG : ∀ w w', Below w.heap.size w w' → G w → G w')
    (step : ∀ i o, i < m → ops[i]? = some o → ∀ a w, Fr ops m a0 a → G w → (∀ e ∈ o.after, Region.binds .any e = true → F e.on (slotOf ops e.on a) w) →
      o.wp P a w (fun a' w' => ∃ v, a' = a.put o.dst v ∧ Below w.heap.size w w' ∧ F i v w') Q)
    (last : ∀ vs w, G w → (∀ j, j < m → F j (vs j) w) → wpList P ops Q (ops.toList.drop m) (putAll ops vs m a0) w) :
    ∀ (u : Nat) (listed : Array Bool) (a : Act) (w : World), ((List.range m).filter fun j => !listed.getD j false).length = u →
      listed.size = ops.size → (∀ k, m ≤ k → k < ops.size → listed.getD k true = false) → Closed ops listed → Fr ops m a0 a → G w → (∀ j, j < m → listed.getD j false = true → F j (slotOf ops j a) w) →
      wpAny P .any ops Q (u + (ops.size - m)) listed a w := by
  have hle := shapely_le hs
  intro u
  induction u with
  | zero =>
    intro listed a w hu hsz htail hcl hfr hg hf
    have hall : ∀ j, j < m → listed.getD j false = true := fun j hj => by
      rcases hb : listed.getD j false with _ | _
      · exfalso
        have : j ∈ (List.range m).filter fun j => !listed.getD j false := by simp only [List.mem_filter, List.mem_range, hb]; exact ⟨hj, rfl⟩
        rw [List.length_eq_zero_iff.1 hu] at this
        cases this
      · rfl
    rw [Nat.zero_add]
    refine wpAny_tail hs (ops.size - m) m listed a w (Nat.le_refl _) (by omega) hall htail hsz hcl ?_
    have := last (fun j => slotOf ops j a) w hg (fun j hj => hf j hj (hall j hj))
    rw [putAll_is (ops := ops) (fun j => slotOf ops j a) a a0 hfr.size hfr.defers (fun _ => rfl) m hfr.same] at this
    exact this
  | succ u ih =>
    intro listed a w hu hsz htail hcl hfr hg hf
    have hex : ∃ j, j < m ∧ listed.getD j false = false ∧ ∀ k, k < j → listed.getD k false = true := by
      have hne : (List.range m).filter (fun j => !listed.getD j false) ≠ [] := fun e => by rw [e] at hu; cases hu
      obtain ⟨j, hj⟩ := List.exists_mem_of_ne_nil _ hne
      simp only [List.mem_filter, List.mem_range, Bool.not_eq_true'] at hj
      have : ∀ n j, j ≤ n → j < m → listed.getD j false = false → ∃ j, j < m ∧ listed.getD j false = false ∧ ∀ k, k < j → listed.getD k false = true := by
        intro n
        induction n with
        | zero => intro j h0 h1 h2; exact ⟨j, h1, h2, fun k hk => by omega⟩
        | succ n ihn =>
          intro j h0 h1 h2
          by_cases hc : ∃ k, k < j ∧ listed.getD k false = false
          · obtain ⟨k, hk, hkb⟩ := hc
            exact ihn k (by omega) (by omega) hkb
          · exact ⟨j, h1, h2, fun k hk => by
              rcases hb : listed.getD k false with _ | _
              · exact absurd ⟨k, hk, hb⟩ hc
              · rfl⟩
      exact this j j (Nat.le_refl _) hj.1 hj.2
    obtain ⟨j0, hj0, hb0, hbelow⟩ := hex
    have b0' : listed.getD j0 true = false := by
      have : j0 < listed.size := by omega
      simp [this] at hb0 ⊢
      exact hb0
    rw [show u + 1 + (ops.size - m) = (u + (ops.size - m)) + 1 by omega]
    refine ⟨fun hnil => ?_, fun i hi => ?_⟩
    · exfalso
      obtain ⟨o, d, ho, hgd, hdst, hlt⟩ := shapely_head hs hj0
      have : j0 ∈ Region.ready .any ops listed := mem_ready.2 ⟨by omega, b0', o, ho, fun e he hb => hbelow _ (hlt e he hb)⟩
      rw [hnil] at this
      cases this
    · obtain ⟨hi1, hi2, o, ho, hdep⟩ := mem_ready.1 hi
      have him : i < m := by
        rcases Nat.lt_or_ge i m with h | h
        · exact h
        · exfalso
          obtain ⟨o', ho', hall', -⟩ := shapely_tail hs h hi1
          rw [ho] at ho'
          injection ho' with ho'
          subst ho'
          have := waits_listed hcl _ i j0 (fun o2 ho2 => by
            rw [ho] at ho2
            injection ho2 with ho2
            subst ho2
            exact hdep) (hall' j0 (by omega))
          rw [hb0] at this
          cases this
      obtain ⟨o', d, ho', hgd, hdst, hlt⟩ := shapely_head hs him
      rw [ho] at ho'
      injection ho' with ho'
      subst ho'
      have hbd : (ops[i]?).bind (·.dst) = some d := by simp [ho, hdst]
      have hdz : d < a.tmps.size := by rw [hfr.size]; exact hD i him d hbd
      refine wpOp_some ho hgd (Oper.wp_mono ?_ (step i o him ho a w hfr hg fun e he hb => hf _ (Nat.lt_trans (hlt e he hb) him) (hdep e he hb)))
      rintro a' w' ⟨v, rfl, hbel, hfi⟩
      have hne : ∀ j, j < m → j ≠ i → slotOf ops j (a.put o.dst v) = slotOf ops j a := fun j hj hji => by
        cases hq : (ops[j]?).bind (·.dst) with
        | none => simp [slotOf, hq]
        | some dj =>
          have : dj ≠ d := fun e => hji (shapely_nodup hs hj him hq (e ▸ hbd))
          simp [slotOf, hq, hdst, Act.put, Array.getElem?_setIfInBounds_ne (Ne.symm this)]
      have hown : slotOf ops i (a.put o.dst v) = v := by simp [slotOf, ho, hdst, Act.put, hdz]
      refine ih _ _ _ ?_ (by simp [hsz]) ?_ (hcl.set_ hsz (fun o2 ho2 => by
            rw [ho] at ho2
            injection ho2 with ho2
            subst ho2
            exact hdep)) ⟨by simp [hdst, Act.put, hfr.size], by simp [hdst, Act.put, hfr.defers], fun t ht => ?_⟩ (hG _ _ hbel hg) ?_
      · have hset : ∀ j, (listed.setIfInBounds i true).getD j false = if j = i then true else listed.getD j false := fun j => by
          by_cases hji : j = i
          · subst hji; simp [hsz, hi1]
          · simp [hji, Array.getElem?_setIfInBounds_ne (Ne.symm hji)]
        have hb : listed.getD i false = false := by
          have : i < listed.size := by omega
          simp [this] at hi2 ⊢
          exact hi2
        have := count_flip (fun j => !listed.getD j false) i (by rw [hb]; rfl) m
        rw [if_pos him, hu] at this
        have e : (fun j => !(listed.setIfInBounds i true).getD j false) = fun j => if j = i then false else !listed.getD j false := by
          funext j
          rw [hset j]
          split <;> rfl
        rw [e]
        omega
      · intro k hk hks
        have := htail k hk hks
        simp only [Array.getD_eq_getD_getElem?, Array.getElem?_setIfInBounds_ne (show i ≠ k by omega)] at this ⊢
        exact this
      · have h1 : d ≠ t := fun e => ht i him (e ▸ hbd)
        simp only [hdst, Act.put, Array.getElem?_setIfInBounds_ne h1]
        exact hfr.same t ht
      · intro j hj hjl
        by_cases hji : j = i
        · subst hji
          rw [hown]
          exact hfi
        · rw [hne j hj hji]
          refine hF j hj _ _ _ hbel (hf j hj ?_)
          simp only [Array.getD_eq_getD_getElem?, Array.getElem?_setIfInBounds_ne (Ne.symm hji)] at hjl ⊢
          exact hjl

/-- THE RULE. -/
theorem region_mono {id m : Nat} {a0 : Act} {w0 : World} (hm : P.follows .mixedOrders = true) (hs : shapely ops m = true)
    (hD : ((List.range m).all fun j => match (ops[j]?).bind (·.dst) with | some d => decide (d < a0.tmps.size) | none => true) = true)
    (F : Nat → Value → World → Prop) (G : World → Prop)
    (hF : ∀ j, j < m → ∀ v w w', Below w.heap.size w w' → F j v w → F j v w') (hG : ∀ w w', Below w.heap.size w w' → G w → G w') (h0 : G w0.drew)
    (step : ∀ i o, i < m → ops[i]? = some o → ∀ a w, Fr ops m a0 a → G w → (∀ e ∈ o.after, Region.binds .any e = true → F e.on (slotOf ops e.on a) w) →
      o.wp P a w (fun a' w' => ∃ v, a' = a.put o.dst v ∧ Below w.heap.size w w' ∧ F i v w') Q)
    (last : ∀ vs w, G w → (∀ j, j < m → F j (vs j) w) → wpList P ops Q (ops.toList.drop m) (putAll ops vs m a0) w) :
    (Code.region id ops true).wp P Q a0 w0 := by
  have hle := shapely_le hs
  refine wp_region_any hm ?_
  have hlen : ((List.range m).filter fun j => !(Array.replicate ops.size false).getD j false).length = m := by
    rw [List.filter_eq_self.2]
    · simp
    · intro j hj
      simp only [Array.getD_eq_getD_getElem?, Array.getElem?_replicate]
      split <;> rfl
  have := wpAny_head hs (fun j hj d hd => by
      have := List.all_eq_true.1 hD j (by simpa using hj)
      simpa [hd] using this) F G hF hG step last m (Array.replicate ops.size false) a0 w0.drew hlen (by simp)
    (fun k h1 h2 => by simp [h2]) (fun i o ho h => by
      exfalso
      simp only [Array.getD_eq_getD_getElem?, Array.getElem?_replicate] at h
      split at h <;> simp at h) ⟨rfl, rfl, fun _ _ => rfl⟩ h0 (fun j hj h => by
      exfalso
      simp only [Array.getD_eq_getD_getElem?, Array.getElem?_replicate] at h
      split at h <;> simp at h)
  rw [show m + (ops.size - m) = ops.size by omega] at this
  exact this
end

/-! One operation, as the rule asks it. -/
section
variable {P : Program} {Q : Exit → Act → World → Prop} {o : Oper} {a : Act} {w : World}
/-- One operation yields a value with the fact F; the world has at most grown. -/
def St (P : Program) (o : Oper) (a : Act) (w : World) (Q : Exit → Act → World → Prop) (F : Value → World → Prop) : Prop :=
  o.wp P a w (fun a' w' => ∃ v, a' = a.put o.dst v ∧ Below w.heap.size w w' ∧ F v w') Q

theorem st_load_row {F : Value → World → Prop} {ty : TypeId} {x : Operand} (ho : o.op = .load ty x) {g : Nat} (hx : a.eval x = .pointer (some ⟨g, 0, none⟩)) {t : TypeId} {cs : Array Value} {d : TypeDesc}
    (hg : Blk w g t cs) (hu : P.underlying ty = some d) (hd : (match d with | .struct _ | .array _ _ => true | _ => false) = true) (hi : (P.info? ty).map (·.size) = some cs.size) (hF : F (.agg cs) w) : St P o a w Q F :=
  wp_load_row ty x ho g hx t cs (0, 0) d hg hu hd hi ⟨_, rfl, Below.refl _ _, hF⟩
theorem st_move {F : Value → World → Prop} {x : Operand} (ho : o.op = .move x ∨ o.op = .assign x) {v : Value} (hx : a.eval x = v) (hF : F v w) : St P o a w Q F := by
  unfold St Oper.wp execOp
  rcases ho with ho | ho <;> (simp only [ho, Sem.run_pure, Oper.upon, hx]; exact ⟨_, rfl, Below.refl _ _, hF⟩)
theorem st_alloc {F : Value → World → Prop} {ty : TypeId} (ho : o.op = .alloc ty) {z : Value} (hz : ∀ w, (zeroValue ty).run P w = .ok z w)
    (hF : F (.pointer (some ⟨w.heap.size, 0, none⟩)) (w.alloc (.cells z.cells ty))) : St P o a w Q F := by
  have hr : (execOp a.eval o).run P w = .ok (.value (.pointer (some ⟨w.heap.size, 0, none⟩))) (w.alloc (.cells z.cells ty)) := by
    unfold execOp
    simp [ho, Instr.alloc, Sem.run_bind, hz w, newVar, newRow, newObj, Sem.run, Result.andThen]
  unfold St Oper.wp
  rw [hr]
  exact ⟨_, rfl, (Below.refl _ _).alloc (Nat.le_refl _) _, hF⟩
theorem st_call {F : Value → World → Prop} {f : FuncId} {xs : Array Operand} {ats : Array TypeId} (ho : o.op = .call { callee := .value (.func f), args := xs, argTypes := ats }) {args : Array Value}
    (hcf : ∀ args w, (callFunc f args).run P w = .ok (.enter f args) w) (hx : xs.map a.eval = args) {R : Ending → World → Prop} (h : Calls P f args w R)
    (hR : ∀ e w', R e w' → ∃ v, e = .returned v ∧ Below w.heap.size w w' ∧ F v w') : St P o a w Q F := by
  have hr : (execOp a.eval o).run P w = .ok (.enter f args) w := by
    obtain ⟨dst, op, ty, pos, after, guard⟩ := o
    simp only at ho
    subst ho
    rw [execOp_call_go]
    simp only [List.append_nil, Array.empty_append, Array.append_empty, hx, hcf]
  unfold St Oper.wp
  rw [hr]
  exact h.mono fun e w' he => by
    obtain ⟨v, rfl, hb, hf⟩ := hR e w' he
    exact ⟨v, rfl, hb, hf⟩
theorem st_call1 {F : Value → World → Prop} {f : FuncId} {x1 : Operand} {ats : Array TypeId} (ho : o.op = .call { callee := .value (.func f), args := #[x1], argTypes := ats }) {v1 : Value}
    (hcf : ∀ args w, (callFunc f args).run P w = .ok (.enter f args) w) (h1 : a.eval x1 = v1) {R : Ending → World → Prop} (h : Calls P f #[v1] w R)
    (hR : ∀ e w', R e w' → ∃ v, e = .returned v ∧ Below w.heap.size w w' ∧ F v w') : St P o a w Q F := st_call ho hcf (by simp [h1]) h hR
theorem st_call2 {F : Value → World → Prop} {f : FuncId} {x1 x2 : Operand} {ats : Array TypeId} (ho : o.op = .call { callee := .value (.func f), args := #[x1, x2], argTypes := ats }) {v1 v2 : Value}
    (hcf : ∀ args w, (callFunc f args).run P w = .ok (.enter f args) w) (h1 : a.eval x1 = v1) (h2 : a.eval x2 = v2) {R : Ending → World → Prop} (h : Calls P f #[v1, v2] w R)
    (hR : ∀ e w', R e w' → ∃ v, e = .returned v ∧ Below w.heap.size w w' ∧ F v w') : St P o a w Q F := st_call ho hcf (by simp [h1, h2]) h hR
theorem st_call3 {F : Value → World → Prop} {f : FuncId} {x1 x2 x3 : Operand} {ats : Array TypeId} (ho : o.op = .call { callee := .value (.func f), args := #[x1, x2, x3], argTypes := ats }) {v1 v2 v3 : Value}
    (hcf : ∀ args w, (callFunc f args).run P w = .ok (.enter f args) w) (h1 : a.eval x1 = v1) (h2 : a.eval x2 = v2) (h3 : a.eval x3 = v3) {R : Ending → World → Prop} (h : Calls P f #[v1, v2, v3] w R)
    (hR : ∀ e w', R e w' → ∃ v, e = .returned v ∧ Below w.heap.size w w' ∧ F v w') : St P o a w Q F := st_call ho hcf (by simp [h1, h2, h3]) h hR
theorem st_not {F : Value → World → Prop} {ty : TypeId} {x : Operand} (ho : o.op = .unOp .not ty x) {b : Bool} (hx : a.eval x = .bool b) (hF : F (.bool !b) w) : St P o a w Q F := by
  have hr : (execOp a.eval o).run P w = .ok (.value (.bool !b)) w := by
    unfold execOp
    simp [ho, hx, Op.unary, Sem.run_bind]
  unfold St Oper.wp
  rw [hr]
  exact ⟨_, rfl, Below.refl _ _, hF⟩
end

end Go.Proofs.YtmbhaoiahlbglaaDoor
