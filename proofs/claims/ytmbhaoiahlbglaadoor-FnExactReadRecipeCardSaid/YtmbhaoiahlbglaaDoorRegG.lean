/- The rule for regions that draw their order, where operations may have guards. No conditions beyond those each lemma states. -/
import Derived.Test.YtmbhaoiahlbglaaDoorRegM
namespace Go.Proofs.YtmbhaoiahlbglaaDoor
open Go.RowKit
set_option linter.unusedVariables false
set_option linter.unusedSimpArgs false

section
variable {P : Program} {ops : Array Oper} {Q : Exit → Act → World → Prop} {md : Region.Mode}
/-- The first m operations wait for earlier ones alone, are unguarded and fill slots of their own; each later one waits for all before it. -/
def shapelyG (ops : Array Oper) (m : Nat) : Bool :=
  decide (m ≤ ops.size) &&
  ((List.range m).all fun i => match ops[i]? with
    | some o => o.dst.isSome && o.after.all (fun e => !Region.binds .any e || decide (e.on < i))
    | none => false) &&
  ((List.range ops.size).all fun k => decide (k < m) || (match ops[k]? with
    | some o => (List.range k).all (fun j => waits ops (k + 1) k j) && o.after.all (fun e => !Region.binds .any e || decide (e.on < k))
    | none => false)) &&
  decide (((List.range m).filterMap fun i => (ops[i]?).bind (·.dst)).Nodup)

theorem shapely_leG {m : Nat} (h : shapelyG ops m = true) : m ≤ ops.size := by
  simp only [shapelyG, Bool.and_eq_true, decide_eq_true_eq] at h
  exact h.1.1.1
theorem shapely_headG {m i : Nat} (h : shapelyG ops m = true) (hi : i < m) : ∃ o d, ops[i]? = some o ∧ o.dst = some d ∧ ∀ e ∈ o.after, Region.binds .any e = true → e.on < i := by
  simp only [shapelyG, Bool.and_eq_true, List.all_eq_true, List.mem_range] at h
  have := h.1.1.2 i hi
  cases ho : ops[i]? with
  | none => simp [ho] at this
  | some o =>
    simp only [ho, Bool.and_eq_true, Array.all_eq_true_iff_forall_mem, Bool.or_eq_true, Bool.not_eq_true', decide_eq_true_eq] at this
    obtain ⟨h2, h3⟩ := this
    obtain ⟨d, hd⟩ := Option.isSome_iff_exists.1 h2
    refine ⟨o, d, rfl, hd, fun e he hb => ?_⟩
    rcases h3 e he with h | h
    · rw [hb] at h; cases h
    · exact h
theorem shapely_tailG {m k : Nat} (h : shapelyG ops m = true) (hk : m ≤ k) (hs : k < ops.size) : ∃ o, ops[k]? = some o ∧ (∀ j, j < k → waits ops (k + 1) k j = true) ∧ ∀ e ∈ o.after, Region.binds .any e = true → e.on < k := by
  simp only [shapelyG, Bool.and_eq_true, List.all_eq_true, List.mem_range] at h
  have := h.1.2 k hs
  rw [Bool.or_eq_true] at this
  rcases this with this | this
  · simp at this; omega
  cases ho : ops[k]? with
  | none => simp [ho] at this
  | some o =>
    simp only [ho, Bool.and_eq_true, List.all_eq_true, List.mem_range, Array.all_eq_true_iff_forall_mem, Bool.or_eq_true, Bool.not_eq_true', decide_eq_true_eq] at this
    refine ⟨o, rfl, fun j hj => ?_, fun e he hb => ?_⟩
    · exact this.1 j hj
    · rcases this.2 e he with h | h
      · rw [hb] at h; cases h
      · exact h
/-- The rest of a region, each operation waiting for all before it: in the text's order. -/
theorem wpAny_tailG {m : Nat} (hs : shapelyG ops m = true) : ∀ (n k : Nat) (listed : Array Bool) (a : Act) (w : World), m ≤ k → k + n = ops.size →
    (∀ j, j < k → listed.getD j false = true) → (∀ j, k ≤ j → j < ops.size → listed.getD j true = false) → listed.size = ops.size → Closed ops listed →
    wpList P ops Q (ops.toList.drop k) a w → wpAny P .any ops Q n listed a w := by
  intro n
  induction n with
  | zero =>
    intro k listed a w hmk hk h1 h2 hsz hcl h
    refine ⟨?_, ?_⟩
    · apply List.eq_nil_iff_forall_not_mem.2
      intro i hi
      obtain ⟨hi1, hi2, -⟩ := mem_ready.1 hi
      have := h1 i (by omega)
      simp [hi1, hsz] at hi2 this
      rw [hi2] at this
      cases this
    · rw [List.drop_of_length_le (by simp; omega)] at h
      exact h
  | succ n ih =>
    intro k listed a w hmk hk h1 h2 hsz hcl h
    obtain ⟨o, ho, hall, hlt⟩ := shapely_tailG hs hmk (show k < ops.size by omega)
    have hd : ops.toList.drop k = o :: ops.toList.drop (k + 1) := by
      have hkl : k < ops.toList.length := by simp; omega
      rw [List.drop_eq_getElem_cons hkl]
      congr 1
      rw [Array.getElem?_eq_getElem (by omega)] at ho
      simpa using ho
    refine ⟨fun hnil => ?_, fun i hi => ?_⟩
    · exfalso
      have : k ∈ Region.ready .any ops listed := mem_ready.2 ⟨by omega, h2 k (Nat.le_refl _) (by omega), o, ho, fun e he hb => h1 _ (hlt e he hb)⟩
      rw [hnil] at this
      cases this
    · obtain ⟨hi1, hi2, oi, hoi, hdep⟩ := mem_ready.1 hi
      have hik : i = k := by
        rcases Nat.lt_trichotomy i k with h' | h' | h'
        · have := h1 i h'
          simp [hi1, hsz] at hi2 this
          rw [hi2] at this
          cases this
        · exact h'
        · obtain ⟨o', ho', hall', -⟩ := shapely_tailG hs (show m ≤ i by omega) hi1
          have := waits_listed hcl _ i k (fun o2 ho2 => by
            rw [hoi] at ho2
            injection ho2 with ho2
            subst ho2
            exact hdep) (hall' k h')
          have h3 := h2 k (Nat.le_refl _) (by omega)
          simp [hsz, show k < ops.size by omega] at this h3
          rw [h3] at this
          cases this
      subst hik
      rw [hd] at h
      have hK : ∀ a w, wpList P ops Q (ops.toList.drop (i + 1)) a w → wpAny P .any ops Q n (listed.setIfInBounds i true) a w := fun a w hh =>
        ih (i + 1) _ a w (by omega) (by omega)
          (fun j hj => by
            by_cases hji : j = i
            · subst hji; simp [hsz, hi1]
            · have := h1 j (by omega)
              simp only [Array.getD_eq_getD_getElem?, Array.getElem?_setIfInBounds_ne (Ne.symm hji)] at this ⊢
              exact this)
          (fun j hj hjs => by
            have := h2 j (by omega) hjs
            simp only [Array.getD_eq_getD_getElem?, Array.getElem?_setIfInBounds_ne (show i ≠ j by omega)] at this ⊢
            exact this)
          (by simp [hsz]) (hcl.set_ hsz (fun o2 ho2 => by
            rw [hoi] at ho2
            injection ho2 with ho2
            subst ho2
            exact hdep)) hh
      unfold wpList at h
      unfold wpOp
      simp only [ho]
      split
      · rename_i hw
        rw [if_pos hw] at h
        exact h.imp (Oper.wp_mono hK) id
      · rename_i hw
        rw [if_neg hw] at h
        exact hK _ _ h
end

section
variable {P : Program} {ops : Array Oper} {Q : Exit → Act → World → Prop}

theorem shapely_nodupG {m i j : Nat} (h : shapelyG ops m = true) (hi : i < m) (hj : j < m) {d : Tmp} (h1 : (ops[i]?).bind (·.dst) = some d) (h2 : (ops[j]?).bind (·.dst) = some d) : i = j := by
  simp only [shapelyG, Bool.and_eq_true, decide_eq_true_eq] at h
  have hn := h.2
  clear h
  induction m with
  | zero => omega
  | succ m ih =>
    rw [List.range_succ, List.filterMap_append, List.nodup_append] at hn
    obtain ⟨n1, n2, n3⟩ := hn
    have key : ∀ k, k < m → (ops[k]?).bind (·.dst) = some d → (ops[m]?).bind (·.dst) = some d → False := fun k hk e1 e2 => by
      have := n3 d (List.mem_filterMap.2 ⟨k, by simp [hk], e1⟩) d (List.mem_filterMap.2 ⟨m, by simp, e2⟩)
      exact this rfl
    rcases Nat.lt_or_ge i m with a1 | a1 <;> rcases Nat.lt_or_ge j m with a2 | a2
    · exact ih a1 a2 n1
    · exact (key i a1 h1 ((show j = m by omega) ▸ h2)).elim
    · exact (key j a2 h2 ((show i = m by omega) ▸ h1)).elim
    · omega

theorem wpAny_headG {m : Nat} (hs : shapelyG ops m = true) {a0 : Act} (hD : ∀ j, j < m → ∀ d, (ops[j]?).bind (·.dst) = some d → d < a0.tmps.size)
    (F : Nat → Value → World → Prop) (G : World → Prop)
    (hF : ∀ j, j < m → ∀ v w w', Below w.heap.size w w' → F j v w → F j v w') (hG : ∀ w w', Below w.heap.size w w' → G w → G w')
    (step : ∀ i o, i < m → ops[i]? = some o → ∀ a w, Fr ops m a0 a → G w → (∀ e ∈ o.after, Region.binds .any e = true → F e.on (slotOf ops e.on a) w) →
      wpOp P ops Q i (fun a' w' => ∃ v, a' = a.put o.dst v ∧ Below w.heap.size w w' ∧ F i v w') a w)
    (last : ∀ vs w, G w → (∀ j, j < m → F j (vs j) w) → wpList P ops Q (ops.toList.drop m) (putAll ops vs m a0) w) :
    ∀ (u : Nat) (listed : Array Bool) (a : Act) (w : World), ((List.range m).filter fun j => !listed.getD j false).length = u →
      listed.size = ops.size → (∀ k, m ≤ k → k < ops.size → listed.getD k true = false) → Closed ops listed → Fr ops m a0 a → G w → (∀ j, j < m → listed.getD j false = true → F j (slotOf ops j a) w) →
      wpAny P .any ops Q (u + (ops.size - m)) listed a w := by
  have hle := shapely_leG hs
  intro u
  induction u with
  | zero =>
    intro listed a w hu hsz htail hcl hfr hg hf
    have hall : ∀ j, j < m → listed.getD j false = true := fun j hj => by
      rcases hb : listed.getD j false with _ | _
      · exfalso
        have : j ∈ (List.range m).filter fun j => !listed.getD j false := by simp only [List.mem_filter, List.mem_range, hb]; exact ⟨hj, rfl⟩
        rw [List.length_eq_zero_iff.1 hu] at this
        cases this
      · rfl
    rw [Nat.zero_add]
    refine wpAny_tailG hs (ops.size - m) m listed a w (Nat.le_refl _) (by omega) hall htail hsz hcl ?_
    have := last (fun j => slotOf ops j a) w hg (fun j hj => hf j hj (hall j hj))
    rw [putAll_is (ops := ops) (fun j => slotOf ops j a) a a0 hfr.size hfr.defers (fun _ => rfl) m hfr.same] at this
    exact this
  | succ u ih =>
    intro listed a w hu hsz htail hcl hfr hg hf
    have hex : ∃ j, j < m ∧ listed.getD j false = false ∧ ∀ k, k < j → listed.getD k false = true := by
      have hne : (List.range m).filter (fun j => !listed.getD j false) ≠ [] := fun e => by rw [e] at hu; cases hu
      obtain ⟨j, hj⟩ := List.exists_mem_of_ne_nil _ hne
      simp only [List.mem_filter, List.mem_range, Bool.not_eq_true'] at hj
      have : ∀ n j, j ≤ n → j < m → listed.getD j false = false → ∃ j, j < m ∧ listed.getD j false = false ∧ ∀ k, k < j → listed.getD k false = true := by
        intro n
        induction n with
        | zero => intro j h0 h1 h2; exact ⟨j, h1, h2, fun k hk => by omega⟩
        | succ n ihn =>
          intro j h0 h1 h2
          by_cases hc : ∃ k, k < j ∧ listed.getD k false = false
          · obtain ⟨k, hk, hkb⟩ := hc
            exact ihn k (by omega) (by omega) hkb
          · exact ⟨j, h1, h2, fun k hk => by
              rcases hb : listed.getD k false with _ | _
              · exact absurd ⟨k, hk, hb⟩ hc
              · rfl⟩
      exact this j j (Nat.le_refl _) hj.1 hj.2
    obtain ⟨j0, hj0, hb0, hbelow⟩ := hex
    have b0' : listed.getD j0 true = false := by
      have : j0 < listed.size := by omega
      simp [this] at hb0 ⊢
      exact hb0
    rw [show u + 1 + (ops.size - m) = (u + (ops.size - m)) + 1 by omega]
    refine ⟨fun hnil => ?_, fun i hi => ?_⟩
    · exfalso
      obtain ⟨o, d, ho, hdst, hlt⟩ := shapely_headG hs hj0
      have : j0 ∈ Region.ready .any ops listed := mem_ready.2 ⟨by omega, b0', o, ho, fun e he hb => hbelow _ (hlt e he hb)⟩
      rw [hnil] at this
      cases this
    · obtain ⟨hi1, hi2, o, ho, hdep⟩ := mem_ready.1 hi
      have him : i < m := by
        rcases Nat.lt_or_ge i m with h | h
        · exact h
        · exfalso
          obtain ⟨o', ho', hall', -⟩ := shapely_tailG hs h hi1
          rw [ho] at ho'
          injection ho' with ho'
          subst ho'
          have := waits_listed hcl _ i j0 (fun o2 ho2 => by
            rw [ho] at ho2
            injection ho2 with ho2
            subst ho2
            exact hdep) (hall' j0 (by omega))
          rw [hb0] at this
          cases this
      obtain ⟨o', d, ho', hdst, hlt⟩ := shapely_headG hs him
      rw [ho] at ho'
      injection ho' with ho'
      subst ho'
      have hbd : (ops[i]?).bind (·.dst) = some d := by simp [ho, hdst]
      have hdz : d < a.tmps.size := by rw [hfr.size]; exact hD i him d hbd
      refine wpOp_mono ?_ ((step i o him ho a w hfr hg fun e he hb => hf _ (Nat.lt_trans (hlt e he hb) him) (hdep e he hb)))
      rintro a' w' ⟨v, rfl, hbel, hfi⟩
      have hne : ∀ j, j < m → j ≠ i → slotOf ops j (a.put o.dst v) = slotOf ops j a := fun j hj hji => by
        cases hq : (ops[j]?).bind (·.dst) with
        | none => simp [slotOf, hq]
        | some dj =>
          have : dj ≠ d := fun e => hji (shapely_nodupG hs hj him hq (e ▸ hbd))
          simp [slotOf, hq, hdst, Act.put, Array.getElem?_setIfInBounds_ne (Ne.symm this)]
      have hown : slotOf ops i (a.put o.dst v) = v := by simp [slotOf, ho, hdst, Act.put, hdz]
      refine ih _ _ _ ?_ (by simp [hsz]) ?_ (hcl.set_ hsz (fun o2 ho2 => by
            rw [ho] at ho2
            injection ho2 with ho2
            subst ho2
            exact hdep)) ⟨by simp [hdst, Act.put, hfr.size], by simp [hdst, Act.put, hfr.defers], fun t ht => ?_⟩ (hG _ _ hbel hg) ?_
      · have hset : ∀ j, (listed.setIfInBounds i true).getD j false = if j = i then true else listed.getD j false := fun j => by
          by_cases hji : j = i
          · subst hji; simp [hsz, hi1]
          · simp [hji, Array.getElem?_setIfInBounds_ne (Ne.symm hji)]
        have hb : listed.getD i false = false := by
          have : i < listed.size := by omega
          simp [this] at hi2 ⊢
          exact hi2
        have := count_flip (fun j => !listed.getD j false) i (by rw [hb]; rfl) m
        rw [if_pos him, hu] at this
        have e : (fun j => !(listed.setIfInBounds i true).getD j false) = fun j => if j = i then false else !listed.getD j false := by
          funext j
          rw [hset j]
          split <;> rfl
        rw [e]
        omega
      · intro k hk hks
        have := htail k hk hks
        simp only [Array.getD_eq_getD_getElem?, Array.getElem?_setIfInBounds_ne (show i ≠ k by omega)] at this ⊢
        exact this
      · have h1 : d ≠ t := fun e => ht i him (e ▸ hbd)
        simp only [hdst, Act.put, Array.getElem?_setIfInBounds_ne h1]
        exact hfr.same t ht
      · intro j hj hjl
        by_cases hji : j = i
        · subst hji
          rw [hown]
          exact hfi
        · rw [hne j hj hji]
          refine hF j hj _ _ _ hbel (hf j hj ?_)
          simp only [Array.getD_eq_getD_getElem?, Array.getElem?_setIfInBounds_ne (Ne.symm hji)] at hjl ⊢
          exact hjl

/-- THE RULE. -/
theorem region_monoG {id m : Nat} {a0 : Act} {w0 : World} (hm : P.follows .mixedOrders = true) (hs : shapelyG ops m = true)
    (hD : ((List.range m).all fun j => match (ops[j]?).bind (·.dst) with | some d => decide (d < a0.tmps.size) | none => true) = true)
    (F : Nat → Value → World → Prop) (G : World → Prop)
    (hF : ∀ j, j < m → ∀ v w w', Below w.heap.size w w' → F j v w → F j v w') (hG : ∀ w w', Below w.heap.size w w' → G w → G w') (h0 : G w0.drew)
    (step : ∀ i o, i < m → ops[i]? = some o → ∀ a w, Fr ops m a0 a → G w → (∀ e ∈ o.after, Region.binds .any e = true → F e.on (slotOf ops e.on a) w) →
      wpOp P ops Q i (fun a' w' => ∃ v, a' = a.put o.dst v ∧ Below w.heap.size w w' ∧ F i v w') a w)
    (last : ∀ vs w, G w → (∀ j, j < m → F j (vs j) w) → wpList P ops Q (ops.toList.drop m) (putAll ops vs m a0) w) :
    (Code.region id ops true).wp P Q a0 w0 := by
  have hle := shapely_leG hs
  refine wp_region_any hm ?_
  have hlen : ((List.range m).filter fun j => !(Array.replicate ops.size false).getD j false).length = m := by
    rw [List.filter_eq_self.2]
    · simp
    · intro j hj
      simp only [Array.getD_eq_getD_getElem?, Array.getElem?_replicate]
      split <;> rfl
  have := wpAny_headG hs (fun j hj d hd => by
      have := List.all_eq_true.1 hD j (by simpa using hj)
      simpa [hd] using this) F G hF hG step last m (Array.replicate ops.size false) a0 w0.drew hlen (by simp)
    (fun k h1 h2 => by simp [h2]) (fun i o ho h => by
      exfalso
      simp only [Array.getD_eq_getD_getElem?, Array.getElem?_replicate] at h
      split at h <;> simp at h) ⟨rfl, rfl, fun _ _ => rfl⟩ h0 (fun j hj h => by
      exfalso
      simp only [Array.getD_eq_getD_getElem?, Array.getElem?_replicate] at h
      split at h <;> simp at h)
  rw [show m + (ops.size - m) = ops.size by omega] at this
  exact this
end

section
variable {P : Program} {ops : Array Oper} {Q : Exit → Act → World → Prop} {o : Oper} {a : Act} {w : World}
theorem yields {g : Nat} {b : Bool} (hs : slotOf ops g a = .bool b) : yielded ops a.tmps g = some b := by
  unfold slotOf at hs
  unfold yielded
  cases hq : (ops[g]?).bind (·.dst) with
  | none => rw [hq] at hs; simp [undef] at hs
  | some d =>
    rw [hq] at hs
    have hs : a.tmps.getD d undef = .bool b := hs
    rw [Array.getD_eq_getD_getElem?] at hs
    cases ht : a.tmps[d]? with
    | none => rw [ht] at hs; simp [undef] at hs
    | some v =>
      rw [ht] at hs
      simp at hs
      subst hs
      simp [ht]
/-- An operation without a guard. -/
theorem g_none {i : Nat} {K : Act → World → Prop} (ho : ops[i]? = some o) (hg : o.guard = none) (h : o.wp P a w K Q) : wpOp P ops Q i K a w := wpOp_some ho hg h
/-- An operation whose guard lets it by. -/
theorem g_yes {i g : Nat} {b : Bool} {K : Act → World → Prop} (ho : ops[i]? = some o) (hg : o.guard = some (g, b)) (hs : slotOf ops g a = .bool b) (h : o.wp P a w K Q) : wpOp P ops Q i K a w := by
  unfold wpOp
  simp only [ho, Region.wanted, hg, yields hs, beq_self_eq_true, if_true]
  exact .inl h
/-- An operation whose guard holds it back. -/
theorem g_no {i g : Nat} {b : Bool} {F : Value → World → Prop} (ho : ops[i]? = some o) (hg : o.guard = some (g, b)) {x : Bool} (hs : slotOf ops g a = .bool x) (hx : x ≠ b) (h : F undef w) : wpOp P ops Q i (fun a' w' => ∃ v, a' = a.put o.dst v ∧ Below w.heap.size w w' ∧ F v w') a w := by
  unfold wpOp
  have : (some x == some b) = false := by simpa using hx
  simp only [ho, Region.wanted, hg, yields hs, this]
  exact ⟨undef, rfl, Below.refl _ _, h⟩
/-- An operation whose guard was itself held back. -/
theorem g_no2 {i g : Nat} {b : Bool} {F : Value → World → Prop} (ho : ops[i]? = some o) (hg : o.guard = some (g, b)) (hs : slotOf ops g a = undef) (h : F undef w) : wpOp P ops Q i (fun a' w' => ∃ v, a' = a.put o.dst v ∧ Below w.heap.size w w' ∧ F v w') a w := by
  have hy : yielded ops a.tmps g = none := by
    unfold slotOf at hs
    unfold yielded
    cases hq : (ops[g]?).bind (·.dst) with
    | none => rfl
    | some d =>
      rw [hq] at hs
      have hs : a.tmps.getD d undef = undef := hs
      rw [Array.getD_eq_getD_getElem?] at hs
      cases ht : a.tmps[d]? with
      | none => simp [ht]
      | some v =>
        rw [ht] at hs
        simp at hs
        subst hs
        simp [ht, undef]
  unfold wpOp
  simp only [ho, Region.wanted, hg, hy]
  exact ⟨undef, rfl, Below.refl _ _, h⟩
theorem st_pick {F : Value → World → Prop} {x y z : Operand} (ho : o.op = .pick x y z) {b : Bool} {vy vz : Value} (hx : a.eval x = .bool b) (hy : a.eval y = vy) (hz : a.eval z = vz) (hF : F (if b then vy else vz) w) : St P o a w Q F := by
  refine st_run (v := if b then vy else vz) ?_ hF
  unfold execOp
  simp only [ho, hx, hy, hz]
  cases b <;> rfl
theorem st_ret4 {F : Value → World → Prop} {f : FuncId} {x1 x2 x3 x4 : Operand} {ats : Array TypeId} (ho : o.op = .call { callee := .value (.func f), args := #[x1, x2, x3, x4], argTypes := ats }) {v1 v2 v3 v4 : Value}
    (hcf : ∀ args w, (callFunc f args).run P w = .ok (.enter f args) w) (h1 : a.eval x1 = v1) (h2 : a.eval x2 = v2) (h3 : a.eval x3 = v3) (h4 : a.eval x4 = v4) {R : Value → World → Prop} (h : Ret P f #[v1, v2, v3, v4] w R)
    (hR : ∀ r w', R r w' → Up w w' → F r w') : St P o a w Q F := st_ret ho hcf (by simp [h1, h2, h3, h4]) h hR
theorem st_len {F : Value → World → Prop} {x : Operand} {t : TypeId} (ho : o.op = .call { callee := .builtin .len, args := #[x], argTypes := #[t] }) {b : Option Addr} {n cap : Nat} (hx : a.eval x = .slice b n cap) {e : TypeId} [ht : SliceT P t e] (hF : F (.int .i64 (n : Int)) w) : St P o a w Q F := by
  refine st_run (v := .int .i64 (n : Int)) ?_ hF
  unfold execOp
  simp only [ho, resolve, invoke, builtin, Sem.run_bind, Sem.run_pure, Result.andThen_ok, List.map_toArray, List.map_cons, List.map_nil, hx]
  simp [Builtin.len_, run_underlying ht.out, Builtin.lenOf, goInt]
end

end Go.Proofs.YtmbhaoiahlbglaaDoor
