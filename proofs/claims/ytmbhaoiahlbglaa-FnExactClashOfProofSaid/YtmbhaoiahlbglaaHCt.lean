/- The rule for regions that draw their order where what is known of memory speaks of the slots too. No conditions beyond those each lemma states. -/
import Derived.Test.YtmbhaoiahlbglaaRegS
import Derived.Test.YtmbhaoiahlbglaaHW
namespace Go.Proofs.Ytmbhaoiahlbglaa
open Go.RowKit
set_option linter.unusedVariables false
set_option linter.unusedSimpArgs false

section
variable {P : Program} {ops : Array Oper} {Q : Exit → Act → World → Prop}

theorem wpAny_headA {m : Nat} (hs : shapelyS ops m = true) {a0 : Act} (hD : ∀ j, j < m → ∀ d, (ops[j]?).bind (·.dst) = some d → d < a0.tmps.size)
    (F : Nat → Value → World → Prop) (G : (Nat → Bool) → Act → World → Prop)
    (step : ∀ i o, i < m → ops[i]? = some o → ∀ a w (s : Nat → Bool), Fr ops m a0 a → G s a w → s i = false → (∀ j oj, s j = true → ops[j]? = some oj → ∀ e ∈ oj.after, Region.binds .any e = true → s e.on = true) → (∀ e ∈ o.after, Region.binds .any e = true → s e.on = true ∧ F e.on (slotOf ops e.on a) w) →
      wpOp P ops Q i (fun a' w' => ∃ v, a' = a.put o.dst v ∧ (∀ j u, j < m → F j u w → F j u w') ∧ G (fun j => if j = i then true else s j) (a.put o.dst v) w' ∧ (o.dst.isSome = true → F i v w') ∧ (o.dst.isSome = false → F i undef w')) a w)
    (last : ∀ vs w s, (∀ j, j < m → s j = true) → G s (putAll ops vs m a0) w → (∀ j, j < m → F j (vs j) w) → wpList P ops Q (ops.toList.drop m) (putAll ops vs m a0) w) :
    ∀ (u : Nat) (listed : Array Bool) (a : Act) (w : World), ((List.range m).filter fun j => !listed.getD j false).length = u →
      listed.size = ops.size → (∀ k, m ≤ k → k < ops.size → listed.getD k true = false) → Closed ops listed → Fr ops m a0 a → G (fun j => listed.getD j false) a w → (∀ j, j < m → listed.getD j false = true → F j (slotOf ops j a) w) →
      wpAny P .any ops Q (u + (ops.size - m)) listed a w := by
  have hle := shapely_leS hs
  intro u
  induction u with
  | zero =>
    intro listed a w hu hsz htail hcl hfr hg hf
    have hall : ∀ j, j < m → listed.getD j false = true := fun j hj => by
      rcases hb : listed.getD j false with _ | _
      · exfalso
        have : j ∈ (List.range m).filter fun j => !listed.getD j false := by simp only [List.mem_filter, List.mem_range, hb]; exact ⟨hj, rfl⟩
        rw [List.length_eq_zero_iff.1 hu] at this
        cases this
      · rfl
    rw [Nat.zero_add]
    refine wpAny_tailS hs (ops.size - m) m listed a w (Nat.le_refl _) (by omega) hall htail hsz hcl ?_
    have hpa := putAll_is (ops := ops) (fun j => slotOf ops j a) a a0 hfr.size hfr.defers (fun _ => rfl) m hfr.same
    have := last (fun j => slotOf ops j a) w _ hall (by rw [hpa]; exact hg) (fun j hj => hf j hj (hall j hj))
    rw [hpa] at this
    exact this
  | succ u ih =>
    intro listed a w hu hsz htail hcl hfr hg hf
    have hex : ∃ j, j < m ∧ listed.getD j false = false ∧ ∀ k, k < j → listed.getD k false = true := by
      have hne : (List.range m).filter (fun j => !listed.getD j false) ≠ [] := fun e => by rw [e] at hu; cases hu
      obtain ⟨j, hj⟩ := List.exists_mem_of_ne_nil _ hne
      simp only [List.mem_filter, List.mem_range, Bool.not_eq_true'] at hj
      have : ∀ n j, j ≤ n → j < m → listed.getD j false = false → ∃ j, j < m ∧ listed.getD j false = false ∧ ∀ k, k < j → listed.getD k false = true := by
        intro n
        induction n with
        | zero => intro j h0 h1 h2; exact ⟨j, h1, h2, fun k hk => by omega⟩
        | succ n ihn =>
          intro j h0 h1 h2
          by_cases hc : ∃ k, k < j ∧ listed.getD k false = false
          · obtain ⟨k, hk, hkb⟩ := hc
            exact ihn k (by omega) (by omega) hkb
          · exact ⟨j, h1, h2, fun k hk => by
              rcases hb : listed.getD k false with _ | _
              · exact absurd ⟨k, hk, hb⟩ hc
              · rfl⟩
      exact this j j (Nat.le_refl _) hj.1 hj.2
    obtain ⟨j0, hj0, hb0, hbelow⟩ := hex
    have b0' : listed.getD j0 true = false := by
      have : j0 < listed.size := by omega
      simp [this] at hb0 ⊢
      exact hb0
    rw [show u + 1 + (ops.size - m) = (u + (ops.size - m)) + 1 by omega]
    refine ⟨fun hnil => ?_, fun i hi => ?_⟩
    · exfalso
      obtain ⟨o, ho, hlt⟩ := shapely_headS hs hj0
      have : j0 ∈ Region.ready .any ops listed := mem_ready.2 ⟨by omega, b0', o, ho, fun e he hb => hbelow _ (hlt e he hb)⟩
      rw [hnil] at this
      cases this
    · obtain ⟨hi1, hi2, o, ho, hdep⟩ := mem_ready.1 hi
      have him : i < m := by
        rcases Nat.lt_or_ge i m with h | h
        · exact h
        · exfalso
          obtain ⟨o', ho', hall', -⟩ := shapely_tailS hs h hi1
          rw [ho] at ho'
          injection ho' with ho'
          subst ho'
          have := waits_listed hcl _ i j0 (fun o2 ho2 => by
            rw [ho] at ho2
            injection ho2 with ho2
            subst ho2
            exact hdep) (hall' j0 (by omega))
          rw [hb0] at this
          cases this
      obtain ⟨o', ho', hlt⟩ := shapely_headS hs him
      rw [ho] at ho'
      injection ho' with ho'
      subst ho'
      have hb : listed.getD i false = false := by
        have : i < listed.size := by omega
        simp [this] at hi2 ⊢
        exact hi2
      refine wpOp_mono ?_ (step i o him ho a w (fun j => listed.getD j false) hfr hg hb (fun j oj h1 h2 e he hb => hcl j oj h2 h1 e he hb) fun e he hb => ⟨hdep e he hb, hf _ (Nat.lt_trans (hlt e he hb) him) (hdep e he hb)⟩)
      rintro a' w' ⟨v, rfl, hkeep, hG', hfi, hfu⟩
      have hne : ∀ j, j < m → j ≠ i → slotOf ops j (a.put o.dst v) = slotOf ops j a := fun j hj hji => by
        cases hdst : o.dst with
        | none => rfl
        | some d =>
          have hbd : (ops[i]?).bind (·.dst) = some d := by simp [ho, hdst]
          cases hq : (ops[j]?).bind (·.dst) with
          | none => simp [slotOf, hq]
          | some dj =>
            have : dj ≠ d := fun e => hji (shapely_nodupS hs hj him hq (e ▸ hbd))
            simp [slotOf, hq, Act.put, Array.getElem?_setIfInBounds_ne (Ne.symm this)]
      have hown : F i (slotOf ops i (a.put o.dst v)) w' := by
        cases hdst : o.dst with
        | none =>
          have : slotOf ops i (a.put none v) = undef := by simp [slotOf, ho, hdst]
          rw [this]
          exact hfu (by rw [hdst]; rfl)
        | some d =>
          have hbd : (ops[i]?).bind (·.dst) = some d := by simp [ho, hdst]
          have hdz : d < a.tmps.size := by rw [hfr.size]; exact hD i him d hbd
          have : slotOf ops i (a.put (some d) v) = v := by simp [slotOf, ho, hdst, Act.put, hdz]
          rw [this]
          exact hfi (by rw [hdst]; rfl)
      have hset : ∀ j, (listed.setIfInBounds i true).getD j false = if j = i then true else listed.getD j false := fun j => by
        by_cases hji : j = i
        · subst hji; simp [hsz, hi1]
        · simp [hji, Array.getElem?_setIfInBounds_ne (Ne.symm hji)]
      refine ih _ _ _ ?_ (by simp [hsz]) ?_ (hcl.set_ hsz (fun o2 ho2 => by
            rw [ho] at ho2
            injection ho2 with ho2
            subst ho2
            exact hdep)) ⟨by cases hdst : o.dst <;> simp [Act.put, hfr.size], by cases hdst : o.dst <;> simp [Act.put, hfr.defers], fun t ht => ?_⟩ (by rw [show (fun j => (listed.setIfInBounds i true).getD j false) = fun j => if j = i then true else listed.getD j false from funext hset]; exact hG') ?_
      · have hu' := hu
        have := count_flip (fun j => !listed.getD j false) i (by rw [hb]; rfl) m
        rw [if_pos him, hu] at this
        have e : (fun j => !(listed.setIfInBounds i true).getD j false) = fun j => if j = i then false else !listed.getD j false := by
          funext j
          rw [hset j]
          split <;> rfl
        rw [e]
        omega
      · intro k hk hks
        have := htail k hk hks
        simp only [Array.getD_eq_getD_getElem?, Array.getElem?_setIfInBounds_ne (show i ≠ k by omega)] at this ⊢
        exact this
      · cases hdst : o.dst with
        | none => exact hfr.same t ht
        | some d =>
          have h1 : d ≠ t := fun e => ht i him (by simp [ho, hdst, e])
          simp only [Act.put, Array.getElem?_setIfInBounds_ne h1]
          exact hfr.same t ht
      · intro j hj hjl
        by_cases hji : j = i
        · subst hji
          exact hown
        · rw [hne j hj hji]
          refine hkeep j _ hj (hf j hj ?_)
          simp only [Array.getD_eq_getD_getElem?, Array.getElem?_setIfInBounds_ne (Ne.symm hji)] at hjl ⊢
          exact hjl

/-- THE RULE. -/
theorem region_monoA {id m : Nat} {a0 : Act} {w0 : World} (hm : P.follows .mixedOrders = true) (hs : shapelyS ops m = true)
    (hD : ((List.range m).all fun j => match (ops[j]?).bind (·.dst) with | some d => decide (d < a0.tmps.size) | none => true) = true)
    (F : Nat → Value → World → Prop) (G : (Nat → Bool) → Act → World → Prop) (h0 : G (fun _ => false) a0 w0.drew)
    (step : ∀ i o, i < m → ops[i]? = some o → ∀ a w (s : Nat → Bool), Fr ops m a0 a → G s a w → s i = false → (∀ j oj, s j = true → ops[j]? = some oj → ∀ e ∈ oj.after, Region.binds .any e = true → s e.on = true) → (∀ e ∈ o.after, Region.binds .any e = true → s e.on = true ∧ F e.on (slotOf ops e.on a) w) →
      wpOp P ops Q i (fun a' w' => ∃ v, a' = a.put o.dst v ∧ (∀ j u, j < m → F j u w → F j u w') ∧ G (fun j => if j = i then true else s j) (a.put o.dst v) w' ∧ (o.dst.isSome = true → F i v w') ∧ (o.dst.isSome = false → F i undef w')) a w)
    (last : ∀ vs w s, (∀ j, j < m → s j = true) → G s (putAll ops vs m a0) w → (∀ j, j < m → F j (vs j) w) → wpList P ops Q (ops.toList.drop m) (putAll ops vs m a0) w) :
    (Code.region id ops true).wp P Q a0 w0 := by
  have hle := shapely_leS hs
  refine wp_region_any hm ?_
  have hlen : ((List.range m).filter fun j => !(Array.replicate ops.size false).getD j false).length = m := by
    rw [List.filter_eq_self.2]
    · simp
    · intro j hj
      simp only [Array.getD_eq_getD_getElem?, Array.getElem?_replicate]
      split <;> rfl
  have := wpAny_headA hs (fun j hj d hd => by
      have := List.all_eq_true.1 hD j (by simpa using hj)
      simpa [hd] using this) F G step last m (Array.replicate ops.size false) a0 w0.drew hlen (by simp)
    (fun k h1 h2 => by simp [h2]) (fun i o ho h => by
      exfalso
      simp only [Array.getD_eq_getD_getElem?, Array.getElem?_replicate] at h
      split at h <;> simp at h) ⟨rfl, rfl, fun _ _ => rfl⟩ (by rw [show (fun j => (Array.replicate ops.size false).getD j false) = fun _ => false from funext fun j => by simp only [Array.getD_eq_getD_getElem?, Array.getElem?_replicate]; split <;> rfl]; exact h0) (fun j hj h => by
      exfalso
      simp only [Array.getD_eq_getD_getElem?, Array.getElem?_replicate] at h
      split at h <;> simp at h)
  rw [show m + (ops.size - m) = ops.size by omega] at this
  exact this
end

section
variable {P : Program} {ops : Array Oper} {Q : Exit → Act → World → Prop} {o : Oper} {a : Act} {w w0 : World}
theorem stA {i m : Nat} {F : Nat → Value → World → Prop} {G : Act → World → Prop} (hF : ∀ j u w w', j < m → F j u w → F j u w') (hd : o.dst.isSome = true) (ho : ops[i]? = some o) (hg : o.guard = none) (h : St P o a w Q (fun v w' => F i v w' ∧ G (a.put o.dst v) w')) :
    wpOp P ops Q i (fun a' w' => ∃ v, a' = a.put o.dst v ∧ (∀ j u, j < m → F j u w → F j u w') ∧ G (a.put o.dst v) w' ∧ (o.dst.isSome = true → F i v w') ∧ (o.dst.isSome = false → F i undef w')) a w := by
  refine wpOp_some ho hg (Oper.wp_mono (fun a' w' h' => ?_) h)
  obtain ⟨v, h1, h2, h3, h4⟩ := h'
  exact ⟨v, h1, fun j u hj => hF j u w w' hj, h4, fun _ => h3, fun e => by rw [hd] at e; cases e⟩
end
theorem put_ne {a : Act} {v : Value} {d k : Nat} (h : d ≠ k) : (a.put (some d) v).tmps.getD k undef = a.tmps.getD k undef := by
  simp [Act.put, Array.getElem?_setIfInBounds_ne h]
theorem put_eq {a : Act} {v : Value} {d : Nat} (h : d < a.tmps.size) : (a.put (some d) v).tmps.getD d undef = v := by
  simp [Act.put, h]
theorem Mem.swap {w0 w : World} {x y : It} {L : List It} (M : Mem w0 w (x :: y :: L)) : Mem w0 w (y :: x :: L) := by
  have h1 := List.pairwise_cons.1 M.sep
  have h2 := List.pairwise_cons.1 h1.2
  refine ⟨M.up, fun z hz => M.ok z ?_, List.pairwise_cons.2 ⟨fun z hz => ?_, List.pairwise_cons.2 ⟨fun z hz => h1.1 z (List.mem_cons_of_mem _ hz), h2.2⟩⟩⟩
  · simp only [List.mem_cons] at hz ⊢
    rcases hz with rfl | rfl | h
    · exact .inr (.inl rfl)
    · exact .inl rfl
    · exact .inr (.inr h)
  · rcases List.mem_cons.1 hz with rfl | hz
    · exact M.apart (i := 1) (j := 0) rfl rfl (by decide)
    · exact h2.1 z hz
/-- A slice of the call's own (in slot 6 of the head) and a block (in slot 7), made in any order. -/
def Two (w0 : World) (ML : List It) (e : TypeId) (size n : Nat) (xs : List Value) (t : TypeId) (cs : Array Value) (s6 s7 : Bool) (v6 v7 : Value) (w : World) : Prop :=
  match s6, s7 with
  | false, false => Mem w0 w ML
  | true, false => ∃ b cap, v6 = .slice b n cap ∧ Mem w0 w (.own b cap e size n xs :: ML)
  | false, true => ∃ g, v7 = .pointer (some ⟨g, 0, none⟩) ∧ Mem w0 w (.blk g t cs :: ML)
  | true, true => ∃ b cap g, v6 = .slice b n cap ∧ v7 = .pointer (some ⟨g, 0, none⟩) ∧ Mem w0 w (.blk g t cs :: .own b cap e size n xs :: ML)
theorem Two.up_ {w0 w : World} {ML : List It} {e : TypeId} {size n : Nat} {xs : List Value} {t : TypeId} {cs : Array Value} {s6 s7 : Bool} {v6 v7 : Value} (h : Two w0 ML e size n xs t cs s6 s7 v6 v7 w) : Up w0 w := by
  cases s6 <;> cases s7
  · exact Mem.up h
  · obtain ⟨_, _, M⟩ := h; exact M.up
  · obtain ⟨_, _, _, M⟩ := h; exact M.up
  · obtain ⟨_, _, _, _, _, M⟩ := h; exact M.up
theorem Two.own {w0 w w' : World} {ML : List It} {e : TypeId} {size n : Nat} {xs : List Value} {t : TypeId} {cs : Array Value} {s7 : Bool} {v6 v7 v : Value} (h : Two w0 ML e size n xs t cs false s7 v6 v7 w) (hb : Up w w') (ho : OwnR w w' e size v n xs) : Two w0 ML e size n xs t cs true s7 v v7 w' := by
  obtain ⟨b, cap, rfl, ho⟩ := ho
  cases s7
  · exact ⟨b, cap, rfl, Mem.addO h hb ho⟩
  · obtain ⟨g, e, M⟩ := h
    exact ⟨b, cap, g, rfl, e, (M.addO hb ho).swap⟩
theorem Two.new {w0 w : World} {ML : List It} {e : TypeId} {size n : Nat} {xs : List Value} {t : TypeId} {cs : Array Value} {s6 : Bool} {v6 v7 : Value} (h : Two w0 ML e size n xs t cs s6 false v6 v7 w) : Two w0 ML e size n xs t cs s6 true v6 (.pointer (some ⟨w.heap.size, 0, none⟩)) (w.alloc (.cells cs t)) := by
  cases s6
  · exact ⟨_, rfl, Mem.alloc_ h t cs⟩
  · obtain ⟨b, cap, e, M⟩ := h
    exact ⟨b, cap, _, e, rfl, M.alloc_ t cs⟩
/-- A key of a slice, read in a given world. -/
theorem rd_key {w : World} {g o n cap j : Nat} {ks : List Ky} (h : Rd w 32 (.slice (some ⟨g, o, none⟩) n cap) n (kyL ks)) (hn : 0 < n) (hj : j < ks.length) : w.rangeAt g (o + j * 32) (bL (ks[j]'hj).1) := by
  obtain ⟨g', o', e, hr⟩ := h.open_ hn
  injection e with e
  cases e
  exact kyL_range (hr w (Up.refl _)) j hj
theorem Two.keep {w0 w : World} {ML : List It} {e : TypeId} {size n : Nat} {xs : List Value} {t : TypeId} {cs : Array Value} {s6 s7 : Bool} {a : Act} {k6 k7 d : Nat} (h : Two w0 ML e size n xs t cs s6 s7 (a.tmps.getD k6 undef) (a.tmps.getD k7 undef) w) (h6 : d ≠ k6) (h7 : d ≠ k7) (v : Value) :
    Two w0 ML e size n xs t cs s6 s7 ((a.put (some d) v).tmps.getD k6 undef) ((a.put (some d) v).tmps.getD k7 undef) w := by rw [put_ne h6, put_ne h7]; exact h
theorem Two.atOwn {w0 w w' : World} {ML : List It} {e : TypeId} {size n : Nat} {xs : List Value} {t : TypeId} {cs : Array Value} {s6 s7 : Bool} {a : Act} {k6 k7 : Nat} {v : Value} (h : Two w0 ML e size n xs t cs s6 s7 (a.tmps.getD k6 undef) (a.tmps.getD k7 undef) w) (hs : s6 = false) (hk : k6 < a.tmps.size) (h7 : k6 ≠ k7) (hb : Up w w') (ho : OwnR w w' e size v n xs) :
    Two w0 ML e size n xs t cs true s7 ((a.put (some k6) v).tmps.getD k6 undef) ((a.put (some k6) v).tmps.getD k7 undef) w' := by
  subst hs
  rw [put_eq hk, put_ne h7]
  exact h.own hb ho
theorem st_newTwo {P : Program} {Q : Exit → Act → World → Prop} {o : Oper} {w0 w : World} {ML : List It} {e : TypeId} {size n : Nat} {xs : List Value} {t : TypeId} {cs : Array Value} {s6 s7 : Bool} {a : Act} {k6 k7 : Nat} (h : Two w0 ML e size n xs t cs s6 s7 (a.tmps.getD k6 undef) (a.tmps.getD k7 undef) w) (hs : s7 = false) (ho : o.op = .alloc t) [hz : ZeroT P t cs] (hd : o.dst = some k7) (hk : k7 < a.tmps.size) (h6 : k7 ≠ k6) :
    St P o a w Q (fun v w' => True ∧ Two w0 ML e size n xs t cs s6 true ((a.put o.dst v).tmps.getD k6 undef) ((a.put o.dst v).tmps.getD k7 undef) w') := by
  unfold St Oper.wp
  rw [run_alloc_ ho hz.out]
  refine ⟨_, rfl, (Below.refl _ _).alloc (Nat.le_refl _) _, trivial, ?_⟩
  rw [hd, put_ne h6, put_eq hk]
  subst hs
  exact h.new

end Go.Proofs.Ytmbhaoiahlbglaa
