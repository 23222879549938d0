/- plain: the two rows that SpecAdds lengthens in one region: what each slot holds, what a step keeps. No program in sight. -/
import Derived.Test.YtkigmpholnfkbaaGreatKSlots
import Derived.Test.YtkigmpholnfkbaaGreatKSpQ
/- As Slots, over any relation R of worlds (what the steps keep), and with operations that leave no value (stores). No program in sight. -/
namespace Go.Proofs.YtkigmpholnfkbaaGreat
open Go.RowKit
section
variable {P : Program} {ops : Array Oper} {Q : Exit → Act → World → Prop}
theorem putAll_out : ∀ (ds : List Nat) (t : Array Value) (xs : Nat → Value) (i j : Nat) {d : Nat} (v : Value), ds.Nodup → ds[j]? = some d → t.size ≤ d → putAll t ds (upd xs (i + j) v) i = putAll t ds xs i
  | [], _, _, _, _, _, _, _, h, _ => by simp at h
  | d' :: ds, t, xs, i, 0, d, v, hn, h, hs => by
    obtain rfl : d' = d := by simpa using h
    unfold putAll
    rw [Array.setIfInBounds_eq_of_size_le hs, Array.setIfInBounds_eq_of_size_le hs]
    have key : ∀ (l : List Nat) (t : Array Value) (k : Nat), i < k → putAll t l (upd xs (i + 0) v) k = putAll t l xs k := by
      intro l
      induction l with
      | nil => intro t k _; rfl
      | cons e l ih => intro t k hk; unfold putAll; rw [upd_ne xs v (by omega)]; exact ih _ _ (by omega)
    exact key ds t (i + 1) (by omega)
  | d' :: ds, t, xs, i, j + 1, d, v, hn, h, hs => by
    unfold putAll
    rw [upd_ne xs v (show i ≠ i + (j + 1) by omega)]
    have := putAll_out ds (t.setIfInBounds d' (xs i)) xs (i + 1) j v (List.nodup_cons.1 hn).2 (by simpa using h) (by simpa using hs)
    rw [show i + 1 + j = i + (j + 1) by omega] at this
    exact this
theorem putAll_setI : ∀ (ds : List Nat) (t : Array Value) (xs : Nat → Value) (j : Nat) {d : Nat} (v : Value), ds.Nodup → ds[j]? = some d → d < t.size → (putAll t ds xs 0).setIfInBounds d v = putAll t ds (upd xs j v) 0 := by
  intro ds t xs j d v hn h hd
  apply Array.ext_getElem?
  intro k
  by_cases hk : k = d
  · subst hk
    have := putAll_at ds t (upd xs j v) 0 j hn h hd
    rw [Nat.zero_add] at this
    rw [this, upd_self, Array.getElem?_setIfInBounds]
    simp [putAll_size, hd]
  · rw [Array.getElem?_setIfInBounds_ne (Ne.symm hk)]
    by_cases hm : k ∈ ds
    · by_cases hks : k < t.size
      · obtain ⟨q, hq⟩ := List.mem_iff_getElem?.1 hm
        rw [putAll_at ds t _ 0 q hn hq hks, putAll_at ds t _ 0 q hn hq hks, upd_ne]
        intro e
        have : q = j := by omega
        subst this
        rw [hq] at h
        exact hk (Option.some.inj h)
      · rw [Array.getElem?_eq_none (by rw [putAll_size]; omega), Array.getElem?_eq_none (by rw [putAll_size]; omega)]
    · rw [putAll_other ds t _ 0 hm, putAll_other ds t _ 0 hm]
theorem putAll_sameI (ds : List Nat) (t : Array Value) (xs : Nat → Value) (hn : ds.Nodup) (h : ∀ j d, ds[j]? = some d → d < t.size → t.getD d undef = xs j) : putAll t ds xs 0 = t := by
  apply Array.ext_getElem?
  intro k
  by_cases hm : k ∈ ds
  · obtain ⟨q, hq⟩ := List.mem_iff_getElem?.1 hm
    by_cases hk : k < t.size
    · rw [putAll_at ds t xs 0 q hn hq hk, Nat.zero_add, ← h q k hq hk]
      simp [hk]
    · rw [Array.getElem?_eq_none (by rw [putAll_size]; omega), Array.getElem?_eq_none (by omega)]
  · rw [putAll_other ds t xs 0 hm]
def StepR (P : Program) (ops : Array Oper) (Q : Exit → Act → World → Prop) (a : Act) (ds : List Nat) (N : Nat) (R : World → World → Prop) (W0 : World) (T : Nat → Value → World → Prop) (i : Nat) : Prop :=
  ∀ o, ops[i]? = some o → ∀ (b : Act) (xs : Nat → Value) (w : World), R W0 w → (∀ k, ds.contains k = false → b.eval (.tmp k) = a.eval (.tmp k)) → (∀ j d, ds[j]? = some d → d < N → b.eval (.tmp d) = xs j) → (∀ j, onB' .any ops i j = true → T j (xs j) w) →
    ∀ K : Act → World → Prop, (∀ v w', R w w' → (∀ j u, j ≠ i → T j u w → T j u w') → T i v w' → K (b.put o.dst v) w') → if Region.wanted o (yielded ops b.tmps) = true then Oper.wp P o b w K Q else K (b.put o.dst undef) w
theorem region_slotsR {id l N : Nat} {a : Act} {w W0 : World} (R : World → World → Prop) (ds : List Nat) (T : Nat → Value → World → Prop) (hm : P.follows .mixedOrders = true)
    (hB : (ops.size == l + 1 && (List.range l).all (fun j => onB' .any ops l j) && slBackB ops) = true)
    (hD : (ds.length == l && decide ds.Nodup && (List.range l).all (fun i => match (ops[i]?).bind (·.dst) with | some d => decide (d < N) && (ds[i]? == some d) | none => decide (N ≤ ds.getD i 0))) = true) (hN : a.tmps.size = N) (hw : R W0 w.drew)
    (hR : ∀ a b c, R a b → R b c → R a c) (hstep : ∀ i, i < l → StepR P ops Q a ds N R W0 T i)
    (hlast : ∀ o, ops[l]? = some o → ∀ xs w, R W0 w → (∀ j, j < l → T j (xs j) w) → ∀ b, b = frOf a ds xs → (∀ k, ds.contains k = false → b.eval (.tmp k) = a.eval (.tmp k)) → (∀ j d, ds[j]? = some d → d < N → b.eval (.tmp d) = xs j) →
      ∀ K : Act → World → Prop, (∀ a' w', Q .normal a' w' → K a' w') → if Region.wanted o (yielded ops b.tmps) = true then Oper.wp P o b w K Q else K (b.put o.dst undef) w) :
    (Code.region id ops true).wp P Q a w := by
  simp only [Bool.and_eq_true, beq_iff_eq, decide_eq_true_eq] at hD
  obtain ⟨⟨hl, hnd⟩, hdst⟩ := hD
  have hev : ∀ xs j d, ds[j]? = some d → d < N → (frOf a ds xs).eval (.tmp d) = xs j := fun xs j d h hd => by
    show (putAll a.tmps ds xs 0).getD d undef = _
    have := putAll_at ds a.tmps xs 0 j hnd h (by rw [hN]; exact hd)
    rw [Nat.zero_add] at this
    rw [Array.getD_eq_getD_getElem?, this]; rfl
  have hot : ∀ xs k, ds.contains k = false → (frOf a ds xs).eval (.tmp k) = a.eval (.tmp k) := fun xs k h => by
    show (putAll a.tmps ds xs 0).getD k undef = a.tmps.getD k undef
    rw [Array.getD_eq_getD_getElem?, Array.getD_eq_getD_getElem?, putAll_other ds a.tmps xs 0 (by simpa using h)]
  have hput : ∀ i o, i < l → ops[i]? = some o → ∀ xs v, (frOf a ds xs).put o.dst v = frOf a ds (upd xs i v) := fun i o hi ho xs v => by
    have h1 := List.all_eq_true.1 hdst i (List.mem_range.2 hi)
    rw [ho] at h1
    simp only [Option.bind_some] at h1
    obtain ⟨d, hd⟩ : ∃ d, ds[i]? = some d := ⟨ds[i]'(by omega), by rw [List.getElem?_eq_getElem (by omega)]⟩
    cases hod : o.dst with
    | some d' =>
      rw [hod] at h1
      simp only [Bool.and_eq_true, decide_eq_true_eq, beq_iff_eq] at h1
      show ({ a with tmps := (putAll a.tmps ds xs 0).setIfInBounds d' v } : Act) = { a with tmps := putAll a.tmps ds (upd xs i v) 0 }
      rw [putAll_setI ds a.tmps xs i v hnd h1.2 (by rw [hN]; exact h1.1)]
    | none =>
      rw [hod] at h1
      simp only [decide_eq_true_eq] at h1
      have h2 : ds.getD i 0 = d := by simp [hd]
      rw [h2] at h1
      show ({ a with tmps := putAll a.tmps ds xs 0 } : Act) = { a with tmps := putAll a.tmps ds (upd xs i v) 0 }
      have := putAll_out ds a.tmps xs 0 i v hnd hd (by rw [hN]; exact h1)
      rw [Nat.zero_add] at this
      rw [this]
  simp only [Bool.and_eq_true, beq_iff_eq] at hB
  obtain ⟨⟨hn, hB⟩, hback⟩ := hB
  have hall : ∀ j, j < l → onB' .any ops l j = true := fun j hj => List.all_eq_true.1 hB j (List.mem_range.2 hj)
  refine region_inv hm (fun listed a' w => listed.size = l + 1 ∧ ((listed.getD l true = false ∧ R W0 w ∧ ∃ xs, a' = frOf a ds xs ∧ ∀ j, j < l → listed.getD j false = true → T j (xs j) w) ∨ ((∀ j, j < l + 1 → listed.getD j true = true) ∧ Q .normal a' w))) ?_ ?_ ?_
  · refine ⟨by simp [hn], .inl ⟨by simp [hn], hw, fun j => a.tmps.getD (ds.getD j 0) undef, ?_, fun j hj hl => ?_⟩⟩
    · show a = { a with tmps := putAll a.tmps ds _ 0 }
      rw [putAll_sameI ds a.tmps _ hnd (fun j d h _ => by simp [h])]
    · rw [hn] at hl
      simp [show j < l + 1 by omega] at hl
  · rintro listed a' w i hi ⟨hsz, hI⟩
    obtain ⟨hun, o, ho, hdep⟩ := mem_ready.1 hi
    have hil : i < l + 1 := by rw [← hn]; exact (Array.getElem?_eq_some_iff.1 ho).1
    rcases hI with ⟨hl', hx, xs, rfl, hxs⟩ | ⟨hfull, _⟩
    rotate_left
    · rw [hfull i hil] at hun; cases hun
    have hon : ∀ j, onB' .any ops i j = true → listed.getD j false = true := fun j hj => by
      obtain ⟨o', ho', e, he, hb, hk⟩ := onB_spec hj
      have : o = o' := Option.some.inj (ho.symm.trans ho')
      subst this
      rw [← hk]; exact hdep e he hb
    by_cases hi' : i = l
    · subst hi'
      have hdone : ∀ j, j < i → listed.getD j false = true := fun j hj => hon j (hall j hj)
      have hfin : ∀ j, j < i + 1 → (listed.setIfInBounds i true).getD j true = true := fun j hj => by
        by_cases hji : j = i
        · subst hji
          exact getD_false_true (getD_set_self hun)
        · rw [getD_set_other true (Ne.symm hji)]
          exact getD_false_true (hdone j (by omega))
      have h2 := hlast o ho xs w hx (fun j hj => hxs j hj (hdone j hj)) _ rfl (hot xs) (hev xs) (fun a' w' => (listed.setIfInBounds i true).size = i + 1 ∧ (((listed.setIfInBounds i true).getD i true = false ∧ R W0 w' ∧ ∃ xs, a' = frOf a ds xs ∧ ∀ j, j < i → (listed.setIfInBounds i true).getD j false = true → T j (xs j) w') ∨ ((∀ j, j < i + 1 → (listed.setIfInBounds i true).getD j true = true) ∧ Q .normal a' w'))) (fun a' w' hq => ⟨by simpa using hsz, .inr ⟨hfin, hq⟩⟩)
      unfold wpOp
      rw [ho]
      simp only
      split
      · rename_i hw'; rw [if_pos hw'] at h2; exact .inl h2
      · rename_i hw'; rw [if_neg hw'] at h2; exact h2
    · have hil' : i < l := by omega
      have h2 := hstep i hil' o ho (frOf a ds xs) xs w hx (hot xs) (hev xs) (fun j hj => by
        by_cases hjl : j < l
        · exact hxs j hjl (hon j hj)
        · have h3 := getD_false_true (hon j hj)
          have h4 : j < listed.size := by
            rcases Nat.lt_or_ge j listed.size with h' | h'
            · exact h'
            · have := hon j hj; simp [Array.getElem?_eq_none h'] at this
          obtain rfl : j = l := by omega
          rw [hl'] at h3; cases h3) (fun a' w' => (listed.setIfInBounds i true).size = l + 1 ∧ (((listed.setIfInBounds i true).getD l true = false ∧ R W0 w' ∧ ∃ xs, a' = frOf a ds xs ∧ ∀ j, j < l → (listed.setIfInBounds i true).getD j false = true → T j (xs j) w') ∨ ((∀ j, j < l + 1 → (listed.setIfInBounds i true).getD j true = true) ∧ Q .normal a' w'))) (fun v w' he hkeep hv => by
        refine ⟨by simpa using hsz, .inl ⟨by rw [getD_set_other true hi']; exact hl', hR _ _ _ hx he, upd xs i v, hput i o hil' ho xs v, fun j hj hl' => ?_⟩⟩
        by_cases hji : j = i
        · subst hji; rw [upd_self]; exact hv
        · rw [upd_ne xs v hji]
          rw [getD_set_other false (Ne.symm hji)] at hl'
          exact hkeep j _ hji (hxs j hj hl'))
      unfold wpOp
      rw [ho]
      simp only
      split
      · rename_i hw'; rw [if_pos hw'] at h2; exact .inl h2
      · rename_i hw'; rw [if_neg hw'] at h2; exact h2
  · rintro listed a' w hr ⟨hsz, hI⟩
    rcases hI with ⟨hl', _, xs, _, _⟩ | ⟨_, hq⟩
    · exfalso
      have hle : ∀ i, i < l + 1 → listed.getD i true = false → False := by
        intro i
        induction i using Nat.strongRecOn with
        | ind i ih =>
          intro hil hun
          obtain ⟨o, ho⟩ : ∃ o, ops[i]? = some o := ⟨ops[i]'(by omega), by rw [Array.getElem?_eq_getElem (by omega)]⟩
          by_cases hd : ∀ e ∈ o.after, Region.binds .any e = true → listed.getD e.on false = true
          · have : i ∈ Region.ready .any ops listed := mem_ready.2 ⟨hun, o, ho, hd⟩
            rw [hr] at this; cases this
          · simp only [Classical.not_forall] at hd
            obtain ⟨e, he, hb, hne⟩ := hd
            have hlt := slBackB_spec hback ho e he hb
            refine ih e.on hlt (by omega) ?_
            have h4 : e.on < listed.size := by omega
            simp [h4] at hne ⊢
            exact hne
      exact hle l (by omega) hl'
    · exact hq
end
end Go.Proofs.YtkigmpholnfkbaaGreat
/- As SlotR, without a last operation, and with a permission U for each operation not yet done. No program in sight. -/
namespace Go.Proofs.YtkigmpholnfkbaaGreat
open Go.RowKit
section
variable {P : Program} {ops : Array Oper} {Q : Exit → Act → World → Prop}
def updB (D : Nat → Bool) (i : Nat) : Nat → Bool := fun j => if j = i then true else D j
def StepU (P : Program) (ops : Array Oper) (Q : Exit → Act → World → Prop) (a : Act) (ds : List Nat) (N : Nat) (R : World → World → Prop) (W0 : World) (T : Nat → Value → World → Prop) (U : Nat → World → Prop) (dep : Nat → Nat → Bool) (spec : Nat → Bool) (J : (Nat → Bool) → (Nat → Value) → Prop) (i : Nat) : Prop :=
  ∀ o, ops[i]? = some o → ∀ (b : Act) (xs : Nat → Value) (w : World), R W0 w → (∀ k, ds.contains k = false → b.eval (.tmp k) = a.eval (.tmp k)) → (∀ j d, ds[j]? = some d → d < N → b.eval (.tmp d) = xs j) → (∀ j, onB' .any ops i j = true → T j (xs j) w) → U i w → ∀ D : Nat → Bool, (∀ j, D j = true → T j (xs j) w) → D i = false → (∀ j, onB' .any ops i j = true → D j = true) → (∀ j, dep j i = true → D j = false) → J D xs →
    ∀ K : Act → World → Prop, (∀ v w', R w w' → (∀ j u, j ≠ i → dep j i = false → T j u w → T j u w') → (∀ j, j ≠ i → dep i j = false → U j w → U j w') → T i v w' → (spec i = true → J (updB D i) (upd xs i v)) → K (b.put o.dst v) w') → if Region.wanted o (yielded ops b.tmps) = true then Oper.wp P o b w K Q else K (b.put o.dst undef) w
def depB (ops : Array Oper) (dep : Nat → Nat → Bool) : Bool := (List.range ops.size).all fun i => (List.range ops.size).all fun j => !dep i j || onB' .any ops i j || (List.range i).any fun k => onB' .any ops i k && dep k j
theorem getD_true_false {listed : Array Bool} {i : Nat} (h : listed.getD i true = false) : listed.getD i false = false := by
  rcases Nat.lt_or_ge i listed.size with h' | h'
  · simp [h'] at h ⊢; exact h
  · simp [Array.getElem?_eq_none h'] at h
theorem region_slotsU {id n N : Nat} {a : Act} {w W0 : World} (R : World → World → Prop) (ds : List Nat) (T : Nat → Value → World → Prop) (U : Nat → World → Prop) (dep : Nat → Nat → Bool) (spec : Nat → Bool) (J : (Nat → Bool) → (Nat → Value) → Prop) (hm : P.follows .mixedOrders = true)
    (hB : (ops.size == n && slBackB ops && depB ops dep) = true)
    (hD : (ds.length == n && decide ds.Nodup && (List.range n).all (fun i => match (ops[i]?).bind (·.dst) with | some d => decide (d < N) && (ds[i]? == some d) | none => decide (N ≤ ds.getD i 0))) = true) (hN : a.tmps.size = N) (hw : R W0 w.drew)
    (hR : ∀ a b c, R a b → R b c → R a c) (h0 : ∀ j, j < n → U j w.drew) (hJ0 : ∀ xs, J (fun _ => false) xs) (hJq : ∀ i D xs v, spec i = false → J D xs → J (updB D i) (upd xs i v)) (hstep : ∀ i, i < n → StepU P ops Q a ds N R W0 T U dep spec J i)
    (hend : ∀ xs w, R W0 w → (∀ j, j < n → T j (xs j) w) → (∃ D : Nat → Bool, (∀ j, j < n → D j = true) ∧ J D xs) → ∀ b, b = frOf a ds xs → (∀ k, ds.contains k = false → b.eval (.tmp k) = a.eval (.tmp k)) → (∀ j d, ds[j]? = some d → d < N → b.eval (.tmp d) = xs j) → Q .normal b w) :
    (Code.region id ops true).wp P Q a w := by
  simp only [Bool.and_eq_true, beq_iff_eq, decide_eq_true_eq] at hD
  obtain ⟨⟨hl, hnd⟩, hdst⟩ := hD
  have hev : ∀ xs j d, ds[j]? = some d → d < N → (frOf a ds xs).eval (.tmp d) = xs j := fun xs j d h hd => by
    show (putAll a.tmps ds xs 0).getD d undef = _
    have := putAll_at ds a.tmps xs 0 j hnd h (by rw [hN]; exact hd)
    rw [Nat.zero_add] at this
    rw [Array.getD_eq_getD_getElem?, this]; rfl
  have hot : ∀ xs k, ds.contains k = false → (frOf a ds xs).eval (.tmp k) = a.eval (.tmp k) := fun xs k h => by
    show (putAll a.tmps ds xs 0).getD k undef = a.tmps.getD k undef
    rw [Array.getD_eq_getD_getElem?, Array.getD_eq_getD_getElem?, putAll_other ds a.tmps xs 0 (by simpa using h)]
  have hput : ∀ i o, i < n → ops[i]? = some o → ∀ xs v, (frOf a ds xs).put o.dst v = frOf a ds (upd xs i v) := fun i o hi ho xs v => by
    have h1 := List.all_eq_true.1 hdst i (List.mem_range.2 hi)
    rw [ho] at h1
    simp only [Option.bind_some] at h1
    obtain ⟨d, hd⟩ : ∃ d, ds[i]? = some d := ⟨ds[i]'(by omega), by rw [List.getElem?_eq_getElem (by omega)]⟩
    cases hod : o.dst with
    | some d' =>
      rw [hod] at h1
      simp only [Bool.and_eq_true, decide_eq_true_eq, beq_iff_eq] at h1
      show ({ a with tmps := (putAll a.tmps ds xs 0).setIfInBounds d' v } : Act) = { a with tmps := putAll a.tmps ds (upd xs i v) 0 }
      rw [putAll_setI ds a.tmps xs i v hnd h1.2 (by rw [hN]; exact h1.1)]
    | none =>
      rw [hod] at h1
      simp only [decide_eq_true_eq] at h1
      have h2 : ds.getD i 0 = d := by simp [hd]
      rw [h2] at h1
      show ({ a with tmps := putAll a.tmps ds xs 0 } : Act) = { a with tmps := putAll a.tmps ds (upd xs i v) 0 }
      have := putAll_out ds a.tmps xs 0 i v hnd hd (by rw [hN]; exact h1)
      rw [Nat.zero_add] at this
      rw [this]
  simp only [Bool.and_eq_true, beq_iff_eq] at hB
  obtain ⟨⟨hn, hback⟩, hdepB⟩ := hB
  refine region_inv hm (fun listed a' w => listed.size = n ∧ R W0 w ∧ (∀ i j, listed.getD i false = true → onB' .any ops i j = true → listed.getD j false = true) ∧ ∃ xs, a' = frOf a ds xs ∧ (∀ j, j < n → listed.getD j false = true → T j (xs j) w) ∧ (∀ j, j < n → listed.getD j true = false → U j w) ∧ J (fun j => listed.getD j false) xs) ?_ ?_ ?_
  · refine ⟨by simp [hn], hw, fun i j h _ => ?_, fun j => a.tmps.getD (ds.getD j 0) undef, ?_, fun j hj hl => ?_, fun j hj _ => h0 j hj, ?_⟩
    · by_cases hi : i < ops.size <;> simp [hi] at h
    · show a = { a with tmps := putAll a.tmps ds _ 0 }
      rw [putAll_sameI ds a.tmps _ hnd (fun j d h _ => by simp [h])]
    · simp [show j < ops.size by omega] at hl
    · have e : (fun j => (Array.replicate ops.size false).getD j false) = fun _ => false := by
        funext j
        by_cases hj : j < ops.size <;> simp [hj]
      rw [e]; exact hJ0 _
  · rintro listed a' w i hi ⟨hsz, hx, hcl, xs, rfl, hxs, hus, hJ⟩
    obtain ⟨hun, o, ho, hdep⟩ := mem_ready.1 hi
    have hil : i < n := by rw [← hn]; exact (Array.getElem?_eq_some_iff.1 ho).1
    have hon : ∀ j, onB' .any ops i j = true → listed.getD j false = true := fun j hj => by
      obtain ⟨o', ho', e, he, hb, hk⟩ := onB_spec hj
      have : o = o' := Option.some.inj (ho.symm.trans ho')
      subst this
      rw [← hk]; exact hdep e he hb
    have hlt : ∀ j, listed.getD j false = true → j < n := fun j h => by
      rcases Nat.lt_or_ge j listed.size with h' | h'
      · omega
      · simp [Array.getElem?_eq_none h'] at h
    have hdone : ∀ k, k < n → (∀ j, onB' .any ops k j = true → listed.getD j false = true) → ∀ j, j < n → dep k j = true → listed.getD j false = true := by
      intro k
      induction k using Nat.strongRecOn with
      | ind k ih =>
        intro hki hk j hj hd
        have h1 := List.all_eq_true.1 (List.all_eq_true.1 hdepB k (List.mem_range.2 (by omega))) j (List.mem_range.2 (by omega))
        rw [hd] at h1
        simp only [Bool.not_true, Bool.false_or, Bool.or_eq_true] at h1
        rcases h1 with h1 | h1
        · exact hk j h1
        · obtain ⟨m, hm', h2⟩ := List.any_eq_true.1 h1
          simp only [Bool.and_eq_true] at h2
          have hmk := List.mem_range.1 hm'
          exact ih m hmk (by omega) (fun j' hj' => hcl m j' (hk m h2.1) hj') j hj h2.2
    have hfar : ∀ j, dep j i = true → listed.getD j false = false := fun j hd => by
      cases hl : listed.getD j false
      · rfl
      · exfalso
        have hjn := hlt j hl
        have h5 := hdone j hjn (fun j' hj' => hcl j j' hl hj') i hil hd
        rw [getD_true_false hun] at h5; cases h5
    have h2 := hstep i hil o ho (frOf a ds xs) xs w hx (hot xs) (hev xs) (fun j hj => hxs j (hlt j (hon j hj)) (hon j hj)) (hus i hil hun) (fun j => listed.getD j false) (fun j hj => hxs j (hlt j hj) hj) (getD_true_false hun) hon hfar hJ
      (fun a' w' => (listed.setIfInBounds i true).size = n ∧ R W0 w' ∧ (∀ i' j, (listed.setIfInBounds i true).getD i' false = true → onB' .any ops i' j = true → (listed.setIfInBounds i true).getD j false = true) ∧ ∃ xs, a' = frOf a ds xs ∧ (∀ j, j < n → (listed.setIfInBounds i true).getD j false = true → T j (xs j) w') ∧ (∀ j, j < n → (listed.setIfInBounds i true).getD j true = false → U j w') ∧ J (fun j => (listed.setIfInBounds i true).getD j false) xs)
      (fun v w' he hT hU hv hjs => by
        have hmono : ∀ j, listed.getD j false = true → (listed.setIfInBounds i true).getD j false = true := fun j h => by
          by_cases hji : j = i
          · subst hji; exact getD_set_self hun
          · rw [getD_set_other false (Ne.symm hji)]; exact h
        refine ⟨by simpa using hsz, hR _ _ _ hx he, fun i' j h hj => ?_, upd xs i v, hput i o hil ho xs v, fun j hj hl' => ?_, fun j hj hl' => ?_, ?_⟩
        · by_cases hii : i' = i
          · subst hii; exact hmono j (hon j hj)
          · rw [getD_set_other false (Ne.symm hii)] at h
            exact hmono j (hcl i' j h hj)
        · by_cases hji : j = i
          · subst hji; rw [upd_self]; exact hv
          · rw [upd_ne xs v hji]
            rw [getD_set_other false (Ne.symm hji)] at hl'
            refine hT j _ hji ?_ (hxs j hj hl')
            cases hd : dep j i
            · rfl
            · rw [hfar j hd] at hl'; cases hl'
        · by_cases hji : j = i
          · subst hji
            rw [getD_false_true (getD_set_self hun)] at hl'; cases hl'
          · rw [getD_set_other true (Ne.symm hji)] at hl'
            refine hU j hji ?_ (hus j hj hl')
            cases hd : dep i j
            · rfl
            · have h3 := getD_false_true (hdone i hil hon j hj hd)
              rw [h3] at hl'; cases hl'
        · have e : (fun j => (listed.setIfInBounds i true).getD j false) = updB (fun j => listed.getD j false) i := by
            funext j
            unfold updB
            by_cases hji : j = i
            · subst hji; rw [if_pos rfl]; exact getD_set_self hun
            · rw [if_neg hji, getD_set_other false (Ne.symm hji)]
          rw [e]
          cases hsp : spec i
          · exact hJq i _ _ v hsp hJ
          · exact hjs hsp)
    unfold wpOp
    rw [ho]
    simp only
    split
    · rename_i hw'; rw [if_pos hw'] at h2; exact .inl h2
    · rename_i hw'; rw [if_neg hw'] at h2; exact h2
  · rintro listed a' w hr ⟨hsz, hx, _, xs, rfl, hxs, _, hJ⟩
    have hle : ∀ i, i < n → listed.getD i true = true := by
      intro i
      induction i using Nat.strongRecOn with
      | ind i ih =>
        intro hil
        cases hun : listed.getD i true
        · exfalso
          obtain ⟨o, ho⟩ : ∃ o, ops[i]? = some o := ⟨ops[i]'(by omega), by rw [Array.getElem?_eq_getElem (by omega)]⟩
          have : i ∈ Region.ready .any ops listed := mem_ready.2 ⟨hun, o, ho, fun e he hb => by
            have hlt := slBackB_spec hback ho e he hb
            have h4 : e.on < listed.size := by omega
            have h5 := ih e.on hlt (by omega)
            simp [h4] at h5 ⊢
            exact h5⟩
          rw [hr] at this; cases this
        · rfl
    have hfl : ∀ j, j < n → listed.getD j false = true := fun j hj => by have := hle j hj; simp [show j < listed.size by omega] at this ⊢; exact this
    exact hend xs w hx (fun j hj => hxs j hj (hfl j hj)) ⟨_, hfl, hJ⟩ _ rfl (hot xs) (hev xs)
end
end Go.Proofs.YtkigmpholnfkbaaGreat
/- plain: SpecAdds' loop: the rows backwards, the rest of the sum. No program in sight. -/
namespace Go.Proofs.YtkigmpholnfkbaaGreat
open Go.RowKit
theorem rev_take {l : List Int} {m : Nat} (hm : m < l.length) : (l.reverse).take (l.length - m) = (l.reverse).take (l.length - (m + 1)) ++ [gI l m] := by
  rw [show l.length - m = l.length - (m + 1) + 1 by omega]
  have hk : l.length - (m + 1) < l.reverse.length := by rw [List.length_reverse]; omega
  rw [List.take_succ_eq_append_getElem hk]
  have e : l.reverse[l.length - (m + 1)] = gI l m := by
    rw [List.getElem_reverse, gI_eq hm]
    have : l.length - 1 - (l.length - (m + 1)) = m := by omega
    simp only [this]
  rw [e]
theorem rev_all (l : List Int) : (l.reverse).take (l.length - 0) = l.reverse := List.take_of_length_le (by rw [List.length_reverse]; omega)
theorem rev_none (l : List Int) : (l.reverse).take (l.length - l.length) = [] := by simp
theorem rev_len {l : List Int} {m : Nat} (hm : m ≤ l.length) : ((l.reverse).take (l.length - m)).length = l.length - m := by rw [List.length_take, List.length_reverse]; omega
end Go.Proofs.YtkigmpholnfkbaaGreat
namespace Go.Proofs.YtkigmpholnfkbaaGreat
open Go.RowKit
structure Ad where
  W0 : World
  B : Nat
  P : Nat
  A1 : Option Addr
  c1 : Nat
  A2 : Option Addr
  c2 : Nat
  LP : List Int
  LE : List Int
  pn : ByteArray
  ppl : Int
  pmi : Int
  sP : Value
  sE : Value
  k : Nat
  aP : Addr
  aE : Addr
  xp : Int
  xe : Int
def Ad.vP (d : Ad) : Value := .slice d.A1 d.LP.length d.c1
def Ad.vE (d : Ad) : Value := .slice d.A2 d.LE.length d.c2
def Ad.blk (d : Ad) (w : World) (z1 z2 : Value) : Prop := Blk 36 w d.B [.string d.pn, z1, z2, .int .i64 d.ppl, .int .i64 d.pmi]
def Ad.src (d : Ad) (w : World) : Prop := Blk 36 w d.P [.string d.pn, d.sP, d.sE, .int .i64 d.ppl, .int .i64 d.pmi]
structure AdOk (d : Ad) : Prop where
  b : d.blk d.W0 d.vP d.vE
  s : d.src d.W0
  p : OwnI d.W0 (d.B + 1) d.vP d.LP
  e : OwnI d.W0 (d.B + 1) d.vE d.LE
  ne : ∀ g, d.vP.ownBlock = some g → d.vE.ownBlock ≠ some g
  hP : d.P < d.B
  aP : d.aP.block < d.B
  aE : d.aE.block < d.B
  cP : d.W0.cell? d.aP = some (.int .i64 d.xp)
  cE : d.W0.cell? d.aE = some (.int .i64 d.xe)
def addK (d : Ad) (b : Nat) : Prop := b = d.B ∨ d.vP.ownBlock = some b ∨ d.vE.ownBlock = some b
theorem addK_ge {d : Ad} (h : AdOk d) {b : Nat} (hb : addK d b) : d.B ≤ b ∧ b < d.W0.heap.size := by
  rcases hb with rfl | hb | hb
  · exact ⟨Nat.le_refl _, h.b.lt⟩
  · have := World.ownsRow.lt h.p b hb; omega
  · have := World.ownsRow.lt h.e b hb; omega
def addR (d : Ad) (w w' : World) : Prop := Kept (addK d) w w' ∧ ((∃ z1 z2, d.blk w z1 z2) → ∃ z1 z2, d.blk w' z1 z2)
theorem addR_refl (d : Ad) (w : World) : addR d w w := ⟨Kept.refl _ _, fun h => h⟩
theorem addR_ext {d : Ad} {w w' : World} (h : Ext w w') : addR d w w' := ⟨h.kept _, fun ⟨a, b, c⟩ => ⟨a, b, c.ext h⟩⟩
theorem addR_src {d : Ad} (h : AdOk d) {w : World} (hr : addR d d.W0 w) : d.src w := hr.1.blk h.s (fun hk => by have := (addK_ge h hk).1; have := h.hP; omega)
theorem addR_cell {d : Ad} (h : AdOk d) {w : World} (hr : addR d d.W0 w) {a : Addr} (ha : a.block < d.B) : w.cell? a = d.W0.cell? a :=
  World.cell?_of_block (hr.1.block a.block (by have := h.b.lt; omega) (fun hk => by have := (addK_ge h hk).1; omega))
def addN (d : Ad) (x : Int) (v : Value) (w : World) : Prop := ∃ g, v = .slice (some ⟨g, 0, none⟩) 1 1 ∧ d.W0.heap.size ≤ g ∧ Blk 3 w g [.int .i64 x]
def addO (d : Ad) (v0 : Value) (L : List Int) (v : Value) (w : World) : Prop := OwnI w (d.B + 1) v L ∧ ∀ g, v.ownBlock = some g → v0.ownBlock = some g ∨ d.W0.heap.size ≤ g
def addT (d : Ad) (j : Nat) (v : Value) (w : World) : Prop := match j with
  | 0 => v = .pointer (some ⟨d.B, 1, none⟩)
  | 1 => v = d.vP
  | 2 => v = .pointer (some ⟨d.P, 1, none⟩)
  | 3 => v = d.sP
  | 4 => v = .int .i64 d.k
  | 5 => v = .pointer (some d.aP)
  | 6 => v = .int .i64 d.xp
  | 7 => addN d d.xp v w
  | 8 => addO d d.vP (d.LP ++ [d.xp]) v w
  | 9 => v = .pointer (some ⟨d.B, 2, none⟩)
  | 10 => v = d.vE
  | 11 => v = .pointer (some ⟨d.P, 2, none⟩)
  | 12 => v = d.sE
  | 13 => v = .int .i64 d.k
  | 14 => v = .pointer (some d.aE)
  | 15 => v = .int .i64 d.xe
  | 16 => addN d d.xe v w
  | 17 => addO d d.vE (d.LE ++ [d.xe]) v w
  | 18 => v = .pointer (some ⟨d.B, 1, none⟩)
  | 19 => addO d d.vP (d.LP ++ [d.xp]) v w ∧ ∃ z, d.blk w v z
  | 20 => v = .pointer (some ⟨d.B, 2, none⟩)
  | 21 => addO d d.vE (d.LE ++ [d.xe]) v w ∧ ∃ z, d.blk w z v
  | _ => True
def addU (d : Ad) (j : Nat) (w : World) : Prop := match j with
  | 1 => ∃ z, d.blk w d.vP z
  | 8 => OwnI w (d.B + 1) d.vP d.LP
  | 10 => ∃ z, d.blk w z d.vE
  | 17 => OwnI w (d.B + 1) d.vE d.LE
  | _ => True
def addDep (i j : Nat) : Bool := [(8, 1), (17, 8), (17, 1), (17, 10), (19, 8), (19, 17), (19, 1), (19, 10), (21, 8), (21, 17), (21, 19), (21, 1), (21, 10)].contains (i, j)
def addSpec (i : Nat) : Bool := i == 8 || i == 17 || i == 19 || i == 21
def apart (a b : Value) : Prop := ∀ g, a.ownBlock = some g → b.ownBlock ≠ some g
def addJ (D : Nat → Bool) (xs : Nat → Value) : Prop := ∀ i j, (i = 8 ∨ i = 19) → (j = 17 ∨ j = 21) → D i = true → D j = true → apart (xs i) (xs j)
theorem addJ_other (i : Nat) (D : Nat → Bool) (xs : Nat → Value) (v : Value) (hs : addSpec i = false) (h : addJ D xs) : addJ (updB D i) (upd xs i v) := by
  intro a b ha hb hda hdb
  have h1 : a ≠ i := by rintro rfl; rcases ha with rfl | rfl <;> simp [addSpec] at hs
  have h2 : b ≠ i := by rintro rfl; rcases hb with rfl | rfl <;> simp [addSpec] at hs
  rw [upd_ne xs v h1, upd_ne xs v h2]
  unfold updB at hda hdb
  rw [if_neg h1] at hda
  rw [if_neg h2] at hdb
  exact h a b ha hb hda hdb
theorem addO_ext {d : Ad} {v0 : Value} {L : List Int} {v : Value} {w w' : World} (h : addO d v0 L v w) (he : Ext w w') : addO d v0 L v w' := ⟨OwnI.ext h.1 he, h.2⟩
theorem addO_kept {d : Ad} {v0 : Value} {L : List Int} {v : Value} {S : Nat → Prop} {w w' : World} (h : addO d v0 L v w) (hk : Kept S w w') (hS : ∀ g, v.ownBlock = some g → ¬ S g) : addO d v0 L v w' := ⟨own_kept h.1 hk hS, h.2⟩
theorem addN_kept {d : Ad} {x : Int} {v : Value} {S : Nat → Prop} {w w' : World} (h : addN d x v w) (hk : Kept S w w') (hS : ∀ g, S g → g < d.W0.heap.size) : addN d x v w' := by
  obtain ⟨g, h1, h2, h3⟩ := h
  exact ⟨g, h1, h2, hk.blk h3 (fun hs => by have := hS g hs; omega)⟩
theorem addT_ext {d : Ad} {j : Nat} {v : Value} {w w' : World} (he : Ext w w') (h : addT d j v w) : addT d j v w' := by
  unfold addT at h ⊢
  split at h <;> first | exact h | exact addO_ext h he | (obtain ⟨g, h1, h2, h3⟩ := h; exact ⟨g, h1, h2, h3.ext he⟩) | (obtain ⟨h1, z, h2⟩ := h; exact ⟨addO_ext h1 he, z, h2.ext he⟩)
theorem addU_ext {d : Ad} {j : Nat} {w w' : World} (he : Ext w w') (h : addU d j w) : addU d j w' := by
  unfold addU at h ⊢
  split at h <;> first | exact OwnI.ext h he | (obtain ⟨z, h2⟩ := h; exact ⟨z, h2.ext he⟩) | trivial
theorem addU_start {d : Ad} (h : AdOk d) (j : Nat) : addU d j d.W0 := by
  unfold addU
  split
  · exact ⟨_, h.b⟩
  · exact h.p
  · exact ⟨_, h.b⟩
  · exact h.e
  · trivial
theorem addZ_join {d : Ad} {w : World} {a b z1 z2 : Value} (h1 : d.blk w a z1) (h2 : d.blk w z2 b) : d.blk w a b := by
  have c1 : w.cell? ⟨d.B, 2, none⟩ = some z1 := Blk.cell h1 2
  have c2 : w.cell? ⟨d.B, 2, none⟩ = some b := Blk.cell h2 2
  rw [c1] at c2
  injection c2 with c2
  rw [← c2]; exact h1
/- the appends -/
theorem addT_8 {d : Ad} (hd : AdOk d) {w w' : World} (hk : Kept (fun b => d.vP.ownBlock = some b) w w') {j : Nat} {v : Value} (hj : j ≠ 8) (hdep : addDep j 8 = false) (h : addT d j v w) : addT d j v w' := by
  have hS : ∀ g, d.vP.ownBlock = some g → g < d.W0.heap.size := fun g hg => (World.ownsRow.lt hd.p g hg).2
  unfold addT at h ⊢
  split at h <;> first | exact h | exact addN_kept h hk hS | exact absurd rfl hj | (simp [addDep] at hdep)
theorem addU_8 {d : Ad} (hd : AdOk d) {w w' : World} (hk : Kept (fun b => d.vP.ownBlock = some b) w w') {j : Nat} (hj : j ≠ 8) (hdep : addDep 8 j = false) (h : addU d j w) : addU d j w' := by
  unfold addU at h ⊢
  split at h
  · simp [addDep] at hdep
  · exact absurd rfl hj
  · obtain ⟨z, h2⟩ := h
    exact ⟨z, hk.blk h2 (fun hs => by have := (World.ownsRow.lt hd.p _ hs).1; omega)⟩
  · exact own_kept h hk (fun g hg hs => hd.ne g hs hg)
  · trivial
theorem addT_17 {d : Ad} (hd : AdOk d) {w w' : World} (hk : Kept (fun b => d.vE.ownBlock = some b) w w') {j : Nat} {v : Value} (hj : j ≠ 17) (hdep : addDep j 17 = false) (h : addT d j v w) : addT d j v w' := by
  have hS : ∀ g, d.vE.ownBlock = some g → g < d.W0.heap.size := fun g hg => (World.ownsRow.lt hd.e g hg).2
  unfold addT at h ⊢
  split at h <;> first | exact h | exact addN_kept h hk hS | exact absurd rfl hj | (simp [addDep] at hdep; done) | skip
  refine addO_kept h hk (fun g hg hs => ?_)
  rcases h.2 g hg with h1 | h1
  · exact hd.ne g h1 hs
  · have := hS g hs; omega
theorem addU_17 {d : Ad} {w w' : World} {j : Nat} (hj : j ≠ 17) (hdep : addDep 17 j = false) (h : addU d j w) : addU d j w' := by
  unfold addU at h ⊢
  split at h <;> first | trivial | exact absurd rfl hj | (simp [addDep] at hdep)
/- the stores -/
theorem addT_19 {d : Ad} (hd : AdOk d) {w w' : World} (hk : Kept (fun b => b = d.B) w w') {j : Nat} {v : Value} (hj : j ≠ 19) (hdep : addDep j 19 = false) (h : addT d j v w) : addT d j v w' := by
  have hS : ∀ g, g = d.B → g < d.W0.heap.size := fun g hg => by rw [hg]; exact hd.b.lt
  unfold addT at h ⊢
  split at h <;> first | exact h | exact addN_kept h hk hS | exact absurd rfl hj | (simp [addDep] at hdep; done) | exact addO_kept h hk (fun g hg hs => by have := (World.ownsRow.lt h.1 g hg).1; omega)
theorem addU_19 {d : Ad} {w w' : World} {j : Nat} (hdep : addDep 19 j = false) (h : addU d j w) : addU d j w' := by
  unfold addU at h ⊢
  split at h <;> first | trivial | (simp [addDep] at hdep)
theorem addT_21 {d : Ad} (hd : AdOk d) {w : World} {u : Value} {j : Nat} {v : Value} (hj : j ≠ 21) (h : addT d j v w) : addT d j v (w.setCell ⟨d.B, 2, none⟩ u) := by
  have hS : ∀ g, g = d.B → g < d.W0.heap.size := fun g hg => by rw [hg]; exact hd.b.lt
  have hk : Kept (fun b => b = d.B) w (w.setCell ⟨d.B, 2, none⟩ u) := (Kept.refl (fun b => b = d.B) w).set (p := ⟨d.B, 2, none⟩) (.inr rfl) u
  have hO : ∀ {v0 L v}, addO d v0 L v w → addO d v0 L v (w.setCell ⟨d.B, 2, none⟩ u) := fun h => addO_kept h hk (fun g hg hs => by have := (World.ownsRow.lt h.1 g hg).1; omega)
  unfold addT at h ⊢
  split at h <;> first | exact h | exact addN_kept h hk hS | exact absurd rfl hj | exact hO h | skip
  obtain ⟨h1, z, h2⟩ := h
  exact ⟨hO h1, u, h2.set 2 u⟩
theorem addU_21 {d : Ad} {w w' : World} {j : Nat} (hdep : addDep 21 j = false) (h : addU d j w) : addU d j w' := by
  unfold addU at h ⊢
  split at h <;> first | trivial | (simp [addDep] at hdep)
theorem addR_own {d : Ad} {w w' : World} {r : Value} (hK : ∀ b, r.ownBlock = some b → addK d b ∧ b ≠ d.B) (hg : w.grownBy w' r.ownBlock) : Kept (fun b => r.ownBlock = some b) w w' ∧ addR d w w' := by
  have hk : Kept (fun b => r.ownBlock = some b) w w' := ⟨hg.os, hg.tape, hg.output, hg.size, fun k hk hn => hg.block k hk (fun e => hn e.symm)⟩
  refine ⟨hk, hk.mono (fun k _ h => (hK k h).1), fun ⟨a, b, c⟩ => ⟨a, b, hk.blk c (fun h => (hK _ h).2 rfl)⟩⟩
theorem addR_set {d : Ad} {w : World} {c : Nat} (hc : c = 1 ∨ c = 2) (u : Value) : addR d w (w.setCell ⟨d.B, c, none⟩ u) := by
  refine ⟨(Kept.refl (addK d) w).set (p := ⟨d.B, c, none⟩) (.inr (.inl rfl)) u, fun ⟨a, b, h⟩ => ?_⟩
  rcases hc with rfl | rfl
  · exact ⟨u, b, h.set 1 u⟩
  · exact ⟨a, u, h.set 2 u⟩
theorem addO_new {d : Ad} {v0 : Value} {L : List Int} {x : Int} {w w' : World} {g cap : Nat} (h0 : d.W0.heap.size ≤ w.heap.size) (hown : w'.ownsRow (d.B + 1) 3 1 (.slice (some ⟨g, 0, none⟩) (L.length + 1) cap) (L.length + 1) (icells L ++ [.int .i64 x])) (hat : v0.ownBlock = some g ∨ g = w.heap.size) : addO d v0 (L ++ [x]) (.slice (some ⟨g, 0, none⟩) (L.length + 1) cap) w' := by
  refine ⟨?_, fun g' hg' => ?_⟩
  · unfold OwnI icells
    rw [List.length_append, List.map_append]
    exact hown
  · have : g = g' := by simpa [Value.ownBlock] using hg'
    subst this
    rcases hat with h | h
    · exact .inl h
    · exact .inr (by omega)
theorem addJ_8 {D : Nat → Bool} {xs : Nat → Value} {v : Value} (hf : ∀ j, addDep j 8 = true → D j = false) : addJ (updB D 8) (upd xs 8 v) := by
  intro a b ha hb hda hdb
  have h2 : b ≠ 8 := by rintro rfl; omega
  unfold updB at hdb
  rw [if_neg h2] at hdb
  rcases hb with rfl | rfl
  · rw [hf 17 (by decide)] at hdb; cases hdb
  · rw [hf 21 (by decide)] at hdb; cases hdb
theorem addJ_17 {D : Nat → Bool} {xs : Nat → Value} {v : Value} (hf : ∀ j, addDep j 17 = true → D j = false) (h : apart (xs 8) v) : addJ (updB D 17) (upd xs 17 v) := by
  intro a b ha hb hda hdb
  unfold updB at hda hdb
  rcases ha with rfl | rfl
  · rcases hb with rfl | rfl
    · exact h
    · rw [if_neg (by decide), hf 21 (by decide)] at hdb; cases hdb
  · rw [if_neg (by decide), hf 19 (by decide)] at hda; cases hda
theorem addJ_19 {D : Nat → Bool} {xs : Nat → Value} (h8 : D 8 = true) (hj : addJ D xs) : addJ (updB D 19) (upd xs 19 (xs 8)) := by
  intro a b ha hb hda hdb
  have h2 : b ≠ 19 := by rintro rfl; omega
  unfold updB at hdb
  rw [if_neg h2] at hdb
  rw [upd_ne _ _ h2]
  rcases ha with rfl | rfl
  · exact hj 8 b (.inl rfl) hb h8 hdb
  · rw [upd_self]; exact hj 8 b (.inl rfl) hb h8 hdb
theorem addJ_21 {D : Nat → Bool} {xs : Nat → Value} (h17 : D 17 = true) (hj : addJ D xs) : addJ (updB D 21) (upd xs 21 (xs 17)) := by
  intro a b ha hb hda hdb
  have h2 : a ≠ 21 := by rintro rfl; omega
  unfold updB at hda
  rw [if_neg h2] at hda
  rw [upd_ne _ _ h2]
  rcases hb with rfl | rfl
  · exact hj a 17 ha (.inl rfl) hda h17
  · rw [upd_self]; exact hj a 17 ha (.inl rfl) hda h17
theorem addO_apart {d : Ad} (hd : AdOk d) {L : List Int} {v : Value} {w : World} {g cap n : Nat} (h : addO d d.vP L v w) (hat : d.vE.ownBlock = some g ∨ g = w.heap.size) : apart v (.slice (some ⟨g, 0, none⟩) n cap) := by
  intro b hb he
  have : g = b := by simpa [Value.ownBlock] using he
  subst this
  have h1 := (World.ownsRow.lt h.1 g hb).2
  rcases hat with h2 | h2
  · rcases h.2 g hb with h3 | h3
    · exact hd.ne g h3 h2
    · have := (World.ownsRow.lt hd.e g h2).2; omega
  · omega
end Go.Proofs.YtkigmpholnfkbaaGreat
