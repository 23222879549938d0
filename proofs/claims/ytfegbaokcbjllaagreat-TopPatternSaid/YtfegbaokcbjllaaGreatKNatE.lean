/- natural.DivMod and Gcd by numbers below 2^64 -/
import Derived.Test.YtfegbaokcbjllaaGreatKSlotL
import Derived.Test.YtfegbaokcbjllaaGreatKNatG
/- As Slots, over any relation R of worlds (what the steps keep), and with operations that leave no value (stores). No program in sight. -/
namespace Go.Proofs.YtfegbaokcbjllaaGreat
open Go.RowKit
section
variable {P : Program} {ops : Array Oper} {Q : Exit → Act → World → Prop}
theorem putAll_out : ∀ (ds : List Nat) (t : Array Value) (xs : Nat → Value) (i j : Nat) {d : Nat} (v : Value), ds.Nodup → ds[j]? = some d → t.size ≤ d → putAll t ds (upd xs (i + j) v) i = putAll t ds xs i
 |[], _, _, _, _, _, _, _, h, _ => by simp at h
 |d' :: ds, t, xs, i, 0, d, v, hn, h, hs => by
  obtain rfl : d' = d := by simpa using h
  unfold putAll
  rw [Array.setIfInBounds_eq_of_size_le hs, Array.setIfInBounds_eq_of_size_le hs]
  have key : ∀ (l : List Nat) (t : Array Value) (k : Nat), i < k → putAll t l (upd xs (i + 0) v) k = putAll t l xs k := by
   intro l
   induction l with
   |nil => intro t k _; rfl
   |cons e l ih => intro t k hk; unfold putAll; rw [upd_ne xs v (by omega)]; exact ih _ _ (by omega)
  exact key ds t (i + 1) (by omega)
 |d' :: ds, t, xs, i, j + 1, d, v, hn, h, hs => by
  unfold putAll
  rw [upd_ne xs v (show i ≠ i + (j + 1) by omega)]
  have := putAll_out ds (t.setIfInBounds d' (xs i)) xs (i + 1) j v (List.nodup_cons.1 hn).2 (by simpa using h) (by simpa using hs)
  rw [show i + 1 + j = i + (j + 1) by omega] at this
  exact this
theorem putAll_setI : ∀ (ds : List Nat) (t : Array Value) (xs : Nat → Value) (j : Nat) {d : Nat} (v : Value), ds.Nodup → ds[j]? = some d → d < t.size → (putAll t ds xs 0).setIfInBounds d v = putAll t ds (upd xs j v) 0 := by
 intro ds t xs j d v hn h hd
 apply Array.ext_getElem?
 intro k
 by_cases hk : k = d
 ·subst hk
  have := putAll_at ds t (upd xs j v) 0 j hn h hd
  rw [Nat.zero_add] at this
  rw [this, upd_self, Array.getElem?_setIfInBounds]
  simp [putAll_size, hd]
 ·rw [Array.getElem?_setIfInBounds_ne (Ne.symm hk)]
  by_cases hm : k ∈ ds
  ·by_cases hks : k < t.size
   ·obtain ⟨q, hq⟩ := List.mem_iff_getElem?.1 hm
    rw [putAll_at ds t _ 0 q hn hq hks, putAll_at ds t _ 0 q hn hq hks, upd_ne]
    intro e
    have : q = j := by omega
    subst this
    rw [hq] at h
    exact hk (Option.some.inj h)
   ·rw [Array.getElem?_eq_none (by rw [putAll_size]; omega), Array.getElem?_eq_none (by rw [putAll_size]; omega)]
  ·rw [putAll_other ds t _ 0 hm, putAll_other ds t _ 0 hm]
theorem putAll_sameI (ds : List Nat) (t : Array Value) (xs : Nat → Value) (hn : ds.Nodup) (h : ∀ j d, ds[j]? = some d → d < t.size → t.getD d undef = xs j) : putAll t ds xs 0 = t := by
 apply Array.ext_getElem?
 intro k
 by_cases hm : k ∈ ds
 ·obtain ⟨q, hq⟩ := List.mem_iff_getElem?.1 hm
  by_cases hk : k < t.size
  ·rw [putAll_at ds t xs 0 q hn hq hk, Nat.zero_add, ← h q k hq hk]
   simp [hk]
  ·rw [Array.getElem?_eq_none (by rw [putAll_size]; omega), Array.getElem?_eq_none (by omega)]
 ·rw [putAll_other ds t xs 0 hm]
def StepR (P : Program) (ops : Array Oper) (Q : Exit → Act → World → Prop) (a : Act) (ds : List Nat) (N : Nat) (R : World → World → Prop) (W0 : World) (T : Nat → Value → World → Prop) (i : Nat) : Prop :=
 ∀ o, ops[i]? = some o → ∀ (b : Act) (xs : Nat → Value) (w : World), R W0 w → (∀ k, ds.contains k = false → b.eval (.tmp k) = a.eval (.tmp k)) → (∀ j d, ds[j]? = some d → d < N → b.eval (.tmp d) = xs j) → (∀ j, onB' .any ops i j = true → T j (xs j) w) →
  ∀ K : Act → World → Prop, (∀ v w', R w w' → (∀ j u, j ≠ i → T j u w → T j u w') → T i v w' → K (b.put o.dst v) w') → if Region.wanted o (yielded ops b.tmps) = true then Oper.wp P o b w K Q else K (b.put o.dst undef) w
theorem region_slotsR {id l N : Nat} {a : Act} {w W0 : World} (R : World → World → Prop) (ds : List Nat) (T : Nat → Value → World → Prop) (hm : P.follows .mixedOrders = true)
  (hB : (ops.size == l + 1 && (List.range l).all (fun j => onB' .any ops l j) && slBackB ops) = true)
  (hD : (ds.length == l && decide ds.Nodup && (List.range l).all (fun i => match (ops[i]?).bind (·.dst) with | some d => decide (d < N) && (ds[i]? == some d) | none => decide (N ≤ ds.getD i 0))) = true) (hN : a.tmps.size = N) (hw : R W0 w.drew)
  (hR : ∀ a b c, R a b → R b c → R a c) (hstep : ∀ i, i < l → StepR P ops Q a ds N R W0 T i)
  (hlast : ∀ o, ops[l]? = some o → ∀ xs w, R W0 w → (∀ j, j < l → T j (xs j) w) → ∀ b, b = frOf a ds xs → (∀ k, ds.contains k = false → b.eval (.tmp k) = a.eval (.tmp k)) → (∀ j d, ds[j]? = some d → d < N → b.eval (.tmp d) = xs j) →
   ∀ K : Act → World → Prop, (∀ a' w', Q .normal a' w' → K a' w') → if Region.wanted o (yielded ops b.tmps) = true then Oper.wp P o b w K Q else K (b.put o.dst undef) w) :
  (Code.region id ops true).wp P Q a w := by
 simp only [Bool.and_eq_true, beq_iff_eq, decide_eq_true_eq] at hD
 obtain ⟨⟨hl, hnd⟩, hdst⟩ := hD
 have hev : ∀ xs j d, ds[j]? = some d → d < N → (frOf a ds xs).eval (.tmp d) = xs j := fun xs j d h hd => by
  show (putAll a.tmps ds xs 0).getD d undef = _
  have := putAll_at ds a.tmps xs 0 j hnd h (by rw [hN]; exact hd)
  rw [Nat.zero_add] at this
  rw [Array.getD_eq_getD_getElem?, this]; rfl
 have hot : ∀ xs k, ds.contains k = false → (frOf a ds xs).eval (.tmp k) = a.eval (.tmp k) := fun xs k h => by
  show (putAll a.tmps ds xs 0).getD k undef = a.tmps.getD k undef
  rw [Array.getD_eq_getD_getElem?, Array.getD_eq_getD_getElem?, putAll_other ds a.tmps xs 0 (by simpa using h)]
 have hput : ∀ i o, i < l → ops[i]? = some o → ∀ xs v, (frOf a ds xs).put o.dst v = frOf a ds (upd xs i v) := fun i o hi ho xs v => by
  have h1 := List.all_eq_true.1 hdst i (List.mem_range.2 hi)
  rw [ho] at h1
  simp only [Option.bind_some] at h1
  obtain ⟨d, hd⟩ : ∃ d, ds[i]? = some d := ⟨ds[i]'(by omega), by rw [List.getElem?_eq_getElem (by omega)]⟩
  cases hod : o.dst with
  |some d' =>
   rw [hod] at h1
   simp only [Bool.and_eq_true, decide_eq_true_eq, beq_iff_eq] at h1
   show ({ a with tmps := (putAll a.tmps ds xs 0).setIfInBounds d' v } : Act) = { a with tmps := putAll a.tmps ds (upd xs i v) 0 }
   rw [putAll_setI ds a.tmps xs i v hnd h1.2 (by rw [hN]; exact h1.1)]
  |none =>
   rw [hod] at h1
   simp only [decide_eq_true_eq] at h1
   have h2 : ds.getD i 0 = d := by simp [hd]
   rw [h2] at h1
   show ({ a with tmps := putAll a.tmps ds xs 0 } : Act) = { a with tmps := putAll a.tmps ds (upd xs i v) 0 }
   have := putAll_out ds a.tmps xs 0 i v hnd hd (by rw [hN]; exact h1)
   rw [Nat.zero_add] at this
   rw [this]
 simp only [Bool.and_eq_true, beq_iff_eq] at hB
 obtain ⟨⟨hn, hB⟩, hback⟩ := hB
 have hall : ∀ j, j < l → onB' .any ops l j = true := fun j hj => List.all_eq_true.1 hB j (List.mem_range.2 hj)
 refine region_inv hm (fun listed a' w => listed.size = l + 1 ∧ ((listed.getD l true = false ∧ R W0 w ∧ ∃ xs, a' = frOf a ds xs ∧ ∀ j, j < l → listed.getD j false = true → T j (xs j) w) ∨ ((∀ j, j < l + 1 → listed.getD j true = true) ∧ Q .normal a' w))) ?_ ?_ ?_
 ·refine ⟨by simp [hn], .inl ⟨by simp [hn], hw, fun j => a.tmps.getD (ds.getD j 0) undef, ?_, fun j hj hl => ?_⟩⟩
  ·show a = { a with tmps := putAll a.tmps ds _ 0 }
   rw [putAll_sameI ds a.tmps _ hnd (fun j d h _ => by simp [h])]
  ·rw [hn] at hl
   simp [show j < l + 1 by omega] at hl
 ·rintro listed a' w i hi ⟨hsz, hI⟩
  obtain ⟨hun, o, ho, hdep⟩ := mem_ready.1 hi
  have hil : i < l + 1 := by rw [← hn]; exact (Array.getElem?_eq_some_iff.1 ho).1
  rcases hI with ⟨hl', hx, xs, rfl, hxs⟩ | ⟨hfull, _⟩
  rotate_left
  ·rw [hfull i hil] at hun; cases hun
  have hon : ∀ j, onB' .any ops i j = true → listed.getD j false = true := fun j hj => by
   obtain ⟨o', ho', e, he, hb, hk⟩ := onB_spec hj
   have : o = o' := Option.some.inj (ho.symm.trans ho')
   subst this
   rw [← hk]; exact hdep e he hb
  by_cases hi' : i = l
  ·subst hi'
   have hdone : ∀ j, j < i → listed.getD j false = true := fun j hj => hon j (hall j hj)
   have hfin : ∀ j, j < i + 1 → (listed.setIfInBounds i true).getD j true = true := fun j hj => by
    by_cases hji : j = i
    ·subst hji
     exact getD_false_true (getD_set_self hun)
    ·rw [getD_set_other true (Ne.symm hji)]
     exact getD_false_true (hdone j (by omega))
   have h2 := hlast o ho xs w hx (fun j hj => hxs j hj (hdone j hj)) _ rfl (hot xs) (hev xs) (fun a' w' => (listed.setIfInBounds i true).size = i + 1 ∧ (((listed.setIfInBounds i true).getD i true = false ∧ R W0 w' ∧ ∃ xs, a' = frOf a ds xs ∧ ∀ j, j < i → (listed.setIfInBounds i true).getD j false = true → T j (xs j) w') ∨ ((∀ j, j < i + 1 → (listed.setIfInBounds i true).getD j true = true) ∧ Q .normal a' w'))) (fun a' w' hq => ⟨by simpa using hsz, .inr ⟨hfin, hq⟩⟩)
   unfold wpOp
   rw [ho]
   simp only
   split
   ·rename_i hw'; rw [if_pos hw'] at h2; exact .inl h2
   ·rename_i hw'; rw [if_neg hw'] at h2; exact h2
  ·have hil' : i < l := by omega
   have h2 := hstep i hil' o ho (frOf a ds xs) xs w hx (hot xs) (hev xs) (fun j hj => by
    by_cases hjl : j < l
    ·exact hxs j hjl (hon j hj)
    ·have h3 := getD_false_true (hon j hj)
     have h4 : j < listed.size := by
      rcases Nat.lt_or_ge j listed.size with h' | h'
      ·exact h'
      ·have := hon j hj; simp [Array.getElem?_eq_none h'] at this
     obtain rfl : j = l := by omega
     rw [hl'] at h3; cases h3) (fun a' w' => (listed.setIfInBounds i true).size = l + 1 ∧ (((listed.setIfInBounds i true).getD l true = false ∧ R W0 w' ∧ ∃ xs, a' = frOf a ds xs ∧ ∀ j, j < l → (listed.setIfInBounds i true).getD j false = true → T j (xs j) w') ∨ ((∀ j, j < l + 1 → (listed.setIfInBounds i true).getD j true = true) ∧ Q .normal a' w'))) (fun v w' he hkeep hv => by
    refine ⟨by simpa using hsz, .inl ⟨by rw [getD_set_other true hi']; exact hl', hR _ _ _ hx he, upd xs i v, hput i o hil' ho xs v, fun j hj hl' => ?_⟩⟩
    by_cases hji : j = i
    ·subst hji; rw [upd_self]; exact hv
    ·rw [upd_ne xs v hji]
     rw [getD_set_other false (Ne.symm hji)] at hl'
     exact hkeep j _ hji (hxs j hj hl'))
   unfold wpOp
   rw [ho]
   simp only
   split
   ·rename_i hw'; rw [if_pos hw'] at h2; exact .inl h2
   ·rename_i hw'; rw [if_neg hw'] at h2; exact h2
 ·rintro listed a' w hr ⟨hsz, hI⟩
  rcases hI with ⟨hl', _, xs, _, _⟩ | ⟨_, hq⟩
  ·exfalso
   have hle : ∀ i, i < l + 1 → listed.getD i true = false → False := by
    intro i
    induction i using Nat.strongRecOn with
    |ind i ih =>
     intro hil hun
     obtain ⟨o, ho⟩ : ∃ o, ops[i]? = some o := ⟨ops[i]'(by omega), by rw [Array.getElem?_eq_getElem (by omega)]⟩
     by_cases hd : ∀ e ∈ o.after, Region.binds .any e = true → listed.getD e.on false = true
     ·have : i ∈ Region.ready .any ops listed := mem_ready.2 ⟨hun, o, ho, hd⟩
      rw [hr] at this; cases this
     ·simp only [Classical.not_forall] at hd
      obtain ⟨e, he, hb, hne⟩ := hd
      have hlt := slBackB_spec hback ho e he hb
      refine ih e.on hlt (by omega) ?_
      have h4 : e.on < listed.size := by omega
      simp [h4] at hne ⊢
      exact hne
   exact hle l (by omega) hl'
  ·exact hq
end
section
variable {P : Program} {ops : Array Oper} {Q : Exit → Act → World → Prop}
def updB (D : Nat → Bool) (i : Nat) : Nat → Bool := fun j => if j = i then true else D j
def StepU (P : Program) (ops : Array Oper) (Q : Exit → Act → World → Prop) (a : Act) (ds : List Nat) (N : Nat) (R : World → World → Prop) (W0 : World) (T : Nat → Value → World → Prop) (U : Nat → World → Prop) (dep : Nat → Nat → Bool) (spec : Nat → Bool) (J : (Nat → Bool) → (Nat → Value) → Prop) (i : Nat) : Prop :=
 ∀ o, ops[i]? = some o → ∀ (b : Act) (xs : Nat → Value) (w : World), R W0 w → (∀ k, ds.contains k = false → b.eval (.tmp k) = a.eval (.tmp k)) → (∀ j d, ds[j]? = some d → d < N → b.eval (.tmp d) = xs j) → (∀ j, onB' .any ops i j = true → T j (xs j) w) → U i w → ∀ D : Nat → Bool, (∀ j, D j = true → T j (xs j) w) → D i = false → (∀ j, onB' .any ops i j = true → D j = true) → (∀ j, dep j i = true → D j = false) → J D xs →
  ∀ K : Act → World → Prop, (∀ v w', R w w' → (∀ j u, j ≠ i → dep j i = false → T j u w → T j u w') → (∀ j, j ≠ i → dep i j = false → U j w → U j w') → T i v w' → (spec i = true → J (updB D i) (upd xs i v)) → K (b.put o.dst v) w') → if Region.wanted o (yielded ops b.tmps) = true then Oper.wp P o b w K Q else K (b.put o.dst undef) w
def depB (ops : Array Oper) (dep : Nat → Nat → Bool) : Bool := (List.range ops.size).all fun i => (List.range ops.size).all fun j => !dep i j || onB' .any ops i j || (List.range i).any fun k => onB' .any ops i k && dep k j
theorem getD_true_false {listed : Array Bool} {i : Nat} (h : listed.getD i true = false) : listed.getD i false = false := by
 rcases Nat.lt_or_ge i listed.size with h' | h'
 ·simp [h'] at h ⊢; exact h
 ·simp [Array.getElem?_eq_none h'] at h
theorem region_slotsU {id n N : Nat} {a : Act} {w W0 : World} (R : World → World → Prop) (ds : List Nat) (T : Nat → Value → World → Prop) (U : Nat → World → Prop) (dep : Nat → Nat → Bool) (spec : Nat → Bool) (J : (Nat → Bool) → (Nat → Value) → Prop) (hm : P.follows .mixedOrders = true)
  (hB : (ops.size == n && slBackB ops && depB ops dep) = true)
  (hD : (ds.length == n && decide ds.Nodup && (List.range n).all (fun i => match (ops[i]?).bind (·.dst) with | some d => decide (d < N) && (ds[i]? == some d) | none => decide (N ≤ ds.getD i 0))) = true) (hN : a.tmps.size = N) (hw : R W0 w.drew)
  (hR : ∀ a b c, R a b → R b c → R a c) (h0 : ∀ j, j < n → U j w.drew) (hJ0 : ∀ xs, J (fun _ => false) xs) (hJq : ∀ i D xs v, spec i = false → J D xs → J (updB D i) (upd xs i v)) (hstep : ∀ i, i < n → StepU P ops Q a ds N R W0 T U dep spec J i)
  (hend : ∀ xs w, R W0 w → (∀ j, j < n → T j (xs j) w) → (∃ D : Nat → Bool, (∀ j, j < n → D j = true) ∧ J D xs) → ∀ b, b = frOf a ds xs → (∀ k, ds.contains k = false → b.eval (.tmp k) = a.eval (.tmp k)) → (∀ j d, ds[j]? = some d → d < N → b.eval (.tmp d) = xs j) → Q .normal b w) :
  (Code.region id ops true).wp P Q a w := by
 simp only [Bool.and_eq_true, beq_iff_eq, decide_eq_true_eq] at hD
 obtain ⟨⟨hl, hnd⟩, hdst⟩ := hD
 have hev : ∀ xs j d, ds[j]? = some d → d < N → (frOf a ds xs).eval (.tmp d) = xs j := fun xs j d h hd => by
  show (putAll a.tmps ds xs 0).getD d undef = _
  have := putAll_at ds a.tmps xs 0 j hnd h (by rw [hN]; exact hd)
  rw [Nat.zero_add] at this
  rw [Array.getD_eq_getD_getElem?, this]; rfl
 have hot : ∀ xs k, ds.contains k = false → (frOf a ds xs).eval (.tmp k) = a.eval (.tmp k) := fun xs k h => by
  show (putAll a.tmps ds xs 0).getD k undef = a.tmps.getD k undef
  rw [Array.getD_eq_getD_getElem?, Array.getD_eq_getD_getElem?, putAll_other ds a.tmps xs 0 (by simpa using h)]
 have hput : ∀ i o, i < n → ops[i]? = some o → ∀ xs v, (frOf a ds xs).put o.dst v = frOf a ds (upd xs i v) := fun i o hi ho xs v => by
  have h1 := List.all_eq_true.1 hdst i (List.mem_range.2 hi)
  rw [ho] at h1
  simp only [Option.bind_some] at h1
  obtain ⟨d, hd⟩ : ∃ d, ds[i]? = some d := ⟨ds[i]'(by omega), by rw [List.getElem?_eq_getElem (by omega)]⟩
  cases hod : o.dst with
  |some d' =>
   rw [hod] at h1
   simp only [Bool.and_eq_true, decide_eq_true_eq, beq_iff_eq] at h1
   show ({ a with tmps := (putAll a.tmps ds xs 0).setIfInBounds d' v } : Act) = { a with tmps := putAll a.tmps ds (upd xs i v) 0 }
   rw [putAll_setI ds a.tmps xs i v hnd h1.2 (by rw [hN]; exact h1.1)]
  |none =>
   rw [hod] at h1
   simp only [decide_eq_true_eq] at h1
   have h2 : ds.getD i 0 = d := by simp [hd]
   rw [h2] at h1
   show ({ a with tmps := putAll a.tmps ds xs 0 } : Act) = { a with tmps := putAll a.tmps ds (upd xs i v) 0 }
   have := putAll_out ds a.tmps xs 0 i v hnd hd (by rw [hN]; exact h1)
   rw [Nat.zero_add] at this
   rw [this]
 simp only [Bool.and_eq_true, beq_iff_eq] at hB
 obtain ⟨⟨hn, hback⟩, hdepB⟩ := hB
 refine region_inv hm (fun listed a' w => listed.size = n ∧ R W0 w ∧ (∀ i j, listed.getD i false = true → onB' .any ops i j = true → listed.getD j false = true) ∧ ∃ xs, a' = frOf a ds xs ∧ (∀ j, j < n → listed.getD j false = true → T j (xs j) w) ∧ (∀ j, j < n → listed.getD j true = false → U j w) ∧ J (fun j => listed.getD j false) xs) ?_ ?_ ?_
 ·refine ⟨by simp [hn], hw, fun i j h _ => ?_, fun j => a.tmps.getD (ds.getD j 0) undef, ?_, fun j hj hl => ?_, fun j hj _ => h0 j hj, ?_⟩
  ·by_cases hi : i < ops.size <;> simp [hi] at h
  ·show a = { a with tmps := putAll a.tmps ds _ 0 }
   rw [putAll_sameI ds a.tmps _ hnd (fun j d h _ => by simp [h])]
  ·simp [show j < ops.size by omega] at hl
  ·have e : (fun j => (Array.replicate ops.size false).getD j false) = fun _ => false := by
    funext j
    by_cases hj : j < ops.size <;> simp [hj]
   rw [e]; exact hJ0 _
 ·rintro listed a' w i hi ⟨hsz, hx, hcl, xs, rfl, hxs, hus, hJ⟩
  obtain ⟨hun, o, ho, hdep⟩ := mem_ready.1 hi
  have hil : i < n := by rw [← hn]; exact (Array.getElem?_eq_some_iff.1 ho).1
  have hon : ∀ j, onB' .any ops i j = true → listed.getD j false = true := fun j hj => by
   obtain ⟨o', ho', e, he, hb, hk⟩ := onB_spec hj
   have : o = o' := Option.some.inj (ho.symm.trans ho')
   subst this
   rw [← hk]; exact hdep e he hb
  have hlt : ∀ j, listed.getD j false = true → j < n := fun j h => by
   rcases Nat.lt_or_ge j listed.size with h' | h'
   ·omega
   ·simp [Array.getElem?_eq_none h'] at h
  have hdone : ∀ k, k < n → (∀ j, onB' .any ops k j = true → listed.getD j false = true) → ∀ j, j < n → dep k j = true → listed.getD j false = true := by
   intro k
   induction k using Nat.strongRecOn with
   |ind k ih =>
    intro hki hk j hj hd
    have h1 := List.all_eq_true.1 (List.all_eq_true.1 hdepB k (List.mem_range.2 (by omega))) j (List.mem_range.2 (by omega))
    rw [hd] at h1
    simp only [Bool.not_true, Bool.false_or, Bool.or_eq_true] at h1
    rcases h1 with h1 | h1
    ·exact hk j h1
    ·obtain ⟨m, hm', h2⟩ := List.any_eq_true.1 h1
     simp only [Bool.and_eq_true] at h2
     have hmk := List.mem_range.1 hm'
     exact ih m hmk (by omega) (fun j' hj' => hcl m j' (hk m h2.1) hj') j hj h2.2
  have hfar : ∀ j, dep j i = true → listed.getD j false = false := fun j hd => by
   cases hl : listed.getD j false
   ·rfl
   ·exfalso
    have hjn := hlt j hl
    have h5 := hdone j hjn (fun j' hj' => hcl j j' hl hj') i hil hd
    rw [getD_true_false hun] at h5; cases h5
  have h2 := hstep i hil o ho (frOf a ds xs) xs w hx (hot xs) (hev xs) (fun j hj => hxs j (hlt j (hon j hj)) (hon j hj)) (hus i hil hun) (fun j => listed.getD j false) (fun j hj => hxs j (hlt j hj) hj) (getD_true_false hun) hon hfar hJ
   (fun a' w' => (listed.setIfInBounds i true).size = n ∧ R W0 w' ∧ (∀ i' j, (listed.setIfInBounds i true).getD i' false = true → onB' .any ops i' j = true → (listed.setIfInBounds i true).getD j false = true) ∧ ∃ xs, a' = frOf a ds xs ∧ (∀ j, j < n → (listed.setIfInBounds i true).getD j false = true → T j (xs j) w') ∧ (∀ j, j < n → (listed.setIfInBounds i true).getD j true = false → U j w') ∧ J (fun j => (listed.setIfInBounds i true).getD j false) xs)
   (fun v w' he hT hU hv hjs => by
    have hmono : ∀ j, listed.getD j false = true → (listed.setIfInBounds i true).getD j false = true := fun j h => by
     by_cases hji : j = i
     ·subst hji; exact getD_set_self hun
     ·rw [getD_set_other false (Ne.symm hji)]; exact h
    refine ⟨by simpa using hsz, hR _ _ _ hx he, fun i' j h hj => ?_, upd xs i v, hput i o hil ho xs v, fun j hj hl' => ?_, fun j hj hl' => ?_, ?_⟩
    ·by_cases hii : i' = i
     ·subst hii; exact hmono j (hon j hj)
     ·rw [getD_set_other false (Ne.symm hii)] at h
      exact hmono j (hcl i' j h hj)
    ·by_cases hji : j = i
     ·subst hji; rw [upd_self]; exact hv
     ·rw [upd_ne xs v hji]
      rw [getD_set_other false (Ne.symm hji)] at hl'
      refine hT j _ hji ?_ (hxs j hj hl')
      cases hd : dep j i
      ·rfl
      ·rw [hfar j hd] at hl'; cases hl'
    ·by_cases hji : j = i
     ·subst hji
      rw [getD_false_true (getD_set_self hun)] at hl'; cases hl'
     ·rw [getD_set_other true (Ne.symm hji)] at hl'
      refine hU j hji ?_ (hus j hj hl')
      cases hd : dep i j
      ·rfl
      ·have h3 := getD_false_true (hdone i hil hon j hj hd)
       rw [h3] at hl'; cases hl'
    ·have e : (fun j => (listed.setIfInBounds i true).getD j false) = updB (fun j => listed.getD j false) i := by
      funext j
      unfold updB
      by_cases hji : j = i
      ·subst hji; rw [if_pos rfl]; exact getD_set_self hun
      ·rw [if_neg hji, getD_set_other false (Ne.symm hji)]
     rw [e]
     cases hsp : spec i
     ·exact hJq i _ _ v hsp hJ
     ·exact hjs hsp)
  unfold wpOp
  rw [ho]
  simp only
  split
  ·rename_i hw'; rw [if_pos hw'] at h2; exact .inl h2
  ·rename_i hw'; rw [if_neg hw'] at h2; exact h2
 ·rintro listed a' w hr ⟨hsz, hx, _, xs, rfl, hxs, _, hJ⟩
  have hle : ∀ i, i < n → listed.getD i true = true := by
   intro i
   induction i using Nat.strongRecOn with
   |ind i ih =>
    intro hil
    cases hun : listed.getD i true
    ·exfalso
     obtain ⟨o, ho⟩ : ∃ o, ops[i]? = some o := ⟨ops[i]'(by omega), by rw [Array.getElem?_eq_getElem (by omega)]⟩
     have : i ∈ Region.ready .any ops listed := mem_ready.2 ⟨hun, o, ho, fun e he hb => by
      have hlt := slBackB_spec hback ho e he hb
      have h4 : e.on < listed.size := by omega
      have h5 := ih e.on hlt (by omega)
      simp [h4] at h5 ⊢
      exact h5⟩
     rw [hr] at this; cases this
    ·rfl
  have hfl : ∀ j, j < n → listed.getD j false = true := fun j hj => by have := hle j hj; simp [show j < listed.size by omega] at this ⊢; exact this
  exact hend xs w hx (fun j hj => hxs j hj (hfl j hj)) ⟨_, hfl, hJ⟩ _ rfl (hot xs) (hev xs)
end
section
variable {P : Program} {ops : Array Oper} {Q : Exit → Act → World → Prop}
/- a region without a tail: every operation leaves a value -/
theorem region_slots0 {id l N : Nat} {a : Act} {w W0 : World} {L : List Oper} (ds : List Nat) (Ts : List (Value → World → Prop)) (hm : P.follows .mixedOrders = true)
  (hB : (L.toArray.size == l && slBackB L.toArray) = true) (hD : (ds.length == l && decide ds.Nodup && ds.all (fun d => decide (d < N)) && (List.range l).all (fun i => (L.toArray[i]?).bind (·.dst) == ds[i]?)) = true) (hN : a.tmps.size = N) (hw : Ext W0 w)
  (hT : KpL Ts) (hstep : ∀ i, i < l → StepB P L.toArray Q a ds W0 (tAt Ts) i)
  (hlast : ∀ xs w, Ext W0 w → (∀ j, j < l → tAt Ts j (xs j) w) → Q .normal (frOf a ds xs) w) :
  (Code.region id L.toArray true).wp P Q a w := by
 simp only [Bool.and_eq_true, beq_iff_eq] at hB
 obtain ⟨hn, hback⟩ := hB
 simp only [Bool.and_eq_true, beq_iff_eq, decide_eq_true_eq] at hD
 obtain ⟨⟨⟨hl, hnd⟩, hlt⟩, hdst⟩ := hD
 have hs : ∀ d ∈ ds, d < a.tmps.size := fun d hd => by rw [hN]; exact of_decide_eq_true (List.all_eq_true.1 hlt d hd)
 have hev : ∀ xs j d, ds[j]? = some d → (frOf a ds xs).eval (.tmp d) = xs j := fun xs j d h => by
  show (putAll a.tmps ds xs 0).getD d undef = _
  have := putAll_at ds a.tmps xs 0 j hnd h (hs d (List.mem_of_getElem? h))
  rw [Nat.zero_add] at this
  rw [Array.getD_eq_getD_getElem?, this]; rfl
 have hot : ∀ xs k, ds.contains k = false → (frOf a ds xs).eval (.tmp k) = a.eval (.tmp k) := fun xs k h => by
  show (putAll a.tmps ds xs 0).getD k undef = a.tmps.getD k undef
  rw [Array.getD_eq_getD_getElem?, Array.getD_eq_getD_getElem?, putAll_other ds a.tmps xs 0 (by simpa using h)]
 have hput : ∀ i o, i < l → L.toArray[i]? = some o → ∀ xs v, (frOf a ds xs).put o.dst v = frOf a ds (upd xs i v) := fun i o hi ho xs v => by
  have h1 := List.all_eq_true.1 hdst i (List.mem_range.2 hi)
  rw [ho] at h1
  have h2 : o.dst = ds[i]? := by simpa using h1
  obtain ⟨d, hd⟩ : ∃ d, ds[i]? = some d := ⟨ds[i]'(by omega), by rw [List.getElem?_eq_getElem (by omega)]⟩
  rw [h2, hd]
  show ({ a with tmps := (putAll a.tmps ds xs 0).setIfInBounds d v } : Act) = { a with tmps := putAll a.tmps ds (upd xs i v) 0 }
  have := putAll_set ds a.tmps xs 0 i v hnd hd hs
  rw [Nat.zero_add] at this
  rw [this]
 have hsz : L.length = l := by simpa using hn
 refine region_inv hm (fun listed a' w => listed.size = l ∧ Ext W0 w ∧ ∃ xs, a' = frOf a ds xs ∧ ∀ j, j < l → listed.getD j false = true → tAt Ts j (xs j) w) ?_ ?_ ?_
 ·refine ⟨by simp [hsz], hw.drew, fun j => a.tmps.getD (ds.getD j 0) undef, ?_, fun j hj hl => ?_⟩
  ·show a = { a with tmps := putAll a.tmps ds _ 0 }
   rw [putAll_same ds a.tmps _ hnd hs (fun j d h => by simp [h])]
  ·rw [hn] at hl
   simp [show j < l by omega] at hl
 ·rintro listed a' w i hi ⟨hsl, hx, xs, rfl, hxs⟩
  obtain ⟨hun, o, ho, hdep⟩ := mem_ready.1 hi
  have hil : i < l := by rw [← hn]; exact (Array.getElem?_eq_some_iff.1 ho).1
  have hon : ∀ j, onB' .any L.toArray i j = true → listed.getD j false = true := fun j hj => by
   obtain ⟨o', ho', e, he, hb, hk⟩ := onB_spec hj
   have : o = o' := Option.some.inj (ho.symm.trans ho')
   subst this
   rw [← hk]; exact hdep e he hb
  have h1 := hstep i hil o ho (frOf a ds xs) w hx (hot xs) (fun j d h hj => by
   rw [hev xs j d h]
   have hjl : j < l := by rw [← hl]; exact (List.getElem?_eq_some_iff.1 h).1
   exact hxs j hjl (hon j hj)) (fun a'' w' => (listed.setIfInBounds i true).size = l ∧ Ext W0 w' ∧ ∃ xs, a'' = frOf a ds xs ∧ ∀ j, j < l → (listed.setIfInBounds i true).getD j false = true → tAt Ts j (xs j) w') (fun v w' he hv => by
   refine ⟨by simpa using hsl, hx.trans he, upd xs i v, hput i o hil ho xs v, fun j hj hl' => ?_⟩
   by_cases hji : j = i
   ·subst hji; rw [upd_self]; exact hv
   ·rw [upd_ne xs v hji]
    rw [getD_set_other false (Ne.symm hji)] at hl'
    exact KpL.at hT j _ _ _ he (hxs j hj hl'))
  unfold wpOp
  rw [ho]
  simp only
  split
  ·rename_i hw'; rw [if_pos hw'] at h1; exact .inl h1
  ·rename_i hw'; rw [if_neg hw'] at h1; exact h1
 ·rintro listed a' w hr ⟨hsl, hx, xs, rfl, hxs⟩
  refine hlast xs w hx (fun j hj => hxs j hj ?_)
  have hle : ∀ i, i < l → listed.getD i true = false → False := by
   intro i
   induction i using Nat.strongRecOn with
   |ind i ih =>
    intro hil hun
    obtain ⟨o, ho⟩ : ∃ o, L.toArray[i]? = some o := ⟨L.toArray[i]'(by omega), by rw [Array.getElem?_eq_getElem (by omega)]⟩
    by_cases hd : ∀ e ∈ o.after, Region.binds .any e = true → listed.getD e.on false = true
    ·have : i ∈ Region.ready .any L.toArray listed := mem_ready.2 ⟨hun, o, ho, hd⟩
     rw [hr] at this; cases this
    ·simp only [Classical.not_forall] at hd
     obtain ⟨e, he, hb, hne⟩ := hd
     have hlt := slBackB_spec hback ho e he hb
     refine ih e.on hlt (by omega) ?_
     have h4 : e.on < listed.size := by omega
     simp [h4] at hne ⊢
     exact hne
  cases h : listed.getD j true with
  |true =>
   have h4 : j < listed.size := by omega
   simp [h4] at h ⊢; exact h
  |false => exact absurd h (fun h' => hle j hj h')
end
theorem limbs_two {y : Nat} (h0 : 4294967296 ≤ y) (h1 : y < 18446744073709551616) : limbs y = [y % 4294967296, y / 4294967296] := by
 rw [limbs_pos (by omega), limbs_small (by omega) (by omega)]
theorem shl_bd {y s : Nat} (hs : NormS (y / 4294967296) s) : y * 2 ^ s < 18446744073709551616 ∧ 9223372036854775808 ≤ y * 2 ^ s := by
 obtain ⟨a, b, c⟩ := hs
 obtain ⟨t, ht⟩ : ∃ t, t = y / 4294967296 := ⟨_, rfl⟩
 rw [← ht] at b c
 have hp := pow_split (s := s) (by omega)
 have h2 : t < 2 ^ (32 - s) := by
  rcases Nat.lt_or_ge t (2 ^ (32 - s)) with h | h
  ·exact h
  ·have := Nat.mul_le_mul_right (2 ^ s) h
   rw [Nat.mul_comm (2 ^ (32 - s))] at this
   omega
 have h3 : (t + 1) * 2 ^ s ≤ 4294967296 := by rw [← hp, Nat.mul_comm]; exact Nat.mul_le_mul_left _ h2
 have h5 := Nat.mul_le_mul_right (2 ^ s) (show y + 1 ≤ 4294967296 * (t + 1) by omega)
 have h8 := Nat.mul_le_mul_right (2 ^ s) (show 4294967296 * t ≤ y by omega)
 have h10 : 0 < 2 ^ s := Nat.two_pow_pos _
 rw [Nat.mul_assoc] at h5 h8
 rw [Nat.add_mul, Nat.one_mul] at h5
 exact ⟨by omega, by omega⟩
theorem top_two {y s : Nat} {r : List Nat} (hs : NormS (y / 4294967296) s) (hl : r.length = 3) (hok : LimOk r) (hr : natL r = y * 2 ^ s) : natL (r.take 2) = y * 2 ^ s ∧ 2147483648 ≤ gN (r.take 2) 1 ∧ LimOk (r.take 2) ∧ (r.take 2).length = 2 := by
 have hb := shl_bd hs
 have ht := natL_lt_take (l := r) (k := 2) hok (by omega) (by rw [hr]; omega)
 have h0 := gN_lt hok 0
 rw [hr] at ht
 refine ⟨ht.1, ?_, fun x hx => hok x (List.mem_of_mem_take hx), by rw [List.length_take]; omega⟩
 have h1 := ht.1
 match r, hl with
 |[a, b, c], _ =>
  simp [natL, gN] at h1 h0 ⊢
  omega
theorem ld_start {u0 v : List Nat} {k s : Nat} (hl : u0.length = k + 2) (hok : LimOk u0) (hs : s ≤ 31) (ht : gN u0 (k + 1) < 2 ^ s) (hv : 9223372036854775808 ≤ natL v) : LdI u0 v u0 (List.replicate k 0) 2 k := by
 have h31 : 2 ^ s ≤ 2147483648 := Nat.pow_le_pow_right (by omega) hs
 have e1 : natL (u0.drop k) = gN u0 k + 4294967296 * natL (u0.drop (k + 1)) := natL_drop (by omega)
 have e2 : natL (u0.drop (k + 1)) = gN u0 (k + 1) + 4294967296 * natL (u0.drop (k + 2)) := natL_drop (by omega)
 have e3 : natL (u0.drop (k + 2)) = 0 := by rw [List.drop_of_length_le (by omega)]; rfl
 have g := gN_lt hok k
 have hlt : natL (u0.drop k) < natL v := by omega
 exact ⟨rfl, hok, fun x hx => by rw [List.eq_of_mem_replicate hx]; omega, fun _ _ => rfl, hlt, by rw [List.drop_of_length_le (by simp)]; simp [natL]⟩
theorem ld_end {u0 v u q : List Nat} {x y s : Nat} (h : LdI u0 v u q 2 0) (hu : natL u0 = x * 2 ^ s) (hv : natL v = y * 2 ^ s) (hb : y * 2 ^ s < 18446744073709551616) (hl : 2 ≤ u.length) : natL q = x / y ∧ natL (u.take 2) / 2 ^ s = x % y := by
 obtain ⟨a, b⟩ := h.done
 have hp := Nat.two_pow_pos s
 have hlt := h.lt
 rw [hu, hv] at a b
 rw [hv, List.drop_zero] at hlt
 rw [Nat.mul_div_mul_right _ _ hp] at a
 rw [Nat.mul_mod_mul_right] at b
 have := (natL_lt_take h.ok hl (by omega)).1
 rw [this, b]
 exact ⟨a, Nat.mul_div_cancel _ hp⟩
theorem LdI.win {u0 v u q : List Nat} {n i : Nat} (h : LdI u0 v u q n (i + 1)) (hi : i < u.length) (hv : v.length = n) (hok : LimOk v) (hiu : i + n + 1 ≤ u.length) : natL ((u.drop i).take (n + 1)) < 4294967296 * natL v := by
 have hW : natL (u.drop i) = gN u i + 4294967296 * natL (u.drop (i + 1)) := natL_drop hi
 have hgi := gN_lt h.ok i
 have hVB : natL v < 4294967296 ^ n := by rw [← hv]; exact natL_lt hok
 have hlt := h.lt
 have hWB : natL (u.drop i) < 4294967296 * natL v := by omega
 have hokd : LimOk (u.drop i) := fun x hx => h.ok x (List.mem_of_mem_drop hx)
 have hT := natL_lt_take (l := u.drop i) (k := n + 1) hokd (by rw [List.length_drop]; omega) (by rw [Nat.pow_succ]; omega)
 rw [hT.1]; exact hWB
theorem gN_app_lt {a b : List Nat} {i : Nat} (h : i < a.length) : gN (a ++ b) i = gN a i := by simp [gN, List.getElem?_append_left h]
theorem gN_app_ge {a b : List Nat} {i : Nat} (h : a.length ≤ i) : gN (a ++ b) i = gN b (i - a.length) := by simp [gN, List.getElem?_append_right h]
theorem gN_take {l : List Nat} {i j : Nat} (h : i < j) : gN (l.take j) i = gN l i := by simp [gN, List.getElem?_take, h]
theorem gN_drop (l : List Nat) (i j : Nat) : gN (l.drop j) i = gN l (j + i) := by simp [gN, List.getElem?_drop]
theorem LdI.dig {r0 v r q u' : List Nat} {j D : Nat} (h : LdI r0 v r q 2 (j + 1)) (hq : j < q.length) (hv : v.length = 2) (hok : LimOk v) (hiu : j + 3 ≤ r.length) (hl : u'.length = (r.drop j).length) (hok' : LimOk u') (hhigh : ∀ i, 2 < i → gN u' i = gN (r.drop j) i)
  (hD : D = natL ((r.drop j).take 3) / natL v) (hr : natL (u'.take 3) = natL ((r.drop j).take 3) % natL v) : LdI r0 v (r.take j ++ u') (q.set j D) 2 j ∧ (r.take j ++ u').length = r.length := by
 have htl : (r.take j).length = j := by rw [List.length_take]; omega
 have hlen : (r.take j ++ u').length = r.length := by rw [List.length_append, htl, hl, List.length_drop]; omega
 have hdr : (r.take j ++ u').drop j = u' := by rw [List.drop_append_of_le_length (by rw [htl]; exact Nat.le_refl _), List.drop_of_length_le (by rw [htl]; exact Nat.le_refl _), List.nil_append]
 refine ⟨(h.step (by omega) hq hv hok (by omega) (by rw [← h.len]; omega) hlen ?_ ?_ ?_ hD (by rw [hdr]; exact hr)).2, hlen⟩
 ·intro x hx
  rcases List.mem_append.1 hx with hx | hx
  ·exact h.ok x (List.mem_of_mem_take hx)
  ·exact hok' x hx
 ·intro i hi
  rw [gN_app_lt (by rw [htl]; exact hi), gN_take hi]
 ·intro i hi
  rw [gN_app_ge (by rw [htl]; omega), htl, hhigh _ (by omega), gN_drop]
  congr 1; omega
/- what left answers; the block that a slice lies in -/
def bOf (v : Value) : Nat := match v with
 | .slice (some a) _ _ => a.block
 |_ => 0
def IsLf (base n N X s : Nat) : Value → World → Prop := fun v w => ∃ g r, v = .slice (some ⟨g, 0, none⟩) n (N + 1) ∧ Blk 192 w g (ucells r) ∧ base ≤ g ∧ r.length = N + 1 ∧ LimOk r ∧ natL r = X * 2 ^ s ∧ gN r N < 2 ^ s
theorem IsLf.kp (base n N X s : Nat) : Kp (IsLf base n N X s) := fun v w w' he h => by
 obtain ⟨g, r, h1, h2, h3⟩ := h
 exact ⟨g, r, h1, h2.ext he, h3⟩
theorem IsLf.lt {base n N X s : Nat} {v : Value} {w : World} (h : IsLf base n N X s v w) : bOf v < w.heap.size := by
 obtain ⟨g, r, rfl, h2, h3⟩ := h
 exact h2.lt
theorem IsLf.cut {base n N X s : Nat} {v : Value} {w : World} (h : IsLf base n N X s v w) (k : Nat) : ∃ g, v = .slice (some ⟨g, 0, none⟩) n (N + 1) ∧ IsLf base k N X s (.slice (some ⟨g, 0, none⟩) k (N + 1)) w := by
 obtain ⟨g, r, rfl, h2⟩ := h
 exact ⟨g, rfl, g, r, rfl, h2⟩
theorem left_lf (A : Option Addr) (n c s x : Nat) (W0 w : World) (he : Ext W0 w) (ha : LimsAt w A (limbs x)) (hl : (limbs x).length = n) (hn : n ≤ 1000) (hs : s ≤ 31) :
  Calls Tryz.prog 158 #[.slice A n c, .int .i64 (s : Int)] w fun e w' => ∃ v, e = .returned v ∧ IsLf W0.heap.size (n + 1) n x s v w' ∧ w.heap.size ≤ bOf v ∧ Ext w w' := by
 refine (left_any A n c s (limbs x) w ha (limbs_ok x) hl hn hs).mono ?_
 rintro e w' ⟨g, r, rfl, h1, h2, h3, h4, h5, h6, h7⟩
 rw [natL_limbs] at h5
 exact ⟨_, rfl, ⟨g, r, rfl, h1, Nat.le_trans he.size h2, h3, h4, h5, h6⟩, h2, h7⟩
def lfJ (D : Nat → Bool) (xs : Nat → Value) : Prop := (D 2 = true → D 5 = true → bOf (xs 2) ≠ bOf (xs 5)) ∧ (D 7 = true → bOf (xs 7) = bOf (xs 5)) ∧ (D 8 = true → bOf (xs 8) = bOf (xs 2)) ∧ (D 9 = true → bOf (xs 9) = bOf (xs 7))
def lfS (i : Nat) : Bool := i == 2 || i == 5 || i == 7 || i == 8 || i == 9
def lfD (j i : Nat) : Bool := (j == 7 && i == 5) || (j == 8 && i == 2) || (j == 9 && i == 7)
theorem lfJ_other {i : Nat} {D : Nat → Bool} {xs : Nat → Value} (v : Value) (hs : lfS i = false) (h : lfJ D xs) : lfJ (updB D i) (upd xs i v) := by
 simp [lfS] at hs
 obtain ⟨⟨⟨⟨h2, h5⟩, h7⟩, h8⟩, h9⟩ := hs
 unfold lfJ updB upd at *
 simp [Ne.symm h2, Ne.symm h5, Ne.symm h7, Ne.symm h8, Ne.symm h9]
 exact h
theorem lfJ_2 {D : Nat → Bool} {xs : Nat → Value} {v : Value} (h8 : D 8 = false) (h5 : D 5 = true → bOf v ≠ bOf (xs 5)) (h : lfJ D xs) : lfJ (updB D 2) (upd xs 2 v) := by
 unfold lfJ updB upd at *
 simp [h8]
 exact ⟨h5, h.2.1, h.2.2.2⟩
theorem lfJ_5 {D : Nat → Bool} {xs : Nat → Value} {v : Value} (h7 : D 7 = false) (h5 : D 2 = true → bOf (xs 2) ≠ bOf v) (h : lfJ D xs) : lfJ (updB D 5) (upd xs 5 v) := by
 unfold lfJ updB upd at *
 simp [h7]
 exact ⟨h5, h.2.2.1, h.2.2.2⟩
theorem lfJ_7 {D : Nat → Bool} {xs : Nat → Value} {v : Value} (h9 : D 9 = false) (h5 : bOf v = bOf (xs 5)) (h : lfJ D xs) : lfJ (updB D 7) (upd xs 7 v) := by
 unfold lfJ updB upd at *
 simp [h9]
 exact ⟨h.1, h5, h.2.2.1⟩
theorem lfJ_8 {D : Nat → Bool} {xs : Nat → Value} {v : Value} (h5 : bOf v = bOf (xs 2)) (h : lfJ D xs) : lfJ (updB D 8) (upd xs 8 v) := by
 unfold lfJ updB upd at *
 simp
 exact ⟨h.1, h.2.1, h5, h.2.2.2⟩
theorem lfJ_9 {D : Nat → Bool} {xs : Nat → Value} {v : Value} (h5 : bOf v = bOf (xs 7)) (h : lfJ D xs) : lfJ (updB D 9) (upd xs 9 v) := by
 unfold lfJ updB upd at *
 simp
 exact ⟨h.1, h.2.1, h.2.2.1, h5⟩
theorem lfJ.apart {D : Nat → Bool} {xs : Nat → Value} (h : lfJ D xs) (hD : ∀ j, j < 10 → D j = true) : bOf (xs 8) ≠ bOf (xs 9) := by
 obtain ⟨h1, h2, h3, h4⟩ := h
 rw [h3 (hD 8 (by omega)), h4 (hD 9 (by omega)), h2 (hD 7 (by omega))]
 exact h1 (hD 2 (by omega)) (hD 5 (by omega))
/- numbers -/
def IsN (n : Nat) : Value → World → Prop := fun v w => NatAt w v n
theorem IsN.kp (n : Nat) : Kp (IsN n) := fun _ _ _ he h => NatAt.ext h he
set_option maxRecDepth 100000 in
set_option maxHeartbeats 3200000 in
theorem ndivmod_two (u v : Value) (x y : Nat) (w : World) (hu : NatAt w u x) (hv : NatAt w v y) (hx : (limbs x).length ≤ 1000) (hy0 : 4294967296 ≤ y) (hy : y < 18446744073709551616) : Calls Tryz.prog 148 #[u, v] w (RetDv w x y) := by
 have HU := Lib.hid (fun W (he : Ext w W) => trimN_any u x W (hu.ext he))
 have HV := Lib.hid (fun W (he : Ext w W) => trimN_any v y W (hv.ext he))
 obtain ⟨A0, c0, rfl, _⟩ := hu
 obtain ⟨B0, d0, rfl, _⟩ := hv
 obtain ⟨n0, hn0⟩ : ∃ n, n = (limbs x).length := ⟨_, rfl⟩
 obtain ⟨m0, hm0⟩ : ∃ n, n = (limbs y).length := ⟨_, rfl⟩
 rw [← hn0] at HU ⊢
 rw [← hm0] at HV ⊢
 clear hn0 hm0
 go_enter Tryz.func148, Tryz.ntmps148
 go_wp2_with fail
 refine (HU.out _ (Ext.refl _)).mono ?_
 rintro e w1 ⟨u1, rfl, hu1, he1⟩
 have HU1 := Lib.hid hu1; have HX1 := Lib.hid he1
 obtain ⟨A, c, rfl, _, hca, hca'⟩ := hu1
 clear he1 HU
 go_wp2_with fail
 refine (HV.out _ HX1.out).mono ?_
 rintro e w2 ⟨v1, rfl, hv1, he2⟩
 have HV1 := Lib.hid hv1; have HX2 := Lib.hid (HX1.out.trans he2); have HU2 := Lib.hid (HU1.out.ext he2)
 obtain ⟨B, d, rfl, hB, hdb, hdb'⟩ := hv1
 have HBL := Lib.hid hB
 clear he2 HV HU1
 have hlt2 : (limbs y).length = 2 := by rw [limbs_two hy0 hy]; rfl
 have hB1 := hB 1 (by rw [hlt2]; omega)
 have hgy : gN (limbs y) 1 = y / 4294967296 := by rw [limbs_two hy0 hy]; rfl
 rw [hgy] at hB1
 obtain ⟨bb, ob, hBe, b0⟩ := hB1
 subst hBe
 have HCM := Lib.hid (ncmp_any _ _ x y w2 HU2.out HV1.out)
 have HNO := Lib.hid (fun W (he : Ext w2 W) => norm_any _ x W (HU2.out.ext he) hx)
 obtain ⟨A', c', e1, hA, _⟩ := HU2.out
 injection e1 with e1 _ e2
 subst e1 e2
 have HA := Lib.hid hA
 have hcl : (limbs x).length < (limbs y).length → x < y := limbs_len_lt
 have HCL : Hid ((limbs x).length = (limbs x).length) := rfl
 rw [hlt2] at HCM hcl hdb ⊢
 clear hA hB
 obtain ⟨n, hn⟩ : ∃ n, n = (limbs x).length := ⟨_, rfl⟩
 have HNE := Lib.hid hn
 rw [← hn] at HCM HNO hcl hx ⊢
 clear hn HCL hgy hlt2
 go_wp2_with fail
 refine (HCM.out).mono ?_
 rintro e w3 ⟨rfl, he3⟩
 by_cases hc : x < y
 ·have e1 : cmpI (x : Int) (y : Int) = -1 := by unfold cmpI; rw [if_pos (by omega)]
  rw [e1]
  clear e1
  go_wp2_with fail
  refine (HNO.out _ he3).mono ?_
  rintro e w4 ⟨v4, rfl, hv4, he4⟩
  go_wp2_with fail
  refine bodyPost_ret (v := .tuple #[.slice none 0 0, v4, .bool true]) (by simp [results, Tryz.results148, go_sem]) rfl ?_
  refine ⟨_, v4, rfl, ?_, ?_, HX2.out.trans (he3.trans he4)⟩
  ·rw [Nat.div_eq_of_lt hc]; exact nat_nil _
  ·rw [Nat.mod_eq_of_lt hc]; exact hv4
 ·have hcm : ∃ z : Int, cmpI (x : Int) (y : Int) = z ∧ 0 ≤ z := by
   by_cases h2 : y < x
   ·exact ⟨1, by unfold cmpI; rw [if_neg (by omega), if_pos (by omega)], by omega⟩
   ·exact ⟨0, by unfold cmpI; rw [if_neg (by omega), if_neg (by omega)], by omega⟩
  obtain ⟨z, hz, hz0⟩ := hcm
  rw [hz]
  clear hz
  have hz1 : ¬ z < 0 := by omega
  have hn2 : 2 ≤ n := by
   rcases Nat.lt_or_ge n 2 with h | h
   ·exact absurd (hcl h) hc
   ·exact h
  clear hcl
  have b3 := he3.cell b0
  obtain ⟨y1, hy1⟩ : ∃ t, t = y / 4294967296 := ⟨_, rfl⟩
  rw [← hy1] at b3
  have hyp : 0 < y1 := by omega
  have hyb : y1 < 4294967296 := by omega
  have HLZ := Lib.hid (fun W => lz32_any y1 W hyp hyb)
  rw [hy1] at HLZ
  have HY1 := Lib.hid hy1
  rw [← hy1] at HLZ
  clear hy1 b0
  have HX3 := Lib.hid he3
  clear he3
  go_upto_region 10 with fail
  go_wp2_with fail
  refine (HLZ.out _).mono ?_
  rintro e w4 ⟨s, rfl, hs, hw4⟩
  have hw5 := hw4.symm
  subst hw5
  clear hw4
  rw [HY1.out] at hs
  have HS := Lib.hid hs
  have hs31 := hs.1
  clear hs
  have HLA := Lib.hid (fun W (he : Ext w3 W) => left_lf A n c s x w3 W he (HA.out.ext (HX3.out.trans he)) HNE.out.symm hx hs31)
  have HLB := Lib.hid (fun W (he : Ext w3 W) => left_lf (some ⟨bb, ob, none⟩) 2 d s y w3 W he (HBL.out.ext (HX3.out.trans he)) (by rw [limbs_two hy0 hy]; rfl) (by omega) hs31)
  have HKPS : Hid (KpL [Fx (.slice A n c), Fx (.int .i64 (s : Int)), IsLf w3.heap.size (n + 1) n x s, Fx (.slice (some ⟨bb, ob, none⟩) 2 d), Fx (.int .i64 (s : Int)), IsLf w3.heap.size 3 2 y s, Fx (.int .i64 2), IsLf w3.heap.size 2 2 y s, IsLf w3.heap.size (n + 1) n x s, IsLf w3.heap.size 2 2 y s]) := ⟨Fx.kp _, Fx.kp _, IsLf.kp _ _ _ _ _, Fx.kp _, Fx.kp _, IsLf.kp _ _ _ _ _, Fx.kp _, IsLf.kp _ _ _ _ _, IsLf.kp _ _ _ _ _, IsLf.kp _ _ _ _ _, trivial⟩
  go_upto_region 11 with fail
  refine region_slotsU (n := 10) (N := 93) (W0 := w3) Ext [54, 55, 56, 57, 58, 59, 60, 61, 11, 12] (tAt [Fx (.slice A n c), Fx (.int .i64 (s : Int)), IsLf w3.heap.size (n + 1) n x s, Fx (.slice (some ⟨bb, ob, none⟩) 2 d), Fx (.int .i64 (s : Int)), IsLf w3.heap.size 3 2 y s, Fx (.int .i64 2), IsLf w3.heap.size 2 2 y s, IsLf w3.heap.size (n + 1) n x s, IsLf w3.heap.size 2 2 y s]) (fun _ _ => True) lfD lfS lfJ (by kernel_rfl) (by kernel_rfl) (by kernel_rfl) (by kernel_rfl) (Ext.drew (Ext.refl _)) (fun _ _ _ h k => h.trans k) (fun _ _ => trivial) (fun _ => by unfold lfJ; simp) (fun i D xs v hs hj => lfJ_other v hs hj) (fun i hi => ?_) ?_
  ·match i, hi with
  |0, _ =>
   refine so rfl ?_
   intro b xs W hR hb hv hd hU D hD hDi hDw hDf hJ K hK
   have e1 : b.eval (.tmp 0) = .slice A n c := hb 0 rfl
   refine sv rfl (v := .slice A n c) (w' := W) (fun ρ hρ hc => ?_) (hK _ _ (Ext.refl _) (fun _ _ _ _ h => h) (fun _ _ _ _ => trivial) rfl (fun h => absurd h (by decide)))
   have r1 := (hρ (.tmp 0)).trans e1
   simp [execOp, go_sem, r1]
  |1, _ =>
   refine so rfl ?_
   intro b xs W hR hb hv hd hU D hD hDi hDw hDf hJ K hK
   have e1 : b.eval (.tmp 10) = .int .i64 (s : Int) := hb 10 rfl
   refine sv rfl (v := .int .i64 (s : Int)) (w' := W) (fun ρ hρ hc => ?_) (hK _ _ (Ext.refl _) (fun _ _ _ _ h => h) (fun _ _ _ _ => trivial) rfl (fun h => absurd h (by decide)))
   have r1 := (hρ (.tmp 10)).trans e1
   simp [execOp, go_sem, r1]
  |2, _ =>
   refine so rfl ?_
   intro b xs W hR hb hv hd hU D hD hDi hDw hDf hJ K hK
   have e1 : b.eval (.tmp 54) = .slice A n c := (hv 0 54 rfl (by omega)).trans (hd 0 (by kernel_rfl))
   have e2 : b.eval (.tmp 55) = .int .i64 (s : Int) := (hv 1 55 rfl (by omega)).trans (hd 1 (by kernel_rfl))
   refine sc rfl 158 [.tmp 54, .tmp 55] #[141, 3] rfl _ Tryz.func158 rfl (by decide +kernel) [.slice A n c, .int .i64 (s : Int)] (by simp only [List.map_cons, List.map_nil, e1, e2]) (HLA.out W hR) (fun e W' h => ?_)
   obtain ⟨v, rfl, hv', hge, hx'⟩ := h
   exact ⟨_, rfl, hK _ _ hx' (fun j u _ _ h => KpL.at HKPS.out j u _ _ hx' h) (fun _ _ _ _ => trivial) hv' (fun _ => lfJ_2 (hDf 8 rfl) (fun h => by have := IsLf.lt (hD 5 h); omega) hJ)⟩
  |3, _ =>
   refine so rfl ?_
   intro b xs W hR hb hv hd hU D hD hDi hDw hDf hJ K hK
   have e1 : b.eval (.tmp 1) = .slice (some ⟨bb, ob, none⟩) 2 d := hb 1 rfl
   refine sv rfl (v := .slice (some ⟨bb, ob, none⟩) 2 d) (w' := W) (fun ρ hρ hc => ?_) (hK _ _ (Ext.refl _) (fun _ _ _ _ h => h) (fun _ _ _ _ => trivial) rfl (fun h => absurd h (by decide)))
   have r1 := (hρ (.tmp 1)).trans e1
   simp [execOp, go_sem, r1]
  |4, _ =>
   refine so rfl ?_
   intro b xs W hR hb hv hd hU D hD hDi hDw hDf hJ K hK
   have e1 : b.eval (.tmp 10) = .int .i64 (s : Int) := hb 10 rfl
   refine sv rfl (v := .int .i64 (s : Int)) (w' := W) (fun ρ hρ hc => ?_) (hK _ _ (Ext.refl _) (fun _ _ _ _ h => h) (fun _ _ _ _ => trivial) rfl (fun h => absurd h (by decide)))
   have r1 := (hρ (.tmp 10)).trans e1
   simp [execOp, go_sem, r1]
  |5, _ =>
   refine so rfl ?_
   intro b xs W hR hb hv hd hU D hD hDi hDw hDf hJ K hK
   have e1 : b.eval (.tmp 57) = .slice (some ⟨bb, ob, none⟩) 2 d := (hv 3 57 rfl (by omega)).trans (hd 3 (by kernel_rfl))
   have e2 : b.eval (.tmp 58) = .int .i64 (s : Int) := (hv 4 58 rfl (by omega)).trans (hd 4 (by kernel_rfl))
   refine sc rfl 158 [.tmp 57, .tmp 58] #[141, 3] rfl _ Tryz.func158 rfl (by decide +kernel) [.slice (some ⟨bb, ob, none⟩) 2 d, .int .i64 (s : Int)] (by simp only [List.map_cons, List.map_nil, e1, e2]) (HLB.out W hR) (fun e W' h => ?_)
   obtain ⟨v, rfl, hv', hge, hx'⟩ := h
   exact ⟨_, rfl, hK _ _ hx' (fun j u _ _ h => KpL.at HKPS.out j u _ _ hx' h) (fun _ _ _ _ => trivial) hv' (fun _ => lfJ_5 (hDf 7 rfl) (fun h => by have := IsLf.lt (hD 2 h); omega) hJ)⟩
  |6, _ =>
   refine so rfl ?_
   intro b xs W hR hb hv hd hU D hD hDi hDw hDf hJ K hK
   have e1 : b.eval (.tmp 9) = .int .i64 2 := hb 9 rfl
   refine sv rfl (v := .int .i64 2) (w' := W) (fun ρ hρ hc => ?_) (hK _ _ (Ext.refl _) (fun _ _ _ _ h => h) (fun _ _ _ _ => trivial) rfl (fun h => absurd h (by decide)))
   have r1 := (hρ (.tmp 9)).trans e1
   simp [execOp, go_sem, r1]
  |7, _ =>
   refine so rfl ?_
   intro b xs W hR hb hv hd hU D hD hDi hDw hDf hJ K hK
   obtain ⟨g, hg, hc2⟩ := IsLf.cut (hd 5 (by kernel_rfl)) 2
   have e1 : b.eval (.tmp 59) = .slice (some ⟨g, 0, none⟩) 3 3 := (hv 5 59 rfl (by omega)).trans hg
   have e2 : b.eval (.tmp 60) = .int .i64 2 := (hv 6 60 rfl (by omega)).trans (hd 6 (by kernel_rfl))
   refine sv rfl (v := .slice (some ⟨g, 0, none⟩) 2 3) (w' := W) (fun ρ hρ hc => ?_) (hK _ _ (Ext.refl _) (fun _ _ _ _ h => h) (fun _ _ _ _ => trivial) hc2 (fun _ => lfJ_7 (hDf 9 rfl) (by rw [hg]; rfl) hJ))
   have r1 := (hρ (.tmp 59)).trans e1; have r2 := (hρ (.tmp 60)).trans e2
   simp [execOp, go_sem, r1, r2]
  |8, _ =>
   refine so rfl ?_
   intro b xs W hR hb hv hd hU D hD hDi hDw hDf hJ K hK
   have e1 := hv 2 56 rfl (by omega)
   refine sv rfl (v := b.eval (.tmp 56)) (w' := W) (fun ρ hρ hc => ?_) (hK _ _ (Ext.refl _) (fun _ _ _ _ h => h) (fun _ _ _ _ => trivial) (by rw [e1]; exact hd 2 (by kernel_rfl)) (fun _ => lfJ_8 (congrArg bOf e1) hJ))
   simp [execOp, go_sem, hρ (.tmp 56)]
  |9, _ =>
   refine so rfl ?_
   intro b xs W hR hb hv hd hU D hD hDi hDw hDf hJ K hK
   have e1 := hv 7 61 rfl (by omega)
   refine sv rfl (v := b.eval (.tmp 61)) (w' := W) (fun ρ hρ hc => ?_) (hK _ _ (Ext.refl _) (fun _ _ _ _ h => h) (fun _ _ _ _ => trivial) (by rw [e1]; exact hd 7 (by kernel_rfl)) (fun _ => lfJ_9 (congrArg bOf e1) hJ))
   simp [execOp, go_sem, hρ (.tmp 61)]
  |n + 10, hn => exact absurd hn (by omega)
  intro xs w5 hR hT hDJ b hb1 hb hv
  obtain ⟨D, hDall, hJ⟩ := hDJ
  have hap := hJ.apart hDall
  have t8 := hT 8 (by decide); have t9 := hT 9 (by decide)
  obtain ⟨gu, r0, hgu, HBU, hbu, hru, hko, hnu, htu⟩ := t8
  obtain ⟨gv, rv, hgv, HBV, hbv, hrv, hkv, hnv, htv⟩ := t9
  rw [hgu, hgv] at hap
  have hap' : gu ≠ gv := hap
  have HAP := Lib.hid hap'
  have HBU := Lib.hid HBU; have HBV := Lib.hid HBV
  have HKO := Lib.hid hko; have HNU := Lib.hid hnu; have HTU := Lib.hid htu
  have HTV := Lib.hid (top_two HS.out hrv hkv hnv)
  have HRV := Lib.hid hrv
  have HSB := Lib.hid (shl_bd HS.out)
  have HX5 : Hid (Ext w w5) := (HX2.out.trans HX3.out).trans hR
  have hbw : w.heap.size ≤ w3.heap.size := (HX2.out.trans HX3.out).size
  have HGB : Hid (w.heap.size ≤ gu ∧ w.heap.size ≤ gv) := ⟨by omega, by omega⟩
  obtain ⟨k0, hk0⟩ : ∃ k, k = n - 1 := ⟨_, rfl⟩
  obtain ⟨N1, hN1⟩ : ∃ k, k = n + 1 := ⟨_, rfl⟩
  have HKN : Hid (n = k0 + 1 ∧ N1 = k0 + 2) := ⟨by omega, by omega⟩
  rw [← hN1] at hgu
  have HLD : Hid (LdI r0 (rv.take 2) r0 (List.replicate k0 0) 2 k0) := ld_start (s := s) (by rw [hru]; exact HKN.out.2 ▸ hN1.symm) hko hs31 (by rw [show k0 + 1 = n from HKN.out.1.symm]; exact htu) (by rw [HTV.out.1]; exact HSB.out.2)
  have HRU : Hid (r0.length = N1) := hru.trans hN1.symm
  have hmk := make_lims k0 (by omega)
  have hwk : IntKind.i64.wrap ((N1 : Int) - 2) = (k0 : Int) := by rw [IntWalk.i64_in _ (by omega)]; omega
  have hN2 : 2 ≤ N1 := by omega
  have hK1 : k0 ≤ 1000 := by omega
  subst hb1
  clear hT hv hDall hJ hap hap' hko hnu htu hrv hkv hnv hru hk0 hN1 hbu hbv hbw hR hb HLA HLB HKPS htv
  simp only [Act.put, frOf, putAll, List.setIfInBounds_toArray, List.set_cons_succ, List.set_cons_zero, List.set_nil, Nat.zero_add, Nat.reduceAdd, hgu, hgv]
  clear hgu hgv
  generalize xs 0 = q0; generalize xs 1 = q1; generalize xs 2 = q2; generalize xs 3 = q3; generalize xs 4 = q4; generalize xs 5 = q5; generalize xs 6 = q6; generalize xs 7 = q7
  clear xs
  go_wp2_with fail
  refine wp_at fun w6 hw6 => ?_
  obtain ⟨gq, hgq⟩ : ∃ g, g = w5.heap.size := ⟨_, rfl⟩
  have HBQ : Hid (Blk 192 w6 gq (ucells (List.replicate k0 0))) := by show Blk _ _ _ _; rw [hw6, hgq]; exact Blk.new _ _ _
  have HX6 : Hid (Ext w5 w6) := by show Ext _ _; rw [hw6]; exact (Ext.refl _).alloc _
  have HQB : Hid (w.heap.size ≤ gq ∧ gu ≠ gq ∧ gv ≠ gq) := by
   have h1 := HBU.out.lt; have h2 := HBV.out.lt; have h3 := HX5.out.size
   exact ⟨by omega, by omega, by omega⟩
  rw [← hgq]
  clear hw6 hmk hgq
  go_loopw [14] (fun i wr => ∃ (k : Nat) (r q : List Nat), k ≤ k0 ∧ i = .int .i64 ((k : Int) - 1) ∧ r.length = N1 ∧ q.length = k0 ∧ LdI r0 (rv.take 2) r q 2 k ∧ Blk 192 wr gu (ucells r) ∧ Blk 192 wr gq (ucells q) ∧ Blk 192 wr gv (ucells rv) ∧ Ext w wr) (fun i _ => (intOf i + 1).toNat)
  case atStart => exact ⟨k0, r0, List.replicate k0 0, Nat.le_refl _, by go_num, HRU.out, by simp, HLD.out, HBU.out.ext HX6.out, HBQ.out, HBV.out.ext HX6.out, HX5.out.trans HX6.out⟩
  case round =>
   obtain ⟨wq, rfl⟩ : ∃ wq : World, wq = wr := ⟨_, rfl⟩
   obtain ⟨k, r, q, hk, rfl, hr, hq, hi, hbu, hbq, hbv, hx⟩ := hrel
   have HI := Lib.hid hi; have HBU2 := Lib.hid hbu; have HBQ2 := Lib.hid hbq; have HBV2 := Lib.hid hbv; have HXR := Lib.hid hx
   have HRL := Lib.hid hr; have HQL := Lib.hid hq
   clear hi hbu hbq hbv hx hr hq
   by_cases h0 : k = 0
   ·subst h0
    obtain ⟨Xq, hXq⟩ : ∃ t, t = x / y := ⟨_, rfl⟩
    obtain ⟨Xr, hXr⟩ : ∃ t, t = x % y := ⟨_, rfl⟩
    have HXQ := Lib.hid hXq; have HXM := Lib.hid hXr
    have hend := ld_end HI.out HNU.out HTV.out.1 HSB.out.1 (by rw [HRL.out]; exact hN2)
    rw [← hXq, ← hXr] at hend
    have HEN := Lib.hid hend
    clear hXq hXr hend
    have HTR : Hid (∀ W, Ext wq W → Calls Tryz.prog 146 #[.slice (some ⟨gq, 0, none⟩) k0 k0] W (RetNt W Xq)) := fun W he => by
     have h := trim_any (some ⟨gq, 0, none⟩) k0 k0 q W (lims_blk (R := []) (by rw [List.append_nil]; exact HBQ2.out.ext he)) HI.out.qok HQL.out (Nat.le_refl _) (by omega)
     rw [HEN.out.1] at h; exact h
    have HRG : Hid (∀ W, Ext wq W → Calls Tryz.prog 160 #[.slice (some ⟨gu, 0, none⟩) 2 N1, .int .i64 (s : Int)] W (RetNt W Xr)) := fun W he => by
     have h := nright_any (some ⟨gu, 0, none⟩) 2 N1 s (r.take 2) W ((lims_blk (R := []) (by rw [List.append_nil]; exact HBU2.out.ext he)).take 2) (fun x hx => HI.out.ok x (List.mem_of_mem_take hx)) (by rw [List.length_take, HRL.out]; omega) (by omega) hs31
     rw [HEN.out.2] at h; exact h
    go_upto_region 17 with fail
    refine region_slots0 (l := 10) (N := 93) (W0 := wq) [86, 87, 88, 89, 90, 91, 92, 4, 5, 6] [Fx (.slice (some ⟨gq, 0, none⟩) k0 k0), IsN Xq, Fx (.slice (some ⟨gu, 0, none⟩) N1 N1), Fx (.int .i64 2), Fx (.slice (some ⟨gu, 0, none⟩) 2 N1), Fx (.int .i64 (s : Int)), IsN Xr, IsN Xq, IsN Xr, Fx (.bool true)] (by kernel_rfl) (by kernel_rfl) (by kernel_rfl) (by kernel_rfl) (Ext.refl _) ?kp (fun i hi => ?_) (fun xs w1 hx hT => ?_)
    case kp => exact ⟨Fx.kp _, IsN.kp _, Fx.kp _, Fx.kp _, Fx.kp _, Fx.kp _, IsN.kp _, IsN.kp _, IsN.kp _, Fx.kp _, trivial⟩
    ·match i, hi with
     |0, _ =>
      refine so rfl ?_
      intro fb wi hx hb hd K hK
      have x13 : fb.eval (.tmp 13) = .slice (some ⟨gq, 0, none⟩) k0 k0 := hb 13 rfl
      refine sv rfl (v := .slice (some ⟨gq, 0, none⟩) k0 k0) (w' := wi) (fun ρ hρ hc => ?_) (hK _ _ (Ext.refl _) (rfl))
      have r13 := (hρ (.tmp 13)).trans x13
      simp [execOp, go_sem, r13]
     |1, _ =>
      refine so rfl ?_
      intro fb wi hx hb hd K hK
      have x86 : fb.eval (.tmp 86) = .slice (some ⟨gq, 0, none⟩) k0 k0 := hd 0 86 rfl (by kernel_rfl)
      refine sc rfl 146 [.tmp 86] #[141] rfl _ Tryz.func146 rfl (by decide +kernel) [.slice (some ⟨gq, 0, none⟩) k0 k0] (by simp only [List.map_cons, List.map_nil, x86]) (HTR.out wi hx) (fun e w' h => rk hK h)
     |2, _ =>
      refine so rfl ?_
      intro fb wi hx hb hd K hK
      have x11 : fb.eval (.tmp 11) = .slice (some ⟨gu, 0, none⟩) N1 N1 := hb 11 rfl
      refine sv rfl (v := .slice (some ⟨gu, 0, none⟩) N1 N1) (w' := wi) (fun ρ hρ hc => ?_) (hK _ _ (Ext.refl _) (rfl))
      have r11 := (hρ (.tmp 11)).trans x11
      simp [execOp, go_sem, r11]
     |3, _ =>
      refine so rfl ?_
      intro fb wi hx hb hd K hK
      have x9 : fb.eval (.tmp 9) = .int .i64 2 := hb 9 rfl
      refine sv rfl (v := .int .i64 2) (w' := wi) (fun ρ hρ hc => ?_) (hK _ _ (Ext.refl _) (rfl))
      have r9 := (hρ (.tmp 9)).trans x9
      simp [execOp, go_sem, r9]
     |4, _ =>
      refine so rfl ?_
      intro fb wi hx hb hd K hK
      have x88 : fb.eval (.tmp 88) = .slice (some ⟨gu, 0, none⟩) N1 N1 := hd 2 88 rfl (by kernel_rfl)
      have x89 : fb.eval (.tmp 89) = .int .i64 2 := hd 3 89 rfl (by kernel_rfl)
      have hN3 : ¬ (N1 : Int) < 2 := by omega
      have hN4 : ¬ N1 = 0 := by omega
      refine sv rfl (v := .slice (some ⟨gu, 0, none⟩) 2 N1) (w' := wi) (fun ρ hρ hc => ?_) (hK _ _ (Ext.refl _) (rfl))
      have r88 := (hρ (.tmp 88)).trans x88
      have r89 := (hρ (.tmp 89)).trans x89
      simp [execOp, go_sem, r88, r89, hN3, hN4]
     |5, _ =>
      refine so rfl ?_
      intro fb wi hx hb hd K hK
      have x10 : fb.eval (.tmp 10) = .int .i64 (s : Int) := hb 10 rfl
      refine sv rfl (v := .int .i64 (s : Int)) (w' := wi) (fun ρ hρ hc => ?_) (hK _ _ (Ext.refl _) (rfl))
      have r10 := (hρ (.tmp 10)).trans x10
      simp [execOp, go_sem, r10]
     |6, _ =>
      refine so rfl ?_
      intro fb wi hx hb hd K hK
      have x90 : fb.eval (.tmp 90) = .slice (some ⟨gu, 0, none⟩) 2 N1 := hd 4 90 rfl (by kernel_rfl)
      have x91 : fb.eval (.tmp 91) = .int .i64 (s : Int) := hd 5 91 rfl (by kernel_rfl)
      refine sc rfl 160 [.tmp 90, .tmp 91] #[141, 3] rfl _ Tryz.func160 rfl (by decide +kernel) [.slice (some ⟨gu, 0, none⟩) 2 N1, .int .i64 (s : Int)] (by simp only [List.map_cons, List.map_nil, x90, x91]) (HRG.out wi hx) (fun e w' h => rk hK h)
     |7, _ =>
      refine so rfl ?_
      intro fb wi hx hb hd K hK
      have y87 : IsN Xq (fb.eval (.tmp 87)) wi := hd 1 87 rfl (by kernel_rfl)
      refine sv rfl (v := fb.eval (.tmp 87)) (w' := wi) (fun ρ hρ hc => ?_) (hK _ _ (Ext.refl _) y87)
      simp [execOp, go_sem, hρ (.tmp 87)]
     |8, _ =>
      refine so rfl ?_
      intro fb wi hx hb hd K hK
      have y92 : IsN Xr (fb.eval (.tmp 92)) wi := hd 6 92 rfl (by kernel_rfl)
      refine sv rfl (v := fb.eval (.tmp 92)) (w' := wi) (fun ρ hρ hc => ?_) (hK _ _ (Ext.refl _) y92)
      simp [execOp, go_sem, hρ (.tmp 92)]
     |9, _ =>
      refine so rfl ?_
      intro fb wi hx hb hd K hK
      refine sv rfl (v := .bool true) (w' := wi) (fun ρ hρ hc => ?_) (hK _ _ (Ext.refl _) (rfl))
      simp [execOp, go_sem, hc]
     |n + 10, hn => exact absurd hn (by omega)
    ·skip
     simp only [frOf, putAll, List.drop_succ_cons, List.drop_zero, List.setIfInBounds_toArray, List.set_cons_succ, List.set_cons_zero, Nat.zero_add, Nat.reduceAdd]
     have q9 : xs 9 = .bool true := hT 9 (by decide)
     have h7 : NatAt w1 (xs 7) Xq := hT 7 (by decide)
     have h8 : NatAt w1 (xs 8) Xr := hT 8 (by decide)
     have HX9 : Hid (Ext w w1) := HXR.out.trans hx
     rw [HXQ.out] at h7
     rw [HXM.out] at h8
     have H7 := Lib.hid h7; have H8 := Lib.hid h8
     clear h7 h8 hT
     go_wp2_with fail
     refine bodyPost_ret (v := .tuple #[xs 7, xs 8, .bool true]) (by simp [results, Tryz.results148, go_sem, q9]) rfl ?_
     exact ⟨xs 7, xs 8, rfl, H7.out, H8.out, HX9.out⟩
   ·obtain ⟨j, rfl⟩ : ∃ j, k = j + 1 := ⟨k - 1, by omega⟩
    have hjn : j + 3 ≤ N1 := by have := HKN.out.2; omega
    have hjl : j < r.length := by rw [HRL.out]; omega
    have hWIN := HI.out.win hjl HTV.out.2.2.2 HTV.out.2.2.1 (by rw [HRL.out]; omega)
    have HDG := Lib.hid (digit_any gu j 0 (N1 - j) 3 (some ⟨gv, 0, none⟩) (r.take j) (r.drop j) (rv.take 2) wq (by rw [List.take_append_drop]; exact HBU2.out) (by rw [List.length_take]; omega) (fun x hx => HI.out.ok x (List.mem_of_mem_drop hx)) (by rw [List.length_drop, HRL.out]; omega) ((lims_blk (R := []) (by rw [List.append_nil]; exact HBV2.out)).take 2) HTV.out.2.2.1 HTV.out.2.2.2 (by omega) HTV.out.2.1 hWIN (fun b off e => by injection e with e; injection e with e1 _; subst e1; exact Ne.symm HAP.out))
    simp only [Nat.zero_add] at HDG
    clear hWIN hjl
    obtain ⟨j3, hj3⟩ : ∃ t, t = j + 3 := ⟨_, rfl⟩
    have hs1 : IntKind.i64.wrap ((j : Int) + 2) = (j : Int) + 2 := IntWalk.i64_in _ (by omega)
    have hs2 : IntKind.i64.wrap ((j : Int) + 2 + 1) = (j3 : Int) := by rw [IntWalk.i64_in _ (by omega)]; omega
    have hs3 : (j : Int) ≤ (j3 : Int) := by omega
    have hs4 : (j3 : Int) ≤ (N1 : Int) := by omega
    have hs4' : j3 ≤ N1 := by omega
    have hs5 : j3 - j = 3 := by omega
    have hs6 : ¬ N1 = j := by omega
    have hj0 : (0 : Int) ≤ j := by omega
    have hj1 : (j : Int) < k0 := by omega
    have hje : ((j + 1 : Nat) : Int) - 1 = j := by omega
    have HJN := Lib.hid hjn
    rw [hje]
    clear hj3 hjn
    go_wp2_with fail
    refine (HDG.out).mono ?_
    rintro e w7 ⟨u', rfl, hbu7, hul7, huk7, huh7, hur7, hk7⟩
    have hDL := HI.out.dig (u' := u') (D := natL ((r.drop j).take 3) / natL (rv.take 2)) (by rw [HQL.out]; omega) HTV.out.2.2.2 HTV.out.2.2.1 (by rw [HRL.out]; exact HJN.out) hul7 huk7 huh7 rfl hur7
    obtain ⟨D, hD⟩ : ∃ D, D = natL ((r.drop j).take 3) / natL (rv.take 2) := ⟨_, rfl⟩
    have hDe : natL ((r.drop j).take (2 + 1)) / natL (rv.take 2) = D := hD.symm
    rw [hDe]
    rw [← hD] at hDL
    have HDL := Lib.hid hDL; have HBU7 := Lib.hid hbu7; have HK7 := Lib.hid hk7
    have HBQ7 := Lib.hid (hk7.blk HBQ2.out (fun e => HQB.out.2.1 e.symm))
    have HBV7 := Lib.hid (hk7.blk HBV2.out (fun e => HAP.out e.symm))
    have HX7 := Lib.hid (hk7.ext HXR.out (fun b e => by subst e; exact HGB.out.1))
    clear hDL hbu7 hul7 huk7 huh7 hur7 hk7 hD hDe
    have b0 : w7.cell? ⟨gq, j, none⟩ = some (.int .u32 (gN q j : Int)) := by rw [HBQ7.out.cell, ucells_get (by rw [HQL.out]; omega)]
    have f0 := HBQ7.out.frozen j
    have hbl : gq < w7.heap.size := HBQ7.out.lt
    go_wp2_with fail
    go_roundw
    case rel =>
     refine ⟨j, r.take j ++ u', q.set j D, by omega, rfl, HDL.out.2.trans HRL.out, by rw [List.length_set]; exact HQL.out, HDL.out.1, HBU7.out.other (p := ⟨gq, j, none⟩) HQB.out.2.1 _, ?_, HBV7.out.other (p := ⟨gq, j, none⟩) HQB.out.2.2 _, Ext.setCell (p := ⟨gq, j, none⟩) HX7.out HQB.out.1 _⟩
     have h := HBQ7.out.set j (.int .u32 (D : Int))
     rw [ucells_set] at h
     exact h
    case measure => simp [intOf]
theorem limbs_64 {n : Nat} (h : n < 18446744073709551616) : (limbs n).length ≤ 1000 := Nat.le_trans (limbs_le (k := 2) (by omega)) (by omega)
theorem ndiv_64 (u v : Value) (x y : Nat) (w : World) (hu : NatAt w u x) (hv : NatAt w v y) (hx : (limbs x).length ≤ 1000) (hy0 : 0 < y) (hy : y < 18446744073709551616) : Calls Tryz.prog 148 #[u, v] w (RetDv w x y) := by
 rcases Nat.lt_or_ge y 4294967296 with h | h
 ·exact ndivmod_any u v x y w hu hv hx hy0 h
 ·exact ndivmod_two u v x y w hu hv hx h hy
def cN (w : World) (a : Addr) : Nat := match w.cell? a with
 |some (.int _ z) => z.toNat
 |_ => 0
def natOf2 (w : World) (v : Value) : Nat := match v with
 | .slice (some a) (k + 1) _ => cN w a + (if k = 0 then 0 else 4294967296 * cN w (a.add 1))
 |_ => 0
theorem natOf2_eq {w : World} {v : Value} {b : Nat} (h : NatAt w v b) (hb : b < 18446744073709551616) : natOf2 w v = b := by
 obtain ⟨A, c, rfl, h1, _⟩ := h
 rcases Nat.eq_zero_or_pos b with h0 | h0
 ·subst h0
  rw [limbs_zero]
  cases A <;> rfl
 ·rcases Nat.lt_or_ge b 4294967296 with h2 | h2
  ·rw [limbs_small h0 h2] at h1 ⊢
   obtain ⟨bb, ob, rfl, h3⟩ := h1 0 (by simp)
   simp only [gN, List.getD_cons_zero, Nat.add_zero] at h3
   show cN w ⟨bb, ob, none⟩ + (if 0 = 0 then 0 else _) = b
   unfold cN
   rw [h3]
   simp
  ·rw [limbs_two h2 hb] at h1 ⊢
   obtain ⟨bb, ob, rfl, h3⟩ := h1 0 (by simp)
   obtain ⟨bb', ob', e, h4⟩ := h1 1 (by simp)
   injection e with e
   injection e with e1 e2
   subst e1 e2
   simp only [gN, List.getD_cons_zero, Nat.add_zero] at h3
   simp [gN] at h4
   show cN w ⟨bb, ob, none⟩ + (if 1 = 0 then 0 else 4294967296 * cN w ((⟨bb, ob, none⟩ : Addr).add 1)) = b
   unfold cN
   rw [h3, addr_add, h4]
   simp
   omega
set_option maxRecDepth 100000 in
set_option maxHeartbeats 1600000 in
theorem ngcd_64 (u v : Value) (x y : Nat) (w : World) (hu : NatAt w u x) (hv : NatAt w v y) (hx : (limbs x).length ≤ 1000) (hy : y < 18446744073709551616) : Calls Tryz.prog 147 #[u, v] w (RetNt w (Nat.gcd x y)) := by
 have HU := Lib.hid (fun W (he : Ext w W) => norm_any u x W (hu.ext he) hx)
 have HV := Lib.hid (fun W (he : Ext w W) => norm_any v y W (hv.ext he) (limbs_64 hy))
 have HDM := Lib.hid ndiv_64
 obtain ⟨A0, c0, rfl, _⟩ := hu
 obtain ⟨B0, d0, rfl, _⟩ := hv
 obtain ⟨n0, hn0⟩ : ∃ n, n = (limbs x).length := ⟨_, rfl⟩
 obtain ⟨m0, hm0⟩ : ∃ n, n = (limbs y).length := ⟨_, rfl⟩
 have hx' : (limbs x).length ≤ 1000 := hx
 rw [← hn0] at HU ⊢
 rw [← hm0] at HV ⊢
 clear hn0 hm0
 go_enter Tryz.func147, Tryz.ntmps147
 go_wp2_with fail
 refine (HU.out _ (Ext.refl _)).mono ?_
 rintro e w1 ⟨u1, rfl, hu1, he1⟩
 have HU1 := Lib.hid hu1; have HX1 := Lib.hid he1
 obtain ⟨A1, k1, c1, hf1⟩ : ∃ A k c, u1 = .slice A k c := by obtain ⟨A, c, e, _⟩ := hu1; exact ⟨A, _, c, e⟩
 subst hf1
 clear hu1 he1 HU
 go_wp2_with fail
 refine (HV.out _ HX1.out).mono ?_
 rintro e w2 ⟨v1, rfl, hv1, he2⟩
 have HV1 := Lib.hid hv1; have HX2 := Lib.hid (HX1.out.trans he2); have HU2 := Lib.hid (HU1.out.ext he2)
 obtain ⟨A2, k2, c2, hf2⟩ : ∃ A k c, v1 = .slice A k c := by obtain ⟨A, c, e, _⟩ := hv1; exact ⟨A, _, c, e⟩
 subst hf2
 clear hv1 he2 HV HU1
 go_wp2_with fail
 go_loopw [0, 1] (fun va vb wr => ∃ (a b : Nat), NatAt wr va a ∧ NatAt wr vb b ∧ b < 18446744073709551616 ∧ (limbs a).length ≤ 1000 ∧ Nat.gcd a b = Nat.gcd x y ∧ Ext w wr) (fun _ vb wr => natOf2 wr vb)
 case atStart => exact ⟨x, y, HU2.out, HV1.out, hy, hx', rfl, HX2.out⟩
 case round =>
  obtain ⟨a, b, ha, hb, hbb, hal, hg, hX⟩ := hrel
  have HNA := Lib.hid ha; have HNB := Lib.hid hb; have HG := Lib.hid hg; have HX := Lib.hid hX
  have HNO := Lib.hid (natOf2_eq hb hbb)
  obtain ⟨VA, ca, rfl, _⟩ := ha
  obtain ⟨VB, cb, rfl, _⟩ := hb
  clear hg hX
  rcases Nat.eq_zero_or_pos b with h0 | h0
  ·subst h0
   rw [limbs_zero] at HNB HNO ⊢
   have HGA : Hid (Nat.gcd x y = a) := by show _ = _; rw [← HG.out, Nat.gcd_zero_right]
   obtain ⟨n, hn⟩ : ∃ n, n = (limbs a).length := ⟨_, rfl⟩
   rw [← hn] at HNA ⊢
   clear hn
   go_wp2_with fail
   go_ret
   refine ⟨_, rfl, ?_, HX.out⟩
   rw [HGA.out]; exact HNA.out
  ·have HDC := Lib.hid (HDM.out _ _ a b _ HNA.out HNB.out hal h0 hbb)
   have hlp : 0 < (limbs b).length := by rw [limbs_pos h0]; simp
   obtain ⟨lb, hlb⟩ : ∃ n, n = (limbs b).length := ⟨_, rfl⟩
   rw [← hlb] at HNB HNO HDC hlp ⊢
   have hlp' : (0 : Int) < lb := by omega
   clear hlb
   obtain ⟨n, hn⟩ : ∃ n, n = (limbs a).length := ⟨_, rfl⟩
   rw [← hn] at HNA HDC ⊢
   clear hn
   obtain ⟨wq, rfl⟩ : ∃ wq : World, wq = wr := ⟨_, rfl⟩
   go_wp2_with fail
   refine (HDC.out).mono ?_
   rintro e w3 ⟨q, r, rfl, hq, hr, he3⟩
   have HR := Lib.hid hr; have HX3 := Lib.hid he3
   have hm := Nat.mod_lt a h0
   have HM := Lib.hid hm
   obtain ⟨A3, k3, c3, hf3⟩ : ∃ A k c, r = .slice A k c := by obtain ⟨A, c, e, _⟩ := hr; exact ⟨A, _, c, e⟩
   subst hf3
   clear hq hr he3 hm
   go_wp2_with fail
   go_roundw
   case rel =>
    refine ⟨b, a % b, HNB.out.ext HX3.out, HR.out, by have := HM.out; omega, limbs_64 hbb, ?_, HX.out.trans HX3.out⟩
    rw [Nat.gcd_comm b (a % b), ← Nat.gcd_rec, Nat.gcd_comm, HG.out]
   case measure =>
    rw [natOf2_eq HR.out (by have := HM.out; omega), HNO.out]; exact HM.out
end Go.Proofs.YtfegbaokcbjllaaGreat
