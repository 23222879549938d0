/- As SlotL, for a region in which one operation (number si) stores into the block that another one (number ai) has made, while reading operations are still open. No program in sight. -/
import Derived.Test.YtfegbaokcbjllaaGreatKSlotL
/- As Slots, over any relation R of worlds (what the steps keep), and with operations that leave no value (stores). No program in sight. -/
namespace Go.Proofs.YtfegbaokcbjllaaGreat
open Go.RowKit
section
variable {P : Program} {ops : Array Oper} {Q : Exit → Act → World → Prop}
theorem putAll_out : ∀ (ds : List Nat) (t : Array Value) (xs : Nat → Value) (i j : Nat) {d : Nat} (v : Value), ds.Nodup → ds[j]? = some d → t.size ≤ d → putAll t ds (upd xs (i + j) v) i = putAll t ds xs i
 |[], _, _, _, _, _, _, _, h, _ => by simp at h
 |d' :: ds, t, xs, i, 0, d, v, hn, h, hs => by
  obtain rfl : d' = d := by simpa using h
  unfold putAll
  rw [Array.setIfInBounds_eq_of_size_le hs, Array.setIfInBounds_eq_of_size_le hs]
  have key : ∀ (l : List Nat) (t : Array Value) (k : Nat), i < k → putAll t l (upd xs (i + 0) v) k = putAll t l xs k := by
   intro l
   induction l with
   |nil => intro t k _; rfl
   |cons e l ih => intro t k hk; unfold putAll; rw [upd_ne xs v (by omega)]; exact ih _ _ (by omega)
  exact key ds t (i + 1) (by omega)
 |d' :: ds, t, xs, i, j + 1, d, v, hn, h, hs => by
  unfold putAll
  rw [upd_ne xs v (show i ≠ i + (j + 1) by omega)]
  have := putAll_out ds (t.setIfInBounds d' (xs i)) xs (i + 1) j v (List.nodup_cons.1 hn).2 (by simpa using h) (by simpa using hs)
  rw [show i + 1 + j = i + (j + 1) by omega] at this
  exact this
theorem putAll_setI : ∀ (ds : List Nat) (t : Array Value) (xs : Nat → Value) (j : Nat) {d : Nat} (v : Value), ds.Nodup → ds[j]? = some d → d < t.size → (putAll t ds xs 0).setIfInBounds d v = putAll t ds (upd xs j v) 0 := by
 intro ds t xs j d v hn h hd
 apply Array.ext_getElem?
 intro k
 by_cases hk : k = d
 ·subst hk
  have := putAll_at ds t (upd xs j v) 0 j hn h hd
  rw [Nat.zero_add] at this
  rw [this, upd_self, Array.getElem?_setIfInBounds]
  simp [putAll_size, hd]
 ·rw [Array.getElem?_setIfInBounds_ne (Ne.symm hk)]
  by_cases hm : k ∈ ds
  ·by_cases hks : k < t.size
   ·obtain ⟨q, hq⟩ := List.mem_iff_getElem?.1 hm
    rw [putAll_at ds t _ 0 q hn hq hks, putAll_at ds t _ 0 q hn hq hks, upd_ne]
    intro e
    have : q = j := by omega
    subst this
    rw [hq] at h
    exact hk (Option.some.inj h)
   ·rw [Array.getElem?_eq_none (by rw [putAll_size]; omega), Array.getElem?_eq_none (by rw [putAll_size]; omega)]
  ·rw [putAll_other ds t _ 0 hm, putAll_other ds t _ 0 hm]
theorem putAll_sameI (ds : List Nat) (t : Array Value) (xs : Nat → Value) (hn : ds.Nodup) (h : ∀ j d, ds[j]? = some d → d < t.size → t.getD d undef = xs j) : putAll t ds xs 0 = t := by
 apply Array.ext_getElem?
 intro k
 by_cases hm : k ∈ ds
 ·obtain ⟨q, hq⟩ := List.mem_iff_getElem?.1 hm
  by_cases hk : k < t.size
  ·rw [putAll_at ds t xs 0 q hn hq hk, Nat.zero_add, ← h q k hq hk]
   simp [hk]
  ·rw [Array.getElem?_eq_none (by rw [putAll_size]; omega), Array.getElem?_eq_none (by omega)]
 ·rw [putAll_other ds t xs 0 hm]
def StepR (P : Program) (ops : Array Oper) (Q : Exit → Act → World → Prop) (a : Act) (ds : List Nat) (N : Nat) (R : World → World → Prop) (W0 : World) (T : Nat → Value → World → Prop) (i : Nat) : Prop :=
 ∀ o, ops[i]? = some o → ∀ (b : Act) (xs : Nat → Value) (w : World), R W0 w → (∀ k, ds.contains k = false → b.eval (.tmp k) = a.eval (.tmp k)) → (∀ j d, ds[j]? = some d → d < N → b.eval (.tmp d) = xs j) → (∀ j, onB' .any ops i j = true → T j (xs j) w) →
  ∀ K : Act → World → Prop, (∀ v w', R w w' → (∀ j u, j ≠ i → T j u w → T j u w') → T i v w' → K (b.put o.dst v) w') → if Region.wanted o (yielded ops b.tmps) = true then Oper.wp P o b w K Q else K (b.put o.dst undef) w
theorem region_slotsR {id l N : Nat} {a : Act} {w W0 : World} (R : World → World → Prop) (ds : List Nat) (T : Nat → Value → World → Prop) (hm : P.follows .mixedOrders = true)
  (hB : (ops.size == l + 1 && (List.range l).all (fun j => onB' .any ops l j) && slBackB ops) = true)
  (hD : (ds.length == l && decide ds.Nodup && (List.range l).all (fun i => match (ops[i]?).bind (·.dst) with | some d => decide (d < N) && (ds[i]? == some d) | none => decide (N ≤ ds.getD i 0))) = true) (hN : a.tmps.size = N) (hw : R W0 w.drew)
  (hR : ∀ a b c, R a b → R b c → R a c) (hstep : ∀ i, i < l → StepR P ops Q a ds N R W0 T i)
  (hlast : ∀ o, ops[l]? = some o → ∀ xs w, R W0 w → (∀ j, j < l → T j (xs j) w) → ∀ b, b = frOf a ds xs → (∀ k, ds.contains k = false → b.eval (.tmp k) = a.eval (.tmp k)) → (∀ j d, ds[j]? = some d → d < N → b.eval (.tmp d) = xs j) →
   ∀ K : Act → World → Prop, (∀ a' w', Q .normal a' w' → K a' w') → if Region.wanted o (yielded ops b.tmps) = true then Oper.wp P o b w K Q else K (b.put o.dst undef) w) :
  (Code.region id ops true).wp P Q a w := by
 simp only [Bool.and_eq_true, beq_iff_eq, decide_eq_true_eq] at hD
 obtain ⟨⟨hl, hnd⟩, hdst⟩ := hD
 have hev : ∀ xs j d, ds[j]? = some d → d < N → (frOf a ds xs).eval (.tmp d) = xs j := fun xs j d h hd => by
  show (putAll a.tmps ds xs 0).getD d undef = _
  have := putAll_at ds a.tmps xs 0 j hnd h (by rw [hN]; exact hd)
  rw [Nat.zero_add] at this
  rw [Array.getD_eq_getD_getElem?, this]; rfl
 have hot : ∀ xs k, ds.contains k = false → (frOf a ds xs).eval (.tmp k) = a.eval (.tmp k) := fun xs k h => by
  show (putAll a.tmps ds xs 0).getD k undef = a.tmps.getD k undef
  rw [Array.getD_eq_getD_getElem?, Array.getD_eq_getD_getElem?, putAll_other ds a.tmps xs 0 (by simpa using h)]
 have hput : ∀ i o, i < l → ops[i]? = some o → ∀ xs v, (frOf a ds xs).put o.dst v = frOf a ds (upd xs i v) := fun i o hi ho xs v => by
  have h1 := List.all_eq_true.1 hdst i (List.mem_range.2 hi)
  rw [ho] at h1
  simp only [Option.bind_some] at h1
  obtain ⟨d, hd⟩ : ∃ d, ds[i]? = some d := ⟨ds[i]'(by omega), by rw [List.getElem?_eq_getElem (by omega)]⟩
  cases hod : o.dst with
  |some d' =>
   rw [hod] at h1
   simp only [Bool.and_eq_true, decide_eq_true_eq, beq_iff_eq] at h1
   show ({ a with tmps := (putAll a.tmps ds xs 0).setIfInBounds d' v } : Act) = { a with tmps := putAll a.tmps ds (upd xs i v) 0 }
   rw [putAll_setI ds a.tmps xs i v hnd h1.2 (by rw [hN]; exact h1.1)]
  |none =>
   rw [hod] at h1
   simp only [decide_eq_true_eq] at h1
   have h2 : ds.getD i 0 = d := by simp [hd]
   rw [h2] at h1
   show ({ a with tmps := putAll a.tmps ds xs 0 } : Act) = { a with tmps := putAll a.tmps ds (upd xs i v) 0 }
   have := putAll_out ds a.tmps xs 0 i v hnd hd (by rw [hN]; exact h1)
   rw [Nat.zero_add] at this
   rw [this]
 simp only [Bool.and_eq_true, beq_iff_eq] at hB
 obtain ⟨⟨hn, hB⟩, hback⟩ := hB
 have hall : ∀ j, j < l → onB' .any ops l j = true := fun j hj => List.all_eq_true.1 hB j (List.mem_range.2 hj)
 refine region_inv hm (fun listed a' w => listed.size = l + 1 ∧ ((listed.getD l true = false ∧ R W0 w ∧ ∃ xs, a' = frOf a ds xs ∧ ∀ j, j < l → listed.getD j false = true → T j (xs j) w) ∨ ((∀ j, j < l + 1 → listed.getD j true = true) ∧ Q .normal a' w))) ?_ ?_ ?_
 ·refine ⟨by simp [hn], .inl ⟨by simp [hn], hw, fun j => a.tmps.getD (ds.getD j 0) undef, ?_, fun j hj hl => ?_⟩⟩
  ·show a = { a with tmps := putAll a.tmps ds _ 0 }
   rw [putAll_sameI ds a.tmps _ hnd (fun j d h _ => by simp [h])]
  ·rw [hn] at hl
   simp [show j < l + 1 by omega] at hl
 ·rintro listed a' w i hi ⟨hsz, hI⟩
  obtain ⟨hun, o, ho, hdep⟩ := mem_ready.1 hi
  have hil : i < l + 1 := by rw [← hn]; exact (Array.getElem?_eq_some_iff.1 ho).1
  rcases hI with ⟨hl', hx, xs, rfl, hxs⟩ | ⟨hfull, _⟩
  rotate_left
  ·rw [hfull i hil] at hun; cases hun
  have hon : ∀ j, onB' .any ops i j = true → listed.getD j false = true := fun j hj => by
   obtain ⟨o', ho', e, he, hb, hk⟩ := onB_spec hj
   have : o = o' := Option.some.inj (ho.symm.trans ho')
   subst this
   rw [← hk]; exact hdep e he hb
  by_cases hi' : i = l
  ·subst hi'
   have hdone : ∀ j, j < i → listed.getD j false = true := fun j hj => hon j (hall j hj)
   have hfin : ∀ j, j < i + 1 → (listed.setIfInBounds i true).getD j true = true := fun j hj => by
    by_cases hji : j = i
    ·subst hji
     exact getD_false_true (getD_set_self hun)
    ·rw [getD_set_other true (Ne.symm hji)]
     exact getD_false_true (hdone j (by omega))
   have h2 := hlast o ho xs w hx (fun j hj => hxs j hj (hdone j hj)) _ rfl (hot xs) (hev xs) (fun a' w' => (listed.setIfInBounds i true).size = i + 1 ∧ (((listed.setIfInBounds i true).getD i true = false ∧ R W0 w' ∧ ∃ xs, a' = frOf a ds xs ∧ ∀ j, j < i → (listed.setIfInBounds i true).getD j false = true → T j (xs j) w') ∨ ((∀ j, j < i + 1 → (listed.setIfInBounds i true).getD j true = true) ∧ Q .normal a' w'))) (fun a' w' hq => ⟨by simpa using hsz, .inr ⟨hfin, hq⟩⟩)
   unfold wpOp
   rw [ho]
   simp only
   split
   ·rename_i hw'; rw [if_pos hw'] at h2; exact .inl h2
   ·rename_i hw'; rw [if_neg hw'] at h2; exact h2
  ·have hil' : i < l := by omega
   have h2 := hstep i hil' o ho (frOf a ds xs) xs w hx (hot xs) (hev xs) (fun j hj => by
    by_cases hjl : j < l
    ·exact hxs j hjl (hon j hj)
    ·have h3 := getD_false_true (hon j hj)
     have h4 : j < listed.size := by
      rcases Nat.lt_or_ge j listed.size with h' | h'
      ·exact h'
      ·have := hon j hj; simp [Array.getElem?_eq_none h'] at this
     obtain rfl : j = l := by omega
     rw [hl'] at h3; cases h3) (fun a' w' => (listed.setIfInBounds i true).size = l + 1 ∧ (((listed.setIfInBounds i true).getD l true = false ∧ R W0 w' ∧ ∃ xs, a' = frOf a ds xs ∧ ∀ j, j < l → (listed.setIfInBounds i true).getD j false = true → T j (xs j) w') ∨ ((∀ j, j < l + 1 → (listed.setIfInBounds i true).getD j true = true) ∧ Q .normal a' w'))) (fun v w' he hkeep hv => by
    refine ⟨by simpa using hsz, .inl ⟨by rw [getD_set_other true hi']; exact hl', hR _ _ _ hx he, upd xs i v, hput i o hil' ho xs v, fun j hj hl' => ?_⟩⟩
    by_cases hji : j = i
    ·subst hji; rw [upd_self]; exact hv
    ·rw [upd_ne xs v hji]
     rw [getD_set_other false (Ne.symm hji)] at hl'
     exact hkeep j _ hji (hxs j hj hl'))
   unfold wpOp
   rw [ho]
   simp only
   split
   ·rename_i hw'; rw [if_pos hw'] at h2; exact .inl h2
   ·rename_i hw'; rw [if_neg hw'] at h2; exact h2
 ·rintro listed a' w hr ⟨hsz, hI⟩
  rcases hI with ⟨hl', _, xs, _, _⟩ | ⟨_, hq⟩
  ·exfalso
   have hle : ∀ i, i < l + 1 → listed.getD i true = false → False := by
    intro i
    induction i using Nat.strongRecOn with
    |ind i ih =>
     intro hil hun
     obtain ⟨o, ho⟩ : ∃ o, ops[i]? = some o := ⟨ops[i]'(by omega), by rw [Array.getElem?_eq_getElem (by omega)]⟩
     by_cases hd : ∀ e ∈ o.after, Region.binds .any e = true → listed.getD e.on false = true
     ·have : i ∈ Region.ready .any ops listed := mem_ready.2 ⟨hun, o, ho, hd⟩
      rw [hr] at this; cases this
     ·simp only [Classical.not_forall] at hd
      obtain ⟨e, he, hb, hne⟩ := hd
      have hlt := slBackB_spec hback ho e he hb
      refine ih e.on hlt (by omega) ?_
      have h4 : e.on < listed.size := by omega
      simp [h4] at hne ⊢
      exact hne
   exact hle l (by omega) hl'
  ·exact hq
end
section
variable {P : Program} {ops : Array Oper} {Q : Exit → Act → World → Prop}
def tP (Ts : List (Value → World → Prop)) (ai : Nat) (S : Value → World → Prop) (ph : Bool) (j : Nat) : Value → World → Prop := if ph = true ∧ j = ai then S else tAt Ts j
/- what the store is to show -/
def StoreP (P : Program) (ops : Array Oper) (Q : Exit → Act → World → Prop) (a : Act) (ds : List Nat) (W0 : World) (Ts : List (Value → World → Prop)) (ai si da l : Nat) (S : Value → World → Prop) : Prop :=
 ∀ o, ops[si]? = some o → ∀ b w, Ext W0 w → (∀ k, ds.contains k = false → b.eval (.tmp k) = a.eval (.tmp k)) → (∀ j d, ds[j]? = some d → onB' .any ops si j = true → tAt Ts j (b.eval (.tmp d)) w) →
  ∀ K : Act → World → Prop, (∀ w', Ext W0 w' → (∀ j, j < l → j ≠ ai → j ≠ si → ∀ v, tAt Ts j v w → tAt Ts j v w') → S (b.eval (.tmp da)) w' → K b w') → if Region.wanted o (yielded ops b.tmps) = true then Oper.wp P o b w K Q else K b w
def slPB (ops : Array Oper) (ds : List Nat) (l m N ai si da : Nat) : Bool :=
 tailsB ops l m && (ds.length == l) && decide ds.Nodup && (List.range l).all (fun i => match (ops[i]?).bind (·.dst) with | some d => decide (d < N) && (ds[i]? == some d) && (i != si) | none => decide (N ≤ ds.getD i 0) && (i == si)) &&
  decide (si < l) && decide (ai < l) && (ai != si) && (ds[ai]? == some da) && onT ops 2 si ai && (List.range l).all (fun i => (i == si) || (!onB' .any ops i ai && !onB' .any ops i si))
theorem region_slotsP {id l m N ai si da : Nat} {a : Act} {w W0 : World} {L : List Oper} (ds : List Nat) (Ts : List (Value → World → Prop)) (S : Value → World → Prop) (hm : P.follows .mixedOrders = true) (hpos : 0 < m)
  (hB : slPB L.toArray ds l m N ai si da = true) (hN : a.tmps.size = N) (hw : Ext W0 w)
  (hT : KpL Ts) (hS : Kp S) (hstep : ∀ i, i < l → i ≠ si → StepB P L.toArray Q a ds W0 (tAt Ts) i)
  (hst : StoreP P L.toArray Q a ds W0 Ts ai si da l S)
  (hlast : ∀ xs w, Ext W0 w → (∀ j, j < l → j ≠ si → tP Ts ai S true j (xs j) w) → wpList P L.toArray Q (L.drop l) (frOf a ds xs) w) :
  (Code.region id L.toArray true).wp P Q a w := by
 simp only [slPB, Bool.and_eq_true, beq_iff_eq, decide_eq_true_eq, bne_iff_ne] at hB
 obtain ⟨⟨⟨⟨⟨⟨⟨⟨⟨hB, hl⟩, hnd⟩, hdst⟩, hsil⟩, hail⟩, hne⟩, hda⟩, hwait⟩, hfr⟩ := hB
 simp only [tailsB, Bool.and_eq_true, beq_iff_eq] at hB
 obtain ⟨⟨hn, hB⟩, hback⟩ := hB
 have hall : ∀ t j, l ≤ t → t < l + m → j < t → onT L.toArray 2 t j = true := fun t j h1 h2 h3 => by
  have h4 := List.all_eq_true.1 hB (t - l) (List.mem_range.2 (by omega))
  have h5 := List.all_eq_true.1 h4 j (List.mem_range.2 (by omega))
  rwa [show l + (t - l) = t by omega] at h5
 have hdt : ∀ i o, i < l → L.toArray[i]? = some o → (i ≠ si → ∃ d, o.dst = some d ∧ ds[i]? = some d ∧ d < N) ∧ (i = si → o.dst = none ∧ ∃ d, ds[i]? = some d ∧ N ≤ d) := fun i o hi ho => by
  have h1 := List.all_eq_true.1 hdst i (List.mem_range.2 hi)
  rw [ho] at h1
  simp only [Option.bind_some] at h1
  cases hod : o.dst with
  |some d' =>
   rw [hod] at h1
   simp only [Bool.and_eq_true, decide_eq_true_eq, beq_iff_eq, bne_iff_ne] at h1
   exact ⟨fun _ => ⟨d', rfl, h1.1.2, h1.1.1⟩, fun h => absurd h h1.2⟩
  |none =>
   rw [hod] at h1
   simp only [Bool.and_eq_true, decide_eq_true_eq, beq_iff_eq] at h1
   refine ⟨fun h => absurd h1.2 h, fun _ => ⟨rfl, ds[i]'(by omega), by rw [List.getElem?_eq_getElem (by omega)], ?_⟩⟩
   have := h1.1
   simpa [show i < ds.length by omega] using this
 have hsz : L.length = l + m := by simpa using hn
 have hget : ∀ i, i < l + m → ∃ o, L.toArray[i]? = some o := fun i hi => ⟨L.toArray[i]'(by omega), by rw [Array.getElem?_eq_getElem (by omega)]⟩
 have hdN : ∀ j d, ds[j]? = some d → j ≠ si → d < N := fun j d h hj => by
  have hjl : j < l := by rw [← hl]; exact (List.getElem?_eq_some_iff.1 h).1
  obtain ⟨o, ho⟩ := hget j (by omega)
  obtain ⟨d', _, h2, h3⟩ := (hdt j o hjl ho).1 hj
  rw [h] at h2
  rw [Option.some.inj h2]; exact h3
 have hev : ∀ xs j d, ds[j]? = some d → j ≠ si → (frOf a ds xs).eval (.tmp d) = xs j := fun xs j d h hj => by
  show (putAll a.tmps ds xs 0).getD d undef = _
  have := putAll_at ds a.tmps xs 0 j hnd h (by rw [hN]; exact hdN j d h hj)
  rw [Nat.zero_add] at this
  rw [Array.getD_eq_getD_getElem?, this]; rfl
 have hot : ∀ xs k, ds.contains k = false → (frOf a ds xs).eval (.tmp k) = a.eval (.tmp k) := fun xs k h => by
  show (putAll a.tmps ds xs 0).getD k undef = a.tmps.getD k undef
  rw [Array.getD_eq_getD_getElem?, Array.getD_eq_getD_getElem?, putAll_other ds a.tmps xs 0 (by simpa using h)]
 have hput : ∀ i o, i < l → i ≠ si → L.toArray[i]? = some o → ∀ xs v, (frOf a ds xs).put o.dst v = frOf a ds (upd xs i v) := fun i o hi his ho xs v => by
  obtain ⟨d, h2, hd, hdl⟩ := (hdt i o hi ho).1 his
  rw [h2]
  show ({ a with tmps := (putAll a.tmps ds xs 0).setIfInBounds d v } : Act) = { a with tmps := putAll a.tmps ds (upd xs i v) 0 }
  rw [putAll_setI ds a.tmps xs i v hnd hd (by rw [hN]; exact hdl)]
 have hfree : ∀ i, i < l → i ≠ si → ∀ j, onB' .any L.toArray i j = true → j ≠ ai ∧ j ≠ si := fun i hi his j hj => by
  have h1 := List.all_eq_true.1 hfr i (List.mem_range.2 hi)
  simp only [Bool.or_eq_true, beq_iff_eq, Bool.and_eq_true, Bool.not_eq_true'] at h1
  rcases h1 with h1 | h1
  ·exact absurd h1 his
  ·constructor
   ·intro e
    rw [e, h1.1] at hj
    cases hj
   ·intro e
    rw [e, h1.2] at hj
    cases hj
 have tP_ext : ∀ ph j v w w', Ext w w' → tP Ts ai S ph j v w → tP Ts ai S ph j v w' := fun ph j v w w' he h => by
  unfold tP at *
  split at h
  ·rename_i hc; rw [if_pos hc]; exact hS v w w' he h
  ·rename_i hc; rw [if_neg hc]; exact KpL.at hT j v w w' he h
 have tP_of : ∀ ph j v w, j ≠ ai → tP Ts ai S ph j v w → tAt Ts j v w := fun ph j v w hj h => by
  unfold tP at h
  rwa [if_neg (fun hc => hj hc.2)] at h
 have of_tP : ∀ ph j v w, (ph = true → j ≠ ai) → tAt Ts j v w → tP Ts ai S ph j v w := fun ph j v w hj h => by
  unfold tP
  rw [if_neg (fun hc => hj hc.1 hc.2)]; exact h
 let Inv : Array Bool → Act → World → Prop := fun listed a' w => Closed .any L.toArray listed ∧ listed.size = l + m ∧ (((∀ t, l ≤ t → t < l + m → listed.getD t true = false) ∧ Ext W0 w ∧ ∃ xs, a' = frOf a ds xs ∧ ∀ j, j < l → j ≠ si → listed.getD j false = true → tP Ts ai S (listed.getD si false) j (xs j) w) ∨ ∃ t, l < t ∧ t ≤ l + m ∧ (∀ j, j < t → listed.getD j true = true) ∧ (∀ j, t ≤ j → j < l + m → listed.getD j true = false) ∧ wpList P L.toArray Q (L.drop t) a' w)
 refine region_inv hm Inv ?_ ?_ ?_
 ·refine ⟨fun j oj _ hl' => (by rw [getD_replicate_false] at hl'; cases hl'), by simp [hsz], .inl ⟨fun t h1 h2 => by simp [hsz, h2], hw.drew, fun j => a.tmps.getD (ds.getD j 0) undef, ?_, fun j hj _ hl => ?_⟩⟩
  ·show a = { a with tmps := putAll a.tmps ds _ 0 }
   rw [putAll_sameI ds a.tmps _ hnd (fun j d h _ => by simp [h])]
  ·rw [hn] at hl
   simp [show j < l + m by omega] at hl
 ·rintro listed a' w i hi ⟨hcl, hsl, hI⟩
  obtain ⟨hun, o, ho, hdep⟩ := mem_ready.1 hi
  have hil : i < l + m := by rw [← hn]; exact (Array.getElem?_eq_some_iff.1 ho).1
  have hon : ∀ j, onB' .any L.toArray i j = true → listed.getD j false = true := fun j hj => by
   obtain ⟨o', ho', e, he, hb, hk⟩ := onB_spec hj
   have : o = o' := Option.some.inj (ho.symm.trans ho')
   subst this
   rw [← hk]; exact hdep e he hb
  have hcl' := hcl.set hi
  have honT : ∀ j, onT L.toArray 2 i j = true → listed.getD j false = true := fun j hj => by
   unfold onT at hj
   rw [Bool.or_eq_true] at hj
   rcases hj with h | h
   ·exact hon j h
   ·obtain ⟨k, _, h⟩ := List.any_eq_true.1 h
    rw [Bool.and_eq_true] at h
    exact closed_onT hcl 1 k j h.2 (hon k h.1)
  have hLo : L[i]? = some o := by simpa using ho
  have hdrop : L.drop i = o :: L.drop (i + 1) := by
   rw [List.drop_eq_getElem_cons (by omega)]
   rw [List.getElem?_eq_getElem (by omega)] at hLo
   rw [Option.some.inj hLo]
  have tail : l ≤ i → (∀ j, j < i → listed.getD j true = true) → (∀ j, i ≤ j → j < l + m → listed.getD j true = false) → wpList P L.toArray Q (L.drop i) a' w → wpOp P L.toArray Q i (Inv (listed.setIfInBounds i true)) a' w := by
   intro h1 h2 h3 h4
   rw [hdrop] at h4
   have h5 : wpOp P L.toArray Q i (wpList P L.toArray Q (L.drop (i + 1))) a' w := by
    unfold wpOp
    rw [ho]
    exact h4
   refine wpOp_mono (fun a'' w' hq => ⟨hcl', by simpa using hsl, .inr ⟨i + 1, by omega, by omega, fun j hj => ?_, fun j hj hj' => ?_, hq⟩⟩) h5
   ·by_cases hji : j = i
    ·subst hji; exact getD_false_true (getD_set_self hun)
    ·rw [getD_set_other true (Ne.symm hji)]; exact h2 j (by omega)
   ·rw [getD_set_other true (by omega)]; exact h3 j (by omega) hj'
  rcases hI with ⟨hopen, hx, xs, rfl, hxs⟩ | ⟨t, h1, h2, h3, h4, h5⟩
  ·by_cases hi' : l ≤ i
   ·have hdone : ∀ j, j < i → listed.getD j false = true := fun j hj => honT j (hall i j hi' hil hj)
    have hil2 : i = l := by
     rcases Nat.lt_or_ge l i with h | h
     ·have e1 := getD_false_true (hdone l h)
      rw [hopen l (Nat.le_refl _) (by omega)] at e1; cases e1
     ·omega
    subst hil2
    exact tail (Nat.le_refl _) (fun j hj => getD_false_true (hdone j hj)) (fun j hj hj' => hopen j hj hj') (hlast xs w hx (fun j hj hjs => by
     have := hxs j hj hjs (hdone j hj)
     rwa [hdone si hsil] at this))
   ·have hil' : i < l := by omega
    by_cases his : i = si
    ·subst his
     obtain ⟨hdn, d, hdd, hdge⟩ := (hdt i o hil' ho).2 rfl
     have hsf : listed.getD i false = false := by
      cases h : listed.getD i false with
      |false => rfl
      |true => rw [getD_false_true h] at hun; cases hun
     have h1 := hst o ho (frOf a ds xs) w hx (hot xs) (fun j d h hj => by
      have hjl : j < l := by rw [← hl]; exact (List.getElem?_eq_some_iff.1 h).1
      have hjs : j ≠ i := by
       rintro rfl
       have := hon j hj
       rw [hsf] at this; cases this
      rw [hev xs j d h hjs]
      have := hxs j hjl hjs (hon j hj)
      rw [hsf] at this
      unfold tP at this
      rwa [if_neg (fun hc => by cases hc.1)] at this) (Inv (listed.setIfInBounds i true)) (fun w' hx' hkeep hSa => by
      refine ⟨hcl', by simpa using hsl, .inl ⟨fun t ht ht' => by rw [getD_set_other true (by omega)]; exact hopen t ht ht', hx', xs, rfl, fun j hj hjs hl' => ?_⟩⟩
      rw [getD_set_self hun]
      rw [getD_set_other false (Ne.symm hjs)] at hl'
      have h2 := hxs j hj hjs hl'
      rw [hsf] at h2
      have h3 : tAt Ts j (xs j) w := by
       unfold tP at h2
       rwa [if_neg (fun hc => by cases hc.1)] at h2
      by_cases hja : j = ai
      ·subst hja
       unfold tP
       rw [if_pos ⟨rfl, rfl⟩]
       rw [hev xs j da hda hjs] at hSa
       exact hSa
      ·exact of_tP true j (xs j) w' (fun _ => hja) (hkeep j hj hja hjs (xs j) h3))
     unfold wpOp
     rw [ho]
     simp only
     split
     ·rename_i hw'; rw [if_pos hw'] at h1; exact .inl h1
     ·rename_i hw'; rw [if_neg hw'] at h1; rw [hdn]; exact h1
    ·have h1 := hstep i hil' his o ho (frOf a ds xs) w hx (hot xs) (fun j d h hj => by
      have hjl : j < l := by rw [← hl]; exact (List.getElem?_eq_some_iff.1 h).1
      obtain ⟨ha, hs⟩ := hfree i hil' his j hj
      rw [hev xs j d h hs]
      exact tP_of _ j _ _ ha (hxs j hjl hs (hon j hj))) (Inv (listed.setIfInBounds i true)) (fun v w' he hv => by
      refine ⟨hcl', by simpa using hsl, .inl ⟨fun t ht ht' => by rw [getD_set_other true (by omega)]; exact hopen t ht ht', hx.trans he, upd xs i v, hput i o hil' his ho xs v, fun j hj hjs hl' => ?_⟩⟩
      rw [getD_set_other false his]
      by_cases hji : j = i
      ·subst hji
       rw [upd_self]
       refine of_tP _ j v w' (fun hph => ?_) hv
       rintro rfl
       have := closed_onT hcl 2 si j hwait hph
       rw [getD_false_true this] at hun; cases hun
      ·rw [upd_ne xs v hji]
       rw [getD_set_other false (Ne.symm hji)] at hl'
       exact tP_ext _ j _ _ _ he (hxs j hj hjs hl'))
     unfold wpOp
     rw [ho]
     simp only
     split
     ·rename_i hw'; rw [if_pos hw'] at h1; exact .inl h1
     ·rename_i hw'; rw [if_neg hw'] at h1; exact h1
  ·have hit : i = t := by
    rcases Nat.lt_trichotomy i t with h | h | h
    ·rw [h3 i h] at hun; cases hun
    ·exact h
    ·have e1 := getD_false_true (honT t (hall i t (by omega) hil h))
     rw [h4 t (Nat.le_refl _) (by omega)] at e1; cases e1
   subst hit
   exact tail (by omega) h3 h4 h5
 ·rintro listed a' w hr ⟨hcl, hsl, hI⟩
  have hle : ∀ i, i < l + m → listed.getD i true = false → False := by
   intro i
   induction i using Nat.strongRecOn with
   |ind i ih =>
    intro hil hun
    obtain ⟨o, ho⟩ := hget i hil
    by_cases hd : ∀ e ∈ o.after, Region.binds .any e = true → listed.getD e.on false = true
    ·have : i ∈ Region.ready .any L.toArray listed := mem_ready.2 ⟨hun, o, ho, hd⟩
     rw [hr] at this; cases this
    ·simp only [Classical.not_forall] at hd
     obtain ⟨e, he, hb, hne⟩ := hd
     have hlt := slBackB_spec hback ho e he hb
     refine ih e.on hlt (by omega) ?_
     have h4 : e.on < listed.size := by omega
     simp [h4] at hne ⊢
     exact hne
  rcases hI with ⟨hopen, _⟩ | ⟨t, h1, h2, h3, h4, h5⟩
  ·exact absurd (hopen l (Nat.le_refl _) (by omega)) (fun h => hle l (by omega) h)
  ·rcases Nat.lt_or_ge t (l + m) with h | h
   ·exact absurd (h4 t (Nat.le_refl _) h) (fun h' => hle t h h')
   ·rw [List.drop_of_length_le (by omega)] at h5
    exact h5
end
end Go.Proofs.YtfegbaokcbjllaaGreat
