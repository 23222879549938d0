/- garmentlaw52.side, shirt -/
import Derived.Deep.RegionLaw
import Derived.Test.YtkigmpholnfkbaaGreatKUpto
import Derived.Test.YtkigmpholnfkbaaGreatKShP
/- a call of a Go function inside a region whose order is open, as one step; no program in sight -/
namespace Go.Proofs.YtkigmpholnfkbaaGreat
open Go.RowKit
theorem step_call {P : Program} {ops : Array Oper} {o : Oper} {a : Act} {w : World} {K : Act → World → Prop} {Q : Exit → Act → World → Prop} {E : Prop}
    (hg : o.guard = none) (f : FuncId) (xs : List Operand) (ts : Array TypeId) (hop : o.op = Op.call { callee := Callee.value (Operand.func f), args := xs.toArray, argTypes := ts })
    (fn : Func) (hf : P.funcs[f]? = some fn) (hb : fn.body.isSome = true) (hn : fn.name ≠ "runtime.NumGoroutine") (args : List Value) (hargs : xs.map a.eval = args) {v : Value} {R : World → Prop} (hc : Calls P f args.toArray w fun e w' => e = .returned v ∧ R w')
    (hK : ∀ w', R w' → K (a.put o.dst v) w') : if Region.wanted o (yielded ops a.tmps) = true then Oper.wp P o a w K Q else E := by
  have hw : Region.wanted o (yielded ops a.tmps) = true := by simp [Region.wanted, hg]
  rw [if_pos hw]
  subst hargs
  obtain ⟨c, hb⟩ := Option.isSome_iff_exists.1 hb
  unfold Oper.wp
  simp [execOp, hop, resolve, invoke, Act.eval, callFunc, go_sem, hf, hb, hn]
  refine hc.mono ?_
  rintro e w' ⟨rfl, h⟩
  exact hK w' h
end Go.Proofs.YtkigmpholnfkbaaGreat
/- A region whose order is open and whose operations make memory or call: what each slot may hold, said by a predicate that later worlds keep; the last operation waits for all others. No program in sight. -/
namespace Go.Proofs.YtkigmpholnfkbaaGreat
open Go.RowKit
section
variable {P : Program} {ops : Array Oper} {Q : Exit → Act → World → Prop}
theorem set_count : ∀ (l : List Bool) (i : Nat), l[i]? = some false → (l.set i true).count false + 1 = l.count false
  | [], i, h => by simp at h
  | b :: l, 0, h => by
    obtain rfl : b = false := by simpa using h
    simp
  | b :: l, i + 1, h => by
    have := set_count l i (by simpa using h)
    simp only [List.set_cons_succ, List.count_cons]
    omega
theorem region_inv {id : Nat} {a : Act} {w : World} (hm : P.follows .mixedOrders = true) (I : Array Bool → Act → World → Prop)
    (h0 : I (Array.replicate ops.size false) a w.drew)
    (hs : ∀ listed a w i, i ∈ Region.ready .any ops listed → I listed a w → wpOp P ops Q i (I (listed.setIfInBounds i true)) a w)
    (he : ∀ listed a w, Region.ready .any ops listed = [] → I listed a w → Q .normal a w) : (Code.region id ops true).wp P Q a w := by
  refine wp_region_any hm ?_
  have key : ∀ (fuel : Nat) (listed : Array Bool) (a : Act) (w : World), listed.toList.count false = fuel → I listed a w → wpAny P .any ops Q fuel listed a w := by
    intro fuel
    induction fuel with
    | zero =>
      intro listed a w hc hI
      have hr : Region.ready .any ops listed = [] := by
        rw [List.eq_nil_iff_forall_not_mem]
        intro i hi
        have h1 := (mem_ready.1 hi).1
        have h2 : i < listed.size := by
          rcases Nat.lt_or_ge i listed.size with h' | h'
          · exact h'
          · simp [Array.getElem?_eq_none h'] at h1
        have h3 : listed.toList.count false ≠ 0 := by
          rw [Ne, List.count_eq_zero]
          intro hn
          apply hn
          have h4 : listed[i] = false := by simpa [h2] using h1
          rw [← h4]
          simp
        exact h3 hc
      exact ⟨hr, he _ _ _ hr hI⟩
    | succ fuel ih =>
      intro listed a w hc hI
      refine ⟨fun hr => he _ _ _ hr hI, fun i hi => ?_⟩
      have h1 := (mem_ready.1 hi).1
      have h2 : i < listed.size := by
        rcases Nat.lt_or_ge i listed.size with h' | h'
        · exact h'
        · simp [Array.getElem?_eq_none h'] at h1
      have h4 : listed[i] = false := by simpa [h2] using h1
      refine wpOp_mono (fun a' w' h' => ih _ a' w' ?_ h') (hs _ _ _ _ hi hI)
      have := set_count listed.toList i (by simp [h2, h4])
      rw [Array.toList_setIfInBounds]
      omega
  exact key _ _ _ _ (by simp) h0
def upd (xs : Nat → Value) (i : Nat) (v : Value) : Nat → Value := fun j => if j = i then v else xs j
theorem upd_self (xs : Nat → Value) (i : Nat) (v : Value) : upd xs i v i = v := by simp [upd]
theorem upd_ne (xs : Nat → Value) {i j : Nat} (v : Value) (h : j ≠ i) : upd xs i v j = xs j := by simp [upd, h]
/- what an operation that is not the last one is to show -/
def StepOk (P : Program) (ops : Array Oper) (Q : Exit → Act → World → Prop) (fr : (Nat → Value) → Act) (W0 : World) (T : Nat → Value → World → Prop) (i : Nat) : Prop :=
  ∀ o, ops[i]? = some o → (∀ xs v, (fr xs).put o.dst v = fr (upd xs i v)) ∧ ∀ xs w, Ext W0 w → (∀ j, onB' .any ops i j = true → T j (xs j) w) →
    ∀ K : Act → World → Prop, (∀ v w', Ext w w' → T i v w' → K ((fr xs).put o.dst v) w') → if Region.wanted o (yielded ops (fr xs).tmps) = true then Oper.wp P o (fr xs) w K Q else K ((fr xs).put o.dst undef) w
theorem stepOk_of {fr : (Nat → Value) → Act} {W0 : World} {T : Nat → Value → World → Prop} {i : Nat} {o : Oper} (ho : ops[i]? = some o) (hp : ∀ xs v, (fr xs).put o.dst v = fr (upd xs i v))
    (h : ∀ xs w, Ext W0 w → (∀ j, onB' .any ops i j = true → T j (xs j) w) → ∀ K : Act → World → Prop, (∀ v w', Ext w w' → T i v w' → K ((fr xs).put o.dst v) w') → if Region.wanted o (yielded ops (fr xs).tmps) = true then Oper.wp P o (fr xs) w K Q else K ((fr xs).put o.dst undef) w) :
    StepOk P ops Q fr W0 T i := by
  intro o' ho'
  obtain rfl : o = o' := Option.some.inj (ho.symm.trans ho')
  exact ⟨hp, h⟩
/- every operation waits only for earlier ones -/
def slBackB (ops : Array Oper) : Bool := (List.range ops.size).all fun i => match ops[i]? with
  | some o => o.after.all fun e => !Region.binds .any e || decide (e.on < i)
  | none => true
theorem slBackB_spec (h : slBackB ops = true) {i : Nat} {o : Oper} (ho : ops[i]? = some o) : ∀ e ∈ o.after, Region.binds .any e = true → e.on < i := by
  intro e he hb
  have hi : i < ops.size := (Array.getElem?_eq_some_iff.1 ho).1
  have h1 := List.all_eq_true.1 h i (List.mem_range.2 hi)
  rw [ho] at h1
  have h2 := Array.all_eq_true'.1 h1 e he
  rw [hb] at h2
  exact of_decide_eq_true (by simpa using h2)
theorem region_slots {id l : Nat} {a : Act} {w W0 : World} (fr : (Nat → Value) → Act) (xs0 : Nat → Value) (T : Nat → Value → World → Prop)
    (hm : P.follows .mixedOrders = true) (hB : (ops.size == l + 1 && (List.range l).all (fun j => onB' .any ops l j) && slBackB ops) = true) (ha : a = fr xs0) (hw : Ext W0 w)
    (hT : ∀ i v w w', i < l → Ext w w' → T i v w → T i v w') (hstep : ∀ i, i < l → StepOk P ops Q fr W0 T i)
    (hlast : ∀ o, ops[l]? = some o → ∀ xs w, Ext W0 w → (∀ j, j < l → T j (xs j) w) → ∀ K : Act → World → Prop, (∀ a' w', Q .normal a' w' → K a' w') → if Region.wanted o (yielded ops (fr xs).tmps) = true then Oper.wp P o (fr xs) w K Q else K ((fr xs).put o.dst undef) w) :
    (Code.region id ops true).wp P Q a w := by
  simp only [Bool.and_eq_true, beq_iff_eq] at hB
  obtain ⟨⟨hn, hB⟩, hback⟩ := hB
  have hall : ∀ j, j < l → onB' .any ops l j = true := fun j hj => List.all_eq_true.1 hB j (List.mem_range.2 hj)
  refine region_inv hm (fun listed a w => listed.size = l + 1 ∧ ((listed.getD l true = false ∧ Ext W0 w ∧ ∃ xs, a = fr xs ∧ ∀ j, j < l → listed.getD j false = true → T j (xs j) w) ∨ ((∀ j, j < l + 1 → listed.getD j true = true) ∧ Q .normal a w))) ?_ ?_ ?_
  · refine ⟨by simp [hn], .inl ⟨by simp [hn], hw.drew, xs0, ha, fun j hj hl => ?_⟩⟩
    rw [hn] at hl
    simp [show j < l + 1 by omega] at hl
  · rintro listed a w i hi ⟨hsz, hI⟩
    obtain ⟨hun, o, ho, hdep⟩ := mem_ready.1 hi
    have hil : i < l + 1 := by rw [← hn]; exact (Array.getElem?_eq_some_iff.1 ho).1
    rcases hI with ⟨hl, hx, xs, rfl, hxs⟩ | ⟨hfull, _⟩
    rotate_left
    · rw [hfull i hil] at hun; cases hun
    have hon : ∀ j, onB' .any ops i j = true → listed.getD j false = true := fun j hj => by
      obtain ⟨o', ho', e, he, hb, hk⟩ := onB_spec hj
      have : o = o' := Option.some.inj (ho.symm.trans ho')
      subst this
      rw [← hk]; exact hdep e he hb
    by_cases hi' : i = l
    · subst hi'
      have hdone : ∀ j, j < i → listed.getD j false = true := fun j hj => hon j (hall j hj)
      have hfin : ∀ j, j < i + 1 → (listed.setIfInBounds i true).getD j true = true := fun j hj => by
        by_cases hji : j = i
        · subst hji
          exact getD_false_true (getD_set_self hun)
        · rw [getD_set_other true (Ne.symm hji)]
          exact getD_false_true (hdone j (by omega))
      have h2 := hlast o ho xs w hx (fun j hj => hxs j hj (hdone j hj)) (fun a' w' => (listed.setIfInBounds i true).size = i + 1 ∧ (((listed.setIfInBounds i true).getD i true = false ∧ Ext W0 w' ∧ ∃ xs, a' = fr xs ∧ ∀ j, j < i → (listed.setIfInBounds i true).getD j false = true → T j (xs j) w') ∨ ((∀ j, j < i + 1 → (listed.setIfInBounds i true).getD j true = true) ∧ Q .normal a' w'))) (fun a' w' hq => ⟨by simpa using hsz, .inr ⟨hfin, hq⟩⟩)
      unfold wpOp
      rw [ho]
      simp only
      split
      · rename_i hw'; rw [if_pos hw'] at h2; exact .inl h2
      · rename_i hw'; rw [if_neg hw'] at h2; exact h2
    · have hil' : i < l := by omega
      obtain ⟨hp, h1⟩ := hstep i hil' o ho
      have h2 := h1 xs w hx (fun j hj => by
        by_cases hjl : j < l
        · exact hxs j hjl (hon j hj)
        · have h3 := getD_false_true (hon j hj)
          have h4 : j < listed.size := by
            rcases Nat.lt_or_ge j listed.size with h' | h'
            · exact h'
            · have := hon j hj; simp [Array.getElem?_eq_none h'] at this
          obtain rfl : j = l := by omega
          rw [hl] at h3; cases h3) (fun a' w' => (listed.setIfInBounds i true).size = l + 1 ∧ (((listed.setIfInBounds i true).getD l true = false ∧ Ext W0 w' ∧ ∃ xs, a' = fr xs ∧ ∀ j, j < l → (listed.setIfInBounds i true).getD j false = true → T j (xs j) w') ∨ ((∀ j, j < l + 1 → (listed.setIfInBounds i true).getD j true = true) ∧ Q .normal a' w'))) (fun v w' he hv => by
        refine ⟨by simpa using hsz, .inl ⟨by rw [getD_set_other true hi']; exact hl, hx.trans he, upd xs i v, hp xs v, fun j hj hl' => ?_⟩⟩
        by_cases hji : j = i
        · subst hji; rw [upd_self]; exact hv
        · rw [upd_ne xs v hji]
          rw [getD_set_other false (Ne.symm hji)] at hl'
          exact hT j _ _ _ hj he (hxs j hj hl'))
      unfold wpOp
      rw [ho]
      simp only
      split
      · rename_i hw'; rw [if_pos hw'] at h2; exact .inl h2
      · rename_i hw'; rw [if_neg hw'] at h2; exact h2
  · rintro listed a w hr ⟨hsz, hI⟩
    rcases hI with ⟨hl, _, xs, _, _⟩ | ⟨_, hq⟩
    · exfalso
      have hle : ∀ i, i < l + 1 → listed.getD i true = false → False := by
        intro i
        induction i using Nat.strongRecOn with
        | ind i ih =>
          intro hil hun
          obtain ⟨o, ho⟩ : ∃ o, ops[i]? = some o := ⟨ops[i]'(by omega), by rw [Array.getElem?_eq_getElem (by omega)]⟩
          by_cases hd : ∀ e ∈ o.after, Region.binds .any e = true → listed.getD e.on false = true
          · have : i ∈ Region.ready .any ops listed := mem_ready.2 ⟨hun, o, ho, hd⟩
            rw [hr] at this; cases this
          · simp only [Classical.not_forall] at hd
            obtain ⟨e, he, hb, hne⟩ := hd
            have hlt := slBackB_spec hback ho e he hb
            refine ih e.on hlt (by omega) ?_
            have h4 : e.on < listed.size := by omega
            simp [h4] at hne ⊢
            exact hne
      exact hle l (by omega) hl
    · exact hq
/- the frame: some slots of a given frame written anew -/
def putAll : Array Value → List Nat → (Nat → Value) → Nat → Array Value
  | t, [], _, _ => t
  | t, d :: ds, xs, i => putAll (t.setIfInBounds d (xs i)) ds xs (i + 1)
def frOf (a : Act) (ds : List Nat) (xs : Nat → Value) : Act := { a with tmps := putAll a.tmps ds xs 0 }
theorem putAll_size : ∀ (ds : List Nat) (t : Array Value) (xs : Nat → Value) (i : Nat), (putAll t ds xs i).size = t.size
  | [], _, _, _ => rfl
  | d :: ds, t, xs, i => by unfold putAll; rw [putAll_size ds]; simp
theorem putAll_other : ∀ (ds : List Nat) (t : Array Value) (xs : Nat → Value) (i : Nat) {k : Nat}, k ∉ ds → (putAll t ds xs i)[k]? = t[k]?
  | [], _, _, _, _, _ => rfl
  | d :: ds, t, xs, i, k, h => by
    unfold putAll
    rw [putAll_other ds _ _ _ (fun h' => h (List.mem_cons_of_mem _ h'))]
    rw [Array.getElem?_setIfInBounds_ne (fun e => h (by rw [e]; exact List.mem_cons_self))]
theorem putAll_at : ∀ (ds : List Nat) (t : Array Value) (xs : Nat → Value) (i j : Nat) {d : Nat}, ds.Nodup → ds[j]? = some d → d < t.size → (putAll t ds xs i)[d]? = some (xs (i + j))
  | [], _, _, _, _, _, _, h, _ => by simp at h
  | d' :: ds, t, xs, i, 0, d, hn, h, hs => by
    obtain rfl : d' = d := by simpa using h
    unfold putAll
    rw [putAll_other ds _ _ _ (List.nodup_cons.1 hn).1]
    simp [hs]
  | d' :: ds, t, xs, i, j + 1, d, hn, h, hs => by
    unfold putAll
    rw [putAll_at ds _ xs (i + 1) j (List.nodup_cons.1 hn).2 (by simpa using h) (by simpa using hs)]
    congr 2; omega
theorem putAll_set : ∀ (ds : List Nat) (t : Array Value) (xs : Nat → Value) (i j : Nat) {d : Nat} (v : Value), ds.Nodup → ds[j]? = some d → (∀ d ∈ ds, d < t.size) → (putAll t ds xs i).setIfInBounds d v = putAll t ds (upd xs (i + j) v) i := by
  intro ds t xs i j d v hn h hs
  have hd : d < t.size := hs d (List.mem_of_getElem? h)
  apply Array.ext_getElem?
  intro k
  by_cases hk : k = d
  · subst hk
    rw [putAll_at ds t _ i j hn h hd, upd_self]
    rw [Array.getElem?_setIfInBounds]
    simp [putAll_size, hd]
  · rw [Array.getElem?_setIfInBounds_ne (Ne.symm hk)]
    by_cases hm : k ∈ ds
    · obtain ⟨q, hq⟩ := List.mem_iff_getElem?.1 hm
      rw [putAll_at ds t _ i q hn hq (hs k hm), putAll_at ds t _ i q hn hq (hs k hm)]
      rw [upd_ne]
      intro e
      have : q = j := by omega
      subst this
      rw [hq] at h
      exact hk (Option.some.inj h)
    · rw [putAll_other ds t _ i hm, putAll_other ds t _ i hm]
theorem putAll_same (ds : List Nat) (t : Array Value) (xs : Nat → Value) (hn : ds.Nodup) (hs : ∀ d ∈ ds, d < t.size) (h : ∀ j d, ds[j]? = some d → t.getD d undef = xs j) : putAll t ds xs 0 = t := by
  apply Array.ext_getElem?
  intro k
  by_cases hm : k ∈ ds
  · obtain ⟨q, hq⟩ := List.mem_iff_getElem?.1 hm
    have hk := hs k hm
    rw [putAll_at ds t xs 0 q hn hq hk, Nat.zero_add, ← h q k hq]
    simp [hk]
  · rw [putAll_other ds t xs 0 hm]
def StepB (P : Program) (ops : Array Oper) (Q : Exit → Act → World → Prop) (a : Act) (ds : List Nat) (W0 : World) (T : Nat → Value → World → Prop) (i : Nat) : Prop :=
  ∀ o, ops[i]? = some o → ∀ b w, Ext W0 w → (∀ k, ds.contains k = false → b.eval (.tmp k) = a.eval (.tmp k)) → (∀ j d, ds[j]? = some d → onB' .any ops i j = true → T j (b.eval (.tmp d)) w) →
    ∀ K : Act → World → Prop, (∀ v w', Ext w w' → T i v w' → K (b.put o.dst v) w') → if Region.wanted o (yielded ops b.tmps) = true then Oper.wp P o b w K Q else K (b.put o.dst undef) w
theorem stepB_of {a : Act} {ds : List Nat} {W0 : World} {T : Nat → Value → World → Prop} {i : Nat} {o : Oper} (ho : ops[i]? = some o)
    (h : ∀ b w, Ext W0 w → (∀ k, ds.contains k = false → b.eval (.tmp k) = a.eval (.tmp k)) → (∀ j d, ds[j]? = some d → onB' .any ops i j = true → T j (b.eval (.tmp d)) w) →
      ∀ K : Act → World → Prop, (∀ v w', Ext w w' → T i v w' → K (b.put o.dst v) w') → if Region.wanted o (yielded ops b.tmps) = true then Oper.wp P o b w K Q else K (b.put o.dst undef) w) : StepB P ops Q a ds W0 T i := by
  intro o' ho'
  obtain rfl : o = o' := Option.some.inj (ho.symm.trans ho')
  exact h
theorem region_slots' {id l N : Nat} {a : Act} {w W0 : World} (ds : List Nat) (T : Nat → Value → World → Prop) (hm : P.follows .mixedOrders = true)
    (hB : (ops.size == l + 1 && (List.range l).all (fun j => onB' .any ops l j) && slBackB ops) = true) (hD : (ds.length == l && decide ds.Nodup && ds.all (fun d => decide (d < N)) && (List.range l).all (fun i => (ops[i]?).bind (·.dst) == ds[i]?)) = true) (hN : a.tmps.size = N) (hw : Ext W0 w)
    (hT : ∀ i v w w', i < l → Ext w w' → T i v w → T i v w') (hstep : ∀ i, i < l → StepB P ops Q a ds W0 T i)
    (hlast : ∀ o, ops[l]? = some o → ∀ xs w, Ext W0 w → (∀ j, j < l → T j (xs j) w) → ∀ b, b = frOf a ds xs → (∀ k, ds.contains k = false → b.eval (.tmp k) = a.eval (.tmp k)) → (∀ j d, ds[j]? = some d → b.eval (.tmp d) = xs j) →
      ∀ K : Act → World → Prop, (∀ a' w', Q .normal a' w' → K a' w') → if Region.wanted o (yielded ops b.tmps) = true then Oper.wp P o b w K Q else K (b.put o.dst undef) w) :
    (Code.region id ops true).wp P Q a w := by
  simp only [Bool.and_eq_true, beq_iff_eq, decide_eq_true_eq] at hD
  obtain ⟨⟨⟨hl, hn⟩, hlt⟩, hdst⟩ := hD
  have hs : ∀ d ∈ ds, d < a.tmps.size := fun d hd => by rw [hN]; exact of_decide_eq_true (List.all_eq_true.1 hlt d hd)
  have hev : ∀ xs j d, ds[j]? = some d → (frOf a ds xs).eval (.tmp d) = xs j := fun xs j d h => by
    show (putAll a.tmps ds xs 0).getD d undef = _
    have := putAll_at ds a.tmps xs 0 j hn h (hs d (List.mem_of_getElem? h))
    rw [Nat.zero_add] at this
    rw [Array.getD_eq_getD_getElem?, this]; rfl
  have hot : ∀ xs k, ds.contains k = false → (frOf a ds xs).eval (.tmp k) = a.eval (.tmp k) := fun xs k h => by
    show (putAll a.tmps ds xs 0).getD k undef = a.tmps.getD k undef
    rw [Array.getD_eq_getD_getElem?, Array.getD_eq_getD_getElem?, putAll_other ds a.tmps xs 0 (by simpa using h)]
  refine region_slots (l := l) (frOf a ds) (fun j => a.tmps.getD (ds.getD j 0) undef) T hm hB ?_ hw hT (fun i hi o ho => ⟨fun xs v => ?_, fun xs w hx hd K hK => ?_⟩) (fun o ho xs w hx hd K hK => hlast o ho xs w hx hd _ rfl (hot xs) (hev xs) K hK)
  · show a = { a with tmps := putAll a.tmps ds _ 0 }
    rw [putAll_same ds a.tmps _ hn hs (fun j d h => by simp [h])]
  · have h1 := List.all_eq_true.1 hdst i (List.mem_range.2 hi)
    rw [ho] at h1
    have h2 : o.dst = ds[i]? := by simpa using h1
    obtain ⟨d, hd⟩ : ∃ d, ds[i]? = some d := ⟨ds[i]'(by omega), by rw [List.getElem?_eq_getElem (by omega)]⟩
    rw [h2, hd]
    show ({ a with tmps := (putAll a.tmps ds xs 0).setIfInBounds d v } : Act) = { a with tmps := putAll a.tmps ds (upd xs i v) 0 }
    have := putAll_set ds a.tmps xs 0 i v hn hd hs
    rw [Nat.zero_add] at this
    rw [this]
  · exact hstep i hi o ho (frOf a ds xs) w hx (hot xs) (fun j d h hj => by rw [hev xs j d h]; exact hd j hj) K hK
/- the steps -/
theorem wanted_yes {o : Oper} {b : Act} {j d : Nat} (hg : o.guard = some (j, true)) (hd : (ops[j]?).bind (·.dst) = some d) (hv : b.eval (.tmp d) = .bool true) : Region.wanted o (yielded ops b.tmps) = true := by
  have h1 : b.tmps[d]? = some (.bool true) := by
    have h : b.tmps.getD d undef = .bool true := hv
    rw [Array.getD_eq_getD_getElem?] at h
    cases hc : b.tmps[d]? with
    | none => rw [hc] at h; cases h
    | some u => rw [hc] at h; simp at h; rw [h]
  unfold Region.wanted
  rw [hg]
  simp only
  unfold yielded
  rw [hd]
  simp [h1]
theorem wanted_all {o : Oper} {b : Act} (hg : o.guard = none) : Region.wanted o (yielded ops b.tmps) = true := by unfold Region.wanted; rw [hg]
theorem step_val {o : Oper} {b : Act} {w w' : World} {K : Act → World → Prop} {E : Prop} {v : Value} (hw : Region.wanted o (yielded ops b.tmps) = true) (h : (execOp b.eval o).run P w = .ok (.value v) w') (hK : K (b.put o.dst v) w') :
    if Region.wanted o (yielded ops b.tmps) = true then Oper.wp P o b w K Q else E := by
  rw [if_pos hw]
  unfold Oper.wp
  rw [h]
  exact hK
theorem step_valR {o : Oper} {b : Act} {w w' : World} {K : Act → World → Prop} {E : Prop} {v : Value} (hw : Region.wanted o (yielded ops b.tmps) = true) (h : ∀ ρ : Operand → Value, (∀ x, ρ x = b.eval x) → (∀ u, ρ (.const u) = u) → (execOp ρ o).run P w = .ok (.value v) w') (hK : K (b.put o.dst v) w') :
    if Region.wanted o (yielded ops b.tmps) = true then Oper.wp P o b w K Q else E := step_val hw (h b.eval (fun _ => rfl) (fun _ => rfl)) hK
theorem step_skipR {o : Oper} {b : Act} {w w' : World} {K : Act → World → Prop} {E : Prop} (hw : Region.wanted o (yielded ops b.tmps) = true) (h : ∀ ρ : Operand → Value, (∀ x, ρ x = b.eval x) → (∀ u, ρ (.const u) = u) → (execOp ρ o).run P w = .ok .skip w') (hK : K (b.put o.dst undef) w') :
    if Region.wanted o (yielded ops b.tmps) = true then Oper.wp P o b w K Q else E := by
  rw [if_pos hw]
  unfold Oper.wp
  rw [h b.eval (fun _ => rfl) (fun _ => rfl)]
  exact hK
theorem step_skip {o : Oper} {b : Act} {w w' : World} {K : Act → World → Prop} {E : Prop} (hw : Region.wanted o (yielded ops b.tmps) = true) (h : (execOp b.eval o).run P w = .ok .skip w') (hK : K (b.put o.dst undef) w') :
    if Region.wanted o (yielded ops b.tmps) = true then Oper.wp P o b w K Q else E := by
  rw [if_pos hw]
  unfold Oper.wp
  rw [h]
  exact hK
theorem step_callW {o : Oper} {b : Act} {w : World} {K : Act → World → Prop} {E : Prop} (hw : Region.wanted o (yielded ops b.tmps) = true)
    (f : FuncId) (xs : List Operand) (ts : Array TypeId) (hop : o.op = Op.call { callee := Callee.value (Operand.func f), args := xs.toArray, argTypes := ts })
    (fn : Func) (hf : P.funcs[f]? = some fn) (hb : fn.body.isSome = true) (hn : fn.name ≠ "runtime.NumGoroutine") (args : List Value) (hargs : xs.map b.eval = args) {R : Ending → World → Prop} (hc : Calls P f args.toArray w R)
    (hK : ∀ e w', R e w' → ∃ v, e = .returned v ∧ K (b.put o.dst v) w') : if Region.wanted o (yielded ops b.tmps) = true then Oper.wp P o b w K Q else E := by
  rw [if_pos hw]
  subst hargs
  obtain ⟨c, hb⟩ := Option.isSome_iff_exists.1 hb
  unfold Oper.wp
  simp [execOp, hop, resolve, invoke, Act.eval, callFunc, go_sem, hf, hb, hn]
  refine hc.mono ?_
  intro e w' h
  obtain ⟨v, rfl, hk⟩ := hK e w' h
  exact hk
theorem eval_const (b : Act) (v : Value) : b.eval (.const v) = v := rfl
theorem eval_func (b : Act) (g : FuncId) : b.eval (.func g) = .func (.func g) #[] #[] := rfl
end
end Go.Proofs.YtkigmpholnfkbaaGreat
namespace Go.Proofs.YtkigmpholnfkbaaGreat
open Go.RowKit
def RetSd (w : World) (nm : ByteArray) (a b : Spot) (e : Ending) (w' : World) : Prop := ∃ g, e = .returned (.agg #[.string nm, .slice (some ⟨g, 0, none⟩) 2 2]) ∧ Blk 62 w' g (scells [a, b]) ∧ Ext w w'
set_option maxRecDepth 100000 in
theorem side_any (nm : ByteArray) (a b : Spot) (w : World) : Calls Tryz.prog 58 #[.string nm, SV a, SV b] w (RetSd w nm a b) := by
  obtain ⟨ax, ay⟩ := a; obtain ⟨bx, b_y⟩ := b
  go_enter Tryz.func58, Tryz.ntmps58
  go_wp2_with fail
  refine bodyPost_ret (v := .agg #[.string nm, .slice (some ⟨w.heap.size + 1 + 1 + 1, 0, none⟩) 2 2]) (by simp [results, Tryz.results58, go_sem]) rfl ?_
  refine ⟨_, rfl, ?_, ?_⟩
  · exact Blk.new' (by simp)
  · exact ((((Ext.refl w).alloc _).alloc _).alloc _).alloc _
def shT (W0 : World) : Nat → Value → World → Prop
  | 0, v, _ => v = SV (0, 0)
  | 1, v, _ => v = SV (10, 0)
  | 2, v, w => ∃ g, v = .agg #[.string lowN, .slice (some ⟨g, 0, none⟩) 2 2] ∧ Blk 62 w g (scells [(0, 0), (10, 0)])
  | 3, v, _ => v = SV (10, 0)
  | 4, v, _ => v = SV (10, 10)
  | 5, v, w => ∃ g, v = .agg #[.string rightN, .slice (some ⟨g, 0, none⟩) 2 2] ∧ Blk 62 w g (scells [(10, 0), (10, 10)])
  | 6, v, _ => v = SV (10, 10)
  | 7, v, _ => v = SV (0, 10)
  | 8, v, w => ∃ g, v = .agg #[.string highN, .slice (some ⟨g, 0, none⟩) 2 2] ∧ Blk 62 w g (scells [(10, 10), (0, 10)])
  | 9, v, _ => v = SV (0, 10)
  | 10, v, _ => v = SV (0, 0)
  | 11, v, w => ∃ g, v = .agg #[.string leftN, .slice (some ⟨g, 0, none⟩) 2 2] ∧ Blk 62 w g (scells [(0, 10), (0, 0)])
  | 12, v, w => ∃ gE g1 g2 g3 g4, v = .slice (some ⟨gE, 0, none⟩) 4 4 ∧ Blk 57 w gE [.string lowN, .slice (some ⟨g1, 0, none⟩) 2 2, .string rightN, .slice (some ⟨g2, 0, none⟩) 2 2, .string highN, .slice (some ⟨g3, 0, none⟩) 2 2, .string leftN, .slice (some ⟨g4, 0, none⟩) 2 2] ∧
      Blk 62 w g1 (scells [(0, 0), (10, 0)]) ∧ Blk 62 w g2 (scells [(10, 0), (10, 10)]) ∧ Blk 62 w g3 (scells [(10, 10), (0, 10)]) ∧ Blk 62 w g4 (scells [(0, 10), (0, 0)])
  | 13, v, _ => v = SV (0, 0)
  | 14, v, _ => v = SV (2, 0)
  | 15, v, _ => v = SV (2, 0)
  | 16, v, _ => v = SV (0, 0)
  | 17, v, w => ∃ g, v = .slice (some ⟨g, 0, none⟩) 4 4 ∧ Blk 62 w g (scells shC)
  | 18, v, w => ∃ g, v = .slice (some ⟨g, 0, none⟩) 4 4 ∧ Blk 3 w g (icells shI)
  | 19, v, w => ∃ gE g1 g2 g3 g4 gC gI, v = PcA.val (shA gE gC gI) ∧ ShB w gE g1 g2 g3 g4 gC gI
  | 20, v, w => ∃ g, v = .pointer (some ⟨g, 0, none⟩) ∧ W0.heap.size ≤ g ∧ Blk 52 w g [.string ⟨#[]⟩, .slice none 0 0, .int .i64 0, .slice none 0 0, .slice none 0 0, .slice none 0 0, .bool false]
  | _, _, _ => True
theorem shT_ext (W0 : World) (i : Nat) (v : Value) (w w' : World) (hi : i < 21) (he : Ext w w') (h : shT W0 i v w) : shT W0 i v w' := by
  match i, hi with
  | 0, _ => exact h
  | 1, _ => exact h
  | 2, _ => obtain ⟨g, h1, h2⟩ := h; exact ⟨g, h1, h2.ext he⟩
  | 3, _ => exact h
  | 4, _ => exact h
  | 5, _ => obtain ⟨g, h1, h2⟩ := h; exact ⟨g, h1, h2.ext he⟩
  | 6, _ => exact h
  | 7, _ => exact h
  | 8, _ => obtain ⟨g, h1, h2⟩ := h; exact ⟨g, h1, h2.ext he⟩
  | 9, _ => exact h
  | 10, _ => exact h
  | 11, _ => obtain ⟨g, h1, h2⟩ := h; exact ⟨g, h1, h2.ext he⟩
  | 12, _ => obtain ⟨gE, g1, g2, g3, g4, h1, h2, h3, h4, h5, h6⟩ := h; exact ⟨gE, g1, g2, g3, g4, h1, h2.ext he, h3.ext he, h4.ext he, h5.ext he, h6.ext he⟩
  | 13, _ => exact h
  | 14, _ => exact h
  | 15, _ => exact h
  | 16, _ => exact h
  | 17, _ => obtain ⟨g, h1, h2⟩ := h; exact ⟨g, h1, h2.ext he⟩
  | 18, _ => obtain ⟨g, h1, h2⟩ := h; exact ⟨g, h1, h2.ext he⟩
  | 19, _ => obtain ⟨gE, g1, g2, g3, g4, gC, gI, h1, h2⟩ := h; exact ⟨gE, g1, g2, g3, g4, gC, gI, h1, h2.ext he⟩
  | 20, _ => obtain ⟨g, h1, h2, h3⟩ := h; exact ⟨g, h1, h2, h3.ext he⟩
  | n + 21, hn => exact absurd hn (by omega)
def RetSh (w : World) (e : Ending) (w' : World) : Prop := ∃ a, e = .returned (StyA.val a) ∧ StyXAt w' a shX ∧ Ext w w'
set_option maxRecDepth 100000 in
set_option maxHeartbeats 6400000 in
theorem shirt_any (w : World) : Calls Tryz.prog 31 #[] w (RetSh w) := by
  go_enter Tryz.func31, Tryz.ntmps31
  go_upto_region 2 with fail
  refine wp_at fun W0 hW0 => ?_
  have hx0 : Ext w W0 := by rw [hW0]; exact (((((Ext.refl w).alloc _).alloc _).alloc _).alloc _).alloc _
  have hR0 : Blk 29 W0 w.heap.size [.string ⟨#[]⟩, .slice none 0 0, .slice none 0 0, .slice none 0 0, .slice none 0 0, .slice none 0 0, .slice none 0 0] := by rw [hW0]; exact ((((Blk.new' rfl).ext ((Ext.refl _).alloc _)).ext ((Ext.refl _).alloc _)).ext ((Ext.refl _).alloc _)).ext ((Ext.refl _).alloc _)
  have hT1 : Blk 62 W0 (w.heap.size + 1) (scells [(0, 0)]) := by rw [hW0]; exact (((Blk.new' (by simp)).ext ((Ext.refl _).alloc _)).ext ((Ext.refl _).alloc _)).ext ((Ext.refl _).alloc _)
  have hT2 : Blk 62 W0 (w.heap.size + 1 + 1) (scells [(10, 0)]) := by rw [hW0]; exact ((Blk.new' (by simp)).ext ((Ext.refl _).alloc _)).ext ((Ext.refl _).alloc _)
  have hT3 : Blk 62 W0 (w.heap.size + 1 + 1 + 1) (scells [(10, 10)]) := by rw [hW0]; exact (Blk.new' (by simp)).ext ((Ext.refl _).alloc _)
  have hT4 : Blk 62 W0 (w.heap.size + 1 + 1 + 1 + 1) (scells [(0, 10)]) := by rw [hW0]; exact Blk.new' (by simp)
  obtain ⟨T1, h1⟩ : ∃ T1, T1 = w.heap.size + 1 := ⟨_, rfl⟩
  obtain ⟨T2, h2⟩ : ∃ T2, T2 = w.heap.size + 1 + 1 := ⟨_, rfl⟩
  obtain ⟨T3, h3⟩ : ∃ T3, T3 = w.heap.size + 1 + 1 + 1 := ⟨_, rfl⟩
  obtain ⟨T4, h4⟩ : ∃ T4, T4 = w.heap.size + 1 + 1 + 1 + 1 := ⟨_, rfl⟩
  rw [← h4] at hT4 ⊢
  rw [← h3] at hT3 ⊢
  rw [← h2] at hT2 ⊢
  rw [← h1] at hT1 ⊢
  have HX0 := Lib.hid hx0; have HR0 := Lib.hid hR0; have HT1 := Lib.hid hT1; have HT2 := Lib.hid hT2; have HT3 := Lib.hid hT3; have HT4 := Lib.hid hT4
  clear hW0 hx0 hR0 hT1 hT2 hT3 hT4 h1 h2 h3 h4
  refine region_slots' (l := 21) (N := 35) (W0 := W0) [10, 11, 12, 13, 14, 15, 16, 17, 18, 19, 20, 21, 22, 23, 24, 25, 26, 27, 28, 29, 5] (shT W0) (by kernel_rfl) (by kernel_rfl) (by kernel_rfl) (by kernel_rfl) (Ext.refl _) (shT_ext _) (fun i hi => ?_) ?_
  · match i, hi with
    -- steps begin
    | 0, _ =>
      intro o ho b w hx hb hd K hK
      simp only [List.getElem?_toArray, List.getElem?_cons_zero, List.getElem?_cons_succ, Option.some.injEq] at ho
      subst ho
      have e1 : b.eval (.tmp 1) = .pointer (some ⟨T1, 0, none⟩) := hb 1 (by kernel_rfl)
      have c0 : w.cell? ⟨T1, 0, none⟩ = some (.int .i64 ((0, 0) : Spot).1) := (HT1.out.ext hx).cell 0
      have c1 : w.cell? ⟨T1, 1, none⟩ = some (.int .i64 ((0, 0) : Spot).2) := (HT1.out.ext hx).cell 1
      refine step_valR (wanted_all rfl) (v := SV (0, 0)) (w' := w) (fun ρ hρ hc => ?_) (hK _ _ (Ext.refl _) rfl)
      have r1 := (hρ (.tmp 1)).trans e1
      simp [execOp, r1, go_sem, c0, c1]
    | 1, _ =>
      intro o ho b w hx hb hd K hK
      simp only [List.getElem?_toArray, List.getElem?_cons_zero, List.getElem?_cons_succ, Option.some.injEq] at ho
      subst ho
      have e1 : b.eval (.tmp 2) = .pointer (some ⟨T2, 0, none⟩) := hb 2 (by kernel_rfl)
      have c0 : w.cell? ⟨T2, 0, none⟩ = some (.int .i64 ((10, 0) : Spot).1) := (HT2.out.ext hx).cell 0
      have c1 : w.cell? ⟨T2, 1, none⟩ = some (.int .i64 ((10, 0) : Spot).2) := (HT2.out.ext hx).cell 1
      refine step_valR (wanted_all rfl) (v := SV (10, 0)) (w' := w) (fun ρ hρ hc => ?_) (hK _ _ (Ext.refl _) rfl)
      have r1 := (hρ (.tmp 2)).trans e1
      simp [execOp, r1, go_sem, c0, c1]
    | 2, _ =>
      intro o ho b w hx hb hd K hK
      simp only [List.getElem?_toArray, List.getElem?_cons_zero, List.getElem?_cons_succ, Option.some.injEq] at ho
      subst ho
      have x0 : b.eval (.tmp 10) = SV (0, 0) := hd 0 10 rfl (by kernel_rfl)
      have x1 : b.eval (.tmp 11) = SV (10, 0) := hd 1 11 rfl (by kernel_rfl)
      refine step_callW (wanted_all rfl) 58 [.const (.string lowN), .tmp 10, .tmp 11] #[9, 62, 62] rfl _ Tryz.func58 rfl (by decide +kernel) [.string lowN, SV (0, 0), SV (10, 0)] (by simp [eval_const, x0, x1]) (side_any lowN (0, 0) (10, 0) w) (fun e w' h => ?_)
      obtain ⟨g, rfl, hB, hx'⟩ := h
      exact ⟨_, rfl, hK _ _ hx' ⟨g, rfl, hB⟩⟩
    | 3, _ =>
      intro o ho b w hx hb hd K hK
      simp only [List.getElem?_toArray, List.getElem?_cons_zero, List.getElem?_cons_succ, Option.some.injEq] at ho
      subst ho
      have e1 : b.eval (.tmp 2) = .pointer (some ⟨T2, 0, none⟩) := hb 2 (by kernel_rfl)
      have c0 : w.cell? ⟨T2, 0, none⟩ = some (.int .i64 ((10, 0) : Spot).1) := (HT2.out.ext hx).cell 0
      have c1 : w.cell? ⟨T2, 1, none⟩ = some (.int .i64 ((10, 0) : Spot).2) := (HT2.out.ext hx).cell 1
      refine step_valR (wanted_all rfl) (v := SV (10, 0)) (w' := w) (fun ρ hρ hc => ?_) (hK _ _ (Ext.refl _) rfl)
      have r1 := (hρ (.tmp 2)).trans e1
      simp [execOp, r1, go_sem, c0, c1]
    | 4, _ =>
      intro o ho b w hx hb hd K hK
      simp only [List.getElem?_toArray, List.getElem?_cons_zero, List.getElem?_cons_succ, Option.some.injEq] at ho
      subst ho
      have e1 : b.eval (.tmp 3) = .pointer (some ⟨T3, 0, none⟩) := hb 3 (by kernel_rfl)
      have c0 : w.cell? ⟨T3, 0, none⟩ = some (.int .i64 ((10, 10) : Spot).1) := (HT3.out.ext hx).cell 0
      have c1 : w.cell? ⟨T3, 1, none⟩ = some (.int .i64 ((10, 10) : Spot).2) := (HT3.out.ext hx).cell 1
      refine step_valR (wanted_all rfl) (v := SV (10, 10)) (w' := w) (fun ρ hρ hc => ?_) (hK _ _ (Ext.refl _) rfl)
      have r1 := (hρ (.tmp 3)).trans e1
      simp [execOp, r1, go_sem, c0, c1]
    | 5, _ =>
      intro o ho b w hx hb hd K hK
      simp only [List.getElem?_toArray, List.getElem?_cons_zero, List.getElem?_cons_succ, Option.some.injEq] at ho
      subst ho
      have x0 : b.eval (.tmp 13) = SV (10, 0) := hd 3 13 rfl (by kernel_rfl)
      have x1 : b.eval (.tmp 14) = SV (10, 10) := hd 4 14 rfl (by kernel_rfl)
      refine step_callW (wanted_all rfl) 58 [.const (.string rightN), .tmp 13, .tmp 14] #[9, 62, 62] rfl _ Tryz.func58 rfl (by decide +kernel) [.string rightN, SV (10, 0), SV (10, 10)] (by simp [eval_const, x0, x1]) (side_any rightN (10, 0) (10, 10) w) (fun e w' h => ?_)
      obtain ⟨g, rfl, hB, hx'⟩ := h
      exact ⟨_, rfl, hK _ _ hx' ⟨g, rfl, hB⟩⟩
    | 6, _ =>
      intro o ho b w hx hb hd K hK
      simp only [List.getElem?_toArray, List.getElem?_cons_zero, List.getElem?_cons_succ, Option.some.injEq] at ho
      subst ho
      have e1 : b.eval (.tmp 3) = .pointer (some ⟨T3, 0, none⟩) := hb 3 (by kernel_rfl)
      have c0 : w.cell? ⟨T3, 0, none⟩ = some (.int .i64 ((10, 10) : Spot).1) := (HT3.out.ext hx).cell 0
      have c1 : w.cell? ⟨T3, 1, none⟩ = some (.int .i64 ((10, 10) : Spot).2) := (HT3.out.ext hx).cell 1
      refine step_valR (wanted_all rfl) (v := SV (10, 10)) (w' := w) (fun ρ hρ hc => ?_) (hK _ _ (Ext.refl _) rfl)
      have r1 := (hρ (.tmp 3)).trans e1
      simp [execOp, r1, go_sem, c0, c1]
    | 7, _ =>
      intro o ho b w hx hb hd K hK
      simp only [List.getElem?_toArray, List.getElem?_cons_zero, List.getElem?_cons_succ, Option.some.injEq] at ho
      subst ho
      have e1 : b.eval (.tmp 4) = .pointer (some ⟨T4, 0, none⟩) := hb 4 (by kernel_rfl)
      have c0 : w.cell? ⟨T4, 0, none⟩ = some (.int .i64 ((0, 10) : Spot).1) := (HT4.out.ext hx).cell 0
      have c1 : w.cell? ⟨T4, 1, none⟩ = some (.int .i64 ((0, 10) : Spot).2) := (HT4.out.ext hx).cell 1
      refine step_valR (wanted_all rfl) (v := SV (0, 10)) (w' := w) (fun ρ hρ hc => ?_) (hK _ _ (Ext.refl _) rfl)
      have r1 := (hρ (.tmp 4)).trans e1
      simp [execOp, r1, go_sem, c0, c1]
    | 8, _ =>
      intro o ho b w hx hb hd K hK
      simp only [List.getElem?_toArray, List.getElem?_cons_zero, List.getElem?_cons_succ, Option.some.injEq] at ho
      subst ho
      have x0 : b.eval (.tmp 16) = SV (10, 10) := hd 6 16 rfl (by kernel_rfl)
      have x1 : b.eval (.tmp 17) = SV (0, 10) := hd 7 17 rfl (by kernel_rfl)
      refine step_callW (wanted_all rfl) 58 [.const (.string highN), .tmp 16, .tmp 17] #[9, 62, 62] rfl _ Tryz.func58 rfl (by decide +kernel) [.string highN, SV (10, 10), SV (0, 10)] (by simp [eval_const, x0, x1]) (side_any highN (10, 10) (0, 10) w) (fun e w' h => ?_)
      obtain ⟨g, rfl, hB, hx'⟩ := h
      exact ⟨_, rfl, hK _ _ hx' ⟨g, rfl, hB⟩⟩
    | 9, _ =>
      intro o ho b w hx hb hd K hK
      simp only [List.getElem?_toArray, List.getElem?_cons_zero, List.getElem?_cons_succ, Option.some.injEq] at ho
      subst ho
      have e1 : b.eval (.tmp 4) = .pointer (some ⟨T4, 0, none⟩) := hb 4 (by kernel_rfl)
      have c0 : w.cell? ⟨T4, 0, none⟩ = some (.int .i64 ((0, 10) : Spot).1) := (HT4.out.ext hx).cell 0
      have c1 : w.cell? ⟨T4, 1, none⟩ = some (.int .i64 ((0, 10) : Spot).2) := (HT4.out.ext hx).cell 1
      refine step_valR (wanted_all rfl) (v := SV (0, 10)) (w' := w) (fun ρ hρ hc => ?_) (hK _ _ (Ext.refl _) rfl)
      have r1 := (hρ (.tmp 4)).trans e1
      simp [execOp, r1, go_sem, c0, c1]
    | 10, _ =>
      intro o ho b w hx hb hd K hK
      simp only [List.getElem?_toArray, List.getElem?_cons_zero, List.getElem?_cons_succ, Option.some.injEq] at ho
      subst ho
      have e1 : b.eval (.tmp 1) = .pointer (some ⟨T1, 0, none⟩) := hb 1 (by kernel_rfl)
      have c0 : w.cell? ⟨T1, 0, none⟩ = some (.int .i64 ((0, 0) : Spot).1) := (HT1.out.ext hx).cell 0
      have c1 : w.cell? ⟨T1, 1, none⟩ = some (.int .i64 ((0, 0) : Spot).2) := (HT1.out.ext hx).cell 1
      refine step_valR (wanted_all rfl) (v := SV (0, 0)) (w' := w) (fun ρ hρ hc => ?_) (hK _ _ (Ext.refl _) rfl)
      have r1 := (hρ (.tmp 1)).trans e1
      simp [execOp, r1, go_sem, c0, c1]
    | 11, _ =>
      intro o ho b w hx hb hd K hK
      simp only [List.getElem?_toArray, List.getElem?_cons_zero, List.getElem?_cons_succ, Option.some.injEq] at ho
      subst ho
      have x0 : b.eval (.tmp 19) = SV (0, 10) := hd 9 19 rfl (by kernel_rfl)
      have x1 : b.eval (.tmp 20) = SV (0, 0) := hd 10 20 rfl (by kernel_rfl)
      refine step_callW (wanted_all rfl) 58 [.const (.string leftN), .tmp 19, .tmp 20] #[9, 62, 62] rfl _ Tryz.func58 rfl (by decide +kernel) [.string leftN, SV (0, 10), SV (0, 0)] (by simp [eval_const, x0, x1]) (side_any leftN (0, 10) (0, 0) w) (fun e w' h => ?_)
      obtain ⟨g, rfl, hB, hx'⟩ := h
      exact ⟨_, rfl, hK _ _ hx' ⟨g, rfl, hB⟩⟩
    | 12, _ =>
      intro o ho b w hx hb hd K hK
      simp only [List.getElem?_toArray, List.getElem?_cons_zero, List.getElem?_cons_succ, Option.some.injEq] at ho
      subst ho
      obtain ⟨g1, x1, hB1⟩ := hd 2 12 rfl (by kernel_rfl)
      obtain ⟨g2, x2, hB2⟩ := hd 5 15 rfl (by kernel_rfl)
      obtain ⟨g3, x3, hB3⟩ := hd 8 18 rfl (by kernel_rfl)
      obtain ⟨g4, x4, hB4⟩ := hd 11 21 rfl (by kernel_rfl)
      have hx' : Ext w (w.alloc (.cells #[.string lowN, .slice (some ⟨g1, 0, none⟩) 2 2, .string rightN, .slice (some ⟨g2, 0, none⟩) 2 2, .string highN, .slice (some ⟨g3, 0, none⟩) 2 2, .string leftN, .slice (some ⟨g4, 0, none⟩) 2 2] 57)) := (Ext.refl _).alloc _
      refine step_valR (wanted_all rfl) (v := .slice (some ⟨w.heap.size, 0, none⟩) 4 4) (w' := w.alloc (.cells #[.string lowN, .slice (some ⟨g1, 0, none⟩) 2 2, .string rightN, .slice (some ⟨g2, 0, none⟩) 2 2, .string highN, .slice (some ⟨g3, 0, none⟩) 2 2, .string leftN, .slice (some ⟨g4, 0, none⟩) 2 2] 57)) (fun ρ hρ hc => ?_) (hK _ _ hx' ⟨w.heap.size, g1, g2, g3, g4, rfl, Blk.new' rfl, hB1.ext hx', hB2.ext hx', hB3.ext hx', hB4.ext hx'⟩)
      have r1 := (hρ (.tmp 12)).trans x1; have r2 := (hρ (.tmp 15)).trans x2; have r3 := (hρ (.tmp 18)).trans x3; have r4 := (hρ (.tmp 21)).trans x4
      simp [execOp, r1, r2, r3, r4, go_sem]
    | 13, _ =>
      intro o ho b w hx hb hd K hK
      simp only [List.getElem?_toArray, List.getElem?_cons_zero, List.getElem?_cons_succ, Option.some.injEq] at ho
      subst ho
      refine step_valR (wanted_all rfl) (v := SV (0, 0)) (w' := w) (fun ρ hρ hc => ?_) (hK _ _ (Ext.refl _) rfl)
      simp [execOp, go_sem, hc]
    | 14, _ =>
      intro o ho b w hx hb hd K hK
      simp only [List.getElem?_toArray, List.getElem?_cons_zero, List.getElem?_cons_succ, Option.some.injEq] at ho
      subst ho
      refine step_valR (wanted_all rfl) (v := SV (2, 0)) (w' := w) (fun ρ hρ hc => ?_) (hK _ _ (Ext.refl _) rfl)
      simp [execOp, go_sem, hc]
    | 15, _ =>
      intro o ho b w hx hb hd K hK
      simp only [List.getElem?_toArray, List.getElem?_cons_zero, List.getElem?_cons_succ, Option.some.injEq] at ho
      subst ho
      refine step_valR (wanted_all rfl) (v := SV (2, 0)) (w' := w) (fun ρ hρ hc => ?_) (hK _ _ (Ext.refl _) rfl)
      simp [execOp, go_sem, hc]
    | 16, _ =>
      intro o ho b w hx hb hd K hK
      simp only [List.getElem?_toArray, List.getElem?_cons_zero, List.getElem?_cons_succ, Option.some.injEq] at ho
      subst ho
      refine step_valR (wanted_all rfl) (v := SV (0, 0)) (w' := w) (fun ρ hρ hc => ?_) (hK _ _ (Ext.refl _) rfl)
      simp [execOp, go_sem, hc]
    | 17, _ =>
      intro o ho b w hx hb hd K hK
      simp only [List.getElem?_toArray, List.getElem?_cons_zero, List.getElem?_cons_succ, Option.some.injEq] at ho
      subst ho
      have x0 : b.eval (.tmp 23) = SV (0, 0) := hd 13 23 rfl (by kernel_rfl)
      have x1 : b.eval (.tmp 24) = SV (2, 0) := hd 14 24 rfl (by kernel_rfl)
      have x2 : b.eval (.tmp 25) = SV (2, 0) := hd 15 25 rfl (by kernel_rfl)
      have x3 : b.eval (.tmp 26) = SV (0, 0) := hd 16 26 rfl (by kernel_rfl)
      refine step_valR (wanted_all rfl) (v := .slice (some ⟨w.heap.size, 0, none⟩) 4 4) (w' := w.alloc (.cells (scells shC).toArray 62)) (fun ρ hρ hc => ?_) (hK _ _ ((Ext.refl _).alloc _) ⟨w.heap.size, rfl, Blk.new' rfl⟩)
      have r1 := (hρ (.tmp 23)).trans x0; have r2 := (hρ (.tmp 24)).trans x1; have r3 := (hρ (.tmp 25)).trans x2; have r4 := (hρ (.tmp 26)).trans x3
      simp [execOp, r1, r2, r3, r4, go_sem, shC, scells]
    | 18, _ =>
      intro o ho b w hx hb hd K hK
      simp only [List.getElem?_toArray, List.getElem?_cons_zero, List.getElem?_cons_succ, Option.some.injEq] at ho
      subst ho
      have hm : (Instr.makeSlice 23 (.int .i64 4) (.int .i64 4)).run Tryz.prog w = .ok (.slice (some ⟨w.heap.size, 0, none⟩) 4 4) (w.alloc (.cells (icells shI).toArray 3)) := make_ints 4 (by omega) w
      refine step_valR (wanted_all rfl) (v := .slice (some ⟨w.heap.size, 0, none⟩) 4 4) (w' := w.alloc (.cells (icells shI).toArray 3)) (fun ρ hρ hc => ?_) (hK _ _ ((Ext.refl _).alloc _) ⟨w.heap.size, rfl, Blk.new' rfl⟩)
      simp [execOp, hc, hm, go_sem]
    | 19, _ =>
      intro o ho b w hx hb hd K hK
      simp only [List.getElem?_toArray, List.getElem?_cons_zero, List.getElem?_cons_succ, Option.some.injEq] at ho
      subst ho
      obtain ⟨gE, g1, g2, g3, g4, x0, hE, h1, h2, h3, h4⟩ := hd 12 22 rfl (by kernel_rfl)
      obtain ⟨gC, x1, hC⟩ := hd 17 27 rfl (by kernel_rfl)
      obtain ⟨gI, x2, hI⟩ := hd 18 28 rfl (by kernel_rfl)
      refine step_valR (wanted_all rfl) (v := PcA.val (shA gE gC gI)) (w' := w) (fun ρ hρ hc => ?_) (hK _ _ (Ext.refl _) ⟨gE, g1, g2, g3, g4, gC, gI, rfl, ⟨hE, h1, h2, h3, h4, hC, hI⟩⟩)
      have r1 := (hρ (.tmp 22)).trans x0; have r2 := (hρ (.tmp 27)).trans x1; have r3 := (hρ (.tmp 28)).trans x2
      simp [execOp, hc, r1, r2, r3, go_sem, PcA.val, shA, frontN]
    | 20, _ =>
      intro o ho b w hx hb hd K hK
      simp only [List.getElem?_toArray, List.getElem?_cons_zero, List.getElem?_cons_succ, Option.some.injEq] at ho
      subst ho
      refine step_valR (wanted_all rfl) (v := .pointer (some ⟨w.heap.size, 0, none⟩)) (w' := w.alloc (.cells #[.string ⟨#[]⟩, .slice none 0 0, .int .i64 0, .slice none 0 0, .slice none 0 0, .slice none 0 0, .bool false] 52)) (fun ρ hρ hc => ?_) (hK _ _ ((Ext.refl _).alloc _) ⟨w.heap.size, rfl, hx.size, Blk.new' rfl⟩)
      simp [execOp, go_sem]
    -- steps end
    | n + 21, hn => exact absurd hn (by omega)
  · intro o ho xs w1 hx hT b hb1 hb hbd K hK
    simp only [List.getElem?_toArray, List.getElem?_cons_zero, List.getElem?_cons_succ, Option.some.injEq] at ho
    subst ho
    obtain ⟨gE, g1, g2, g3, g4, gC, gI, x29, hSh⟩ := hT 19 (by decide)
    obtain ⟨g5, x5, hg5, hB5⟩ := hT 20 (by decide)
    have e29 := (hbd 19 29 rfl).trans x29
    have e5 := (hbd 20 5 rfl).trans x5
    have hSt : ∃ w2, w2 = ((((((w1.setCell ⟨g5, 0, none⟩ (.string frontN)).setCell ⟨g5, 1, none⟩ (.slice (some ⟨gE, 0, none⟩) 4 4)).setCell ⟨g5, 2, none⟩ (.int .i64 1)).setCell ⟨g5, 3, none⟩ (.slice none 0 0)).setCell ⟨g5, 4, none⟩ (.slice (some ⟨gC, 0, none⟩) 4 4)).setCell ⟨g5, 5, none⟩ (.slice (some ⟨gI, 0, none⟩) 4 4)).setCell ⟨g5, 6, none⟩ (.bool false) := ⟨_, rfl⟩
    obtain ⟨w2, hw2⟩ := hSt
    have hB6 : Blk 52 w2 g5 (shA gE gC gI).cells := by
      rw [hw2]
      exact ((((((hB5.set 0 _).set 1 _).set 2 _).set 3 _).set 4 _).set 5 _).set 6 _
    have hk2 : Kept (fun k => k = g5) w1 w2 := by
      rw [hw2]
      exact kset (kset (kset (kset (kset (kset (kset (Kept.refl _ _) _ _) _ _) _ _) _ _) _ _) _ _) _ _
    have HSh := Lib.hid (hSh.kept 52 hk2 (by decide) (by decide) (by decide) (fun g e => by subst e; exact ⟨_, hB5⟩))
    have HX2 := Lib.hid (HX0.out.trans (hk2.ext hx (fun k e => by subst e; exact hg5)))
    have HR2 : Hid (Blk 29 w2 w.heap.size [.string ⟨#[]⟩, .slice none 0 0, .slice none 0 0, .slice none 0 0, .slice none 0 0, .slice none 0 0, .slice none 0 0]) := hk2.blk (HR0.out.ext hx) (by have := HR0.out.lt; omega)
    have HB6 := Lib.hid hB6
    have hc0 := hB5.cell 0; have hc1 := hB5.cell 1; have hc2 := hB5.cell 2; have hc3 := hB5.cell 3; have hc4 := hB5.cell 4; have hc5 := hB5.cell 5; have hc6 := hB5.cell 6
    have hf0 := hB5.frozen 0; have hf1 := hB5.frozen 1; have hf2 := hB5.frozen 2; have hf3 := hB5.frozen 3; have hf4 := hB5.frozen 4; have hf5 := hB5.frozen 5; have hf6 := hB5.frozen 6
    simp only [List.getElem?_cons_succ, List.getElem?_cons_zero] at hc0 hc1 hc2 hc3 hc4 hc5 hc6
    refine step_skipR (wanted_all rfl) (w' := w2) (fun ρ hρ hc => ?_) ?_
    · have r1 := (hρ (.tmp 5)).trans e5; have r2 := (hρ (.tmp 29)).trans e29
      rw [hw2]
      simp [execOp, r1, r2, go_sem, PcA.val, shA, hc0, hc1, hc2, hc3, hc4, hc5, hc6, hf0, hf1, hf2, hf3, hf4, hf5, hf6]
    refine hK _ _ ?_
    subst hb1
    clear hK K hb hbd e29 e5 hw2 hB6 hk2 hc0 hc1 hc2 hc3 hc4 hc5 hc6 hf0 hf1 hf2 hf3 hf4 hf5 hf6 hSh hB5
    have q19 : xs 19 = PcA.val (shA gE gC gI) := x29
    have q20 : xs 20 = .pointer (some ⟨g5, 0, none⟩) := x5
    clear x29 x5 hT hx hg5
    simp only [Act.put, frOf, putAll, List.setIfInBounds_toArray, List.set_cons_succ, List.set_cons_zero, q19, q20]
    obtain ⟨a0, a1, a2, a3, a4, a5, a6⟩ := blk7 HB6.out
    obtain ⟨s0, s1, s2, s3, s4, s5, s6⟩ := blk7 HR2.out
    have f0 := HR2.out.frozen 0; have f1 := HR2.out.frozen 1; have f2 := HR2.out.frozen 2; have f3 := HR2.out.frozen 3; have f4 := HR2.out.frozen 4; have f5 := HR2.out.frozen 5; have f6 := HR2.out.frozen 6
    have hl := HR2.out.lt
    have hl5 := HB6.out.lt
    have hl1 : w.heap.size < w2.heap.size + 1 := by omega
    have hl2 : w.heap.size < w2.heap.size + 1 + 1 := by omega
    have hm1 : g5 < w2.heap.size + 1 := by omega
    have hn0 : ¬ w.heap.size = w2.heap.size := by omega
    have hn1 : ¬ w.heap.size = w2.heap.size + 1 := by omega
    have hn2 : ¬ w.heap.size = w2.heap.size + 1 + 1 := by omega
    simp only [shA] at a0 a1 a2 a3 a4 a5 a6
    clear q19 q20
    generalize xs (0 + 1 + 1 + 1 + 1 + 1 + 1 + 1 + 1 + 1 + 1 + 1 + 1 + 1 + 1 + 1 + 1 + 1 + 1) = y18
    go_wp2_with fail
    obtain ⟨w5, hw5⟩ : ∃ w5, w5 = ((((((w2.setCell ⟨w.heap.size, 0, none⟩ (.string ⟨#[115, 104, 105, 114, 116]⟩)).setCell ⟨w.heap.size, 1, none⟩ (.slice (some ⟨w2.heap.size, 0, none⟩) 2 2)).setCell ⟨w.heap.size, 2, none⟩ (.slice (some ⟨w2.heap.size + 1, 0, none⟩) 2 2)).setCell ⟨w.heap.size, 3, none⟩ (.slice (some ⟨w2.heap.size + 1 + 1, 0, none⟩) 1 1)).setCell ⟨w.heap.size, 4, none⟩ (.slice none 0 0)).setCell ⟨w.heap.size, 5, none⟩ (.slice none 0 0)).setCell ⟨w.heap.size, 6, none⟩ (.slice none 0 0) := ⟨_, rfl⟩
    rw [← hw5]
    have hB5 : Blk 29 w5 w.heap.size [.string ⟨#[115, 104, 105, 114, 116]⟩, .slice (some ⟨w2.heap.size, 0, none⟩) 2 2, .slice (some ⟨w2.heap.size + 1, 0, none⟩) 2 2, .slice (some ⟨w2.heap.size + 1 + 1, 0, none⟩) 1 1, .slice none 0 0, .slice none 0 0, .slice none 0 0] := by
      rw [hw5]; exact ((((((HR2.out.set 0 _).set 1 _).set 2 _).set 3 _).set 4 _).set 5 _).set 6 _
    have hk5 : Kept (fun k => k = w.heap.size) w2 w5 := by
      rw [hw5]; exact kset (kset (kset (kset (kset (kset (kset (Kept.refl _ _) _ _) _ _) _ _) _ _) _ _) _ _) _ _
    have hsz : w5.heap.size = w2.heap.size := by rw [hw5]; simp [World.setCell]
    have hSh5 := HSh.out.kept 29 hk5 (by decide) (by decide) (by decide) (fun g e => by subst e; exact ⟨_, HR2.out⟩)
    have hX5 : Ext w w5 := hk5.ext HX2.out (fun k e => by omega)
    clear hw5 s0 s1 s2 s3 s4 s5 s6 a0 a1 a2 a3 a4 a5 a6 f0 f1 f2 f3 f4 f5 f6
    obtain ⟨s0, s1, s2, s3, s4, s5, s6⟩ := blk7 hB5
    rw [← hsz] at s1 s2 s3 hl hl1 hl2 hn0 hn1 hn2 ⊢
    clear hB5 hk5 hsz hl5 hm1
    refine bodyPost_ret (v := StyA.val ⟨shirtN, some ⟨w5.heap.size, 0, none⟩, 2, 2, some ⟨w5.heap.size + 1, 0, none⟩, 2, 2, some ⟨w5.heap.size + 1 + 1, 0, none⟩, 1, 1, none, 0, 0, none, 0, 0, none, 0, 0⟩) (by simp [results, Tryz.results31, go_sem, s0, s1, s2, s3, s4, s5, s6, hl, hl1, hl2, hn0, hn1, hn2, StyA.val, shirtN]) rfl ?_
    refine ⟨_, rfl, ?_, ((hX5.alloc _).alloc _).alloc _⟩
    exact sh_sty (((hSh5.ext ((Ext.refl _).alloc _)).ext ((Ext.refl _).alloc _)).ext ((Ext.refl _).alloc _)) (((Blk.new' rfl).ext ((Ext.refl _).alloc _)).ext ((Ext.refl _).alloc _)) ((Blk.new' (by simp)).ext ((Ext.refl _).alloc _)) (Blk.new' (by simp))
end Go.Proofs.YtkigmpholnfkbaaGreat
