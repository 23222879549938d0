/- As Slots, with a list of predicates for the slots, and the last operation left to the walk. Values as the calls of a program give them: a predicate that later worlds keep. No program in sight. -/
import Derived.OrdersHeld
import Derived.StillTail
import Derived.Deep.RegionLaw
import Derived.Test.YtfegbaokcbjllaaGreatKInPl
/- A region whose order is open: operations that only read may be taken first as long as one other operation (number ap, which waits for them) has not come up. No program in sight. -/
namespace Go.Proofs.YtfegbaokcbjllaaGreat
open Go.RowKit
section
variable {P : Program} {md : Region.Mode} {ops : Array Oper} {Q : Exit → Act → World → Prop} {C : World → Prop} {ap : Nat}
def Closed (md : Region.Mode) (ops : Array Oper) (listed : Array Bool) : Prop := ∀ (j : Nat) (oj : Oper), ops[j]? = some oj → listed.getD j false = true → ∀ e ∈ oj.after, Region.binds md e = true → listed.getD e.on false = true
theorem getD_set_self {listed : Array Bool} {i : Nat} (h : listed.getD i true = false) : (listed.setIfInBounds i true).getD i false = true := by
 have hs : i < listed.size := by
  rcases Nat.lt_or_ge i listed.size with h' | h'
  ·exact h'
  ·simp [Array.getElem?_eq_none h'] at h
 simp [hs]
theorem getD_set_other {listed : Array Bool} {i j : Nat} (d : Bool) (h : i ≠ j) : (listed.setIfInBounds i true).getD j d = listed.getD j d := by
 simp only [Array.getD_eq_getD_getElem?, Array.getElem?_setIfInBounds_ne h]
theorem getD_false_true {listed : Array Bool} {i : Nat} (h : listed.getD i false = true) : listed.getD i true = true := by
 rcases Nat.lt_or_ge i listed.size with h' | h'
 ·simp [h'] at h ⊢; exact h
 ·simp [Array.getElem?_eq_none h'] at h
theorem Closed.set {listed : Array Bool} {i : Nat} (h : Closed md ops listed) (hi : i ∈ Region.ready md ops listed) : Closed md ops (listed.setIfInBounds i true) := by
 obtain ⟨hun, oi, hoi, hall⟩ := mem_ready.1 hi
 intro j oj hoj hl e he hb
 by_cases hij : i = j
 ·subst hij
  have : oi = oj := Option.some.inj (hoi.symm.trans hoj)
  subst this
  have h1 := hall e he hb
  by_cases hie : i = e.on
  ·rw [← hie] at h1 ⊢; exact getD_set_self hun
  ·rw [getD_set_other false hie]; exact h1
 ·rw [getD_set_other false hij] at hl
  have h1 := h j oj hoj hl e he hb
  by_cases hie : i = e.on
  ·rw [← hie]; exact getD_set_self hun
  ·rw [getD_set_other false hie]; exact h1
/- a way from an operation to one that it waits for -/
def onB' (md : Region.Mode) (ops : Array Oper) (j k : Nat) : Bool := match ops[j]? with
 |some o => o.after.any fun e => Region.binds md e && e.on == k
 |none => false
theorem onB_spec {j k : Nat} (h : onB' md ops j k = true) : ∃ o, ops[j]? = some o ∧ ∃ e ∈ o.after, Region.binds md e = true ∧ e.on = k := by
 unfold onB' at h
 split at h
 ·rename_i o ho
  obtain ⟨e, he, h1⟩ := Array.any_eq_true'.1 h
  rw [Bool.and_eq_true] at h1
  exact ⟨o, ho, e, he, h1.1, by simpa using h1.2⟩
 ·cases h
end
/- the opening of an arm: the operation of a listed number -/
theorem so {Q : Oper → Prop} {L : List Oper} {i : Nat} {o' : Oper} (h : L[i]? = some o') (k : Q o') : ∀ o, L.toArray[i]? = some o → Q o := fun o ho => by
 have e : L[i]? = some o := by simpa using ho
 rw [h] at e
 cases e
 exact k
section
variable {P : Program} {ops : Array Oper} {Q : Exit → Act → World → Prop}
theorem set_count : ∀ (l : List Bool) (i : Nat), l[i]? = some false → (l.set i true).count false + 1 = l.count false
 |[], i, h => by simp at h
 |b :: l, 0, h => by
  obtain rfl : b = false := by simpa using h
  simp
 |b :: l, i + 1, h => by
  have := set_count l i (by simpa using h)
  simp only [List.set_cons_succ, List.count_cons]
  omega
theorem region_inv {id : Nat} {a : Act} {w : World} (hm : P.follows .mixedOrders = true) (I : Array Bool → Act → World → Prop)
  (h0 : I (Array.replicate ops.size false) a w.drew)
  (hs : ∀ listed a w i, i ∈ Region.ready .any ops listed → I listed a w → wpOp P ops Q i (I (listed.setIfInBounds i true)) a w)
  (he : ∀ listed a w, Region.ready .any ops listed = [] → I listed a w → Q .normal a w) : (Code.region id ops true).wp P Q a w := by
 refine wp_region_any hm ?_
 have key : ∀ (fuel : Nat) (listed : Array Bool) (a : Act) (w : World), listed.toList.count false = fuel → I listed a w → wpAny P .any ops Q fuel listed a w := by
  intro fuel
  induction fuel with
  |zero =>
   intro listed a w hc hI
   have hr : Region.ready .any ops listed = [] := by
    rw [List.eq_nil_iff_forall_not_mem]
    intro i hi
    have h1 := (mem_ready.1 hi).1
    have h2 : i < listed.size := by
     rcases Nat.lt_or_ge i listed.size with h' | h'
     ·exact h'
     ·simp [Array.getElem?_eq_none h'] at h1
    have h3 : listed.toList.count false ≠ 0 := by
     rw [Ne, List.count_eq_zero]
     intro hn
     apply hn
     have h4 : listed[i] = false := by simpa [h2] using h1
     rw [← h4]
     simp
    exact h3 hc
   exact ⟨hr, he _ _ _ hr hI⟩
  |succ fuel ih =>
   intro listed a w hc hI
   refine ⟨fun hr => he _ _ _ hr hI, fun i hi => ?_⟩
   have h1 := (mem_ready.1 hi).1
   have h2 : i < listed.size := by
    rcases Nat.lt_or_ge i listed.size with h' | h'
    ·exact h'
    ·simp [Array.getElem?_eq_none h'] at h1
   have h4 : listed[i] = false := by simpa [h2] using h1
   refine wpOp_mono (fun a' w' h' => ih _ a' w' ?_ h') (hs _ _ _ _ hi hI)
   have := set_count listed.toList i (by simp [h2, h4])
   rw [Array.toList_setIfInBounds]
   omega
 exact key _ _ _ _ (by simp) h0
def upd (xs : Nat → Value) (i : Nat) (v : Value) : Nat → Value := fun j => if j = i then v else xs j
theorem upd_self (xs : Nat → Value) (i : Nat) (v : Value) : upd xs i v i = v := by simp [upd]
theorem upd_ne (xs : Nat → Value) {i j : Nat} (v : Value) (h : j ≠ i) : upd xs i v j = xs j := by simp [upd, h]
/- what an operation that is not the last one is to show -/
def StepOk (P : Program) (ops : Array Oper) (Q : Exit → Act → World → Prop) (fr : (Nat → Value) → Act) (W0 : World) (T : Nat → Value → World → Prop) (i : Nat) : Prop :=
 ∀ o, ops[i]? = some o → (∀ xs v, (fr xs).put o.dst v = fr (upd xs i v)) ∧ ∀ xs w, Ext W0 w → (∀ j, onB' .any ops i j = true → T j (xs j) w) →
  ∀ K : Act → World → Prop, (∀ v w', Ext w w' → T i v w' → K ((fr xs).put o.dst v) w') → if Region.wanted o (yielded ops (fr xs).tmps) = true then Oper.wp P o (fr xs) w K Q else K ((fr xs).put o.dst undef) w
/- every operation waits only for earlier ones -/
def slBackB (ops : Array Oper) : Bool := (List.range ops.size).all fun i => match ops[i]? with
 |some o => o.after.all fun e => !Region.binds .any e || decide (e.on < i)
 |none => true
theorem slBackB_spec (h : slBackB ops = true) {i : Nat} {o : Oper} (ho : ops[i]? = some o) : ∀ e ∈ o.after, Region.binds .any e = true → e.on < i := by
 intro e he hb
 have hi : i < ops.size := (Array.getElem?_eq_some_iff.1 ho).1
 have h1 := List.all_eq_true.1 h i (List.mem_range.2 hi)
 rw [ho] at h1
 have h2 := Array.all_eq_true'.1 h1 e he
 rw [hb] at h2
 exact of_decide_eq_true (by simpa using h2)
/- the frame: some slots of a given frame written anew -/
def putAll : Array Value → List Nat → (Nat → Value) → Nat → Array Value
 |t, [], _, _ => t
 |t, d :: ds, xs, i => putAll (t.setIfInBounds d (xs i)) ds xs (i + 1)
def frOf (a : Act) (ds : List Nat) (xs : Nat → Value) : Act := { a with tmps := putAll a.tmps ds xs 0 }
theorem putAll_size : ∀ (ds : List Nat) (t : Array Value) (xs : Nat → Value) (i : Nat), (putAll t ds xs i).size = t.size
 |[], _, _, _ => rfl
 |d :: ds, t, xs, i => by unfold putAll; rw [putAll_size ds]; simp
theorem putAll_other : ∀ (ds : List Nat) (t : Array Value) (xs : Nat → Value) (i : Nat) {k : Nat}, k ∉ ds → (putAll t ds xs i)[k]? = t[k]?
 |[], _, _, _, _, _ => rfl
 |d :: ds, t, xs, i, k, h => by
  unfold putAll
  rw [putAll_other ds _ _ _ (fun h' => h (List.mem_cons_of_mem _ h'))]
  rw [Array.getElem?_setIfInBounds_ne (fun e => h (by rw [e]; exact List.mem_cons_self))]
theorem putAll_at : ∀ (ds : List Nat) (t : Array Value) (xs : Nat → Value) (i j : Nat) {d : Nat}, ds.Nodup → ds[j]? = some d → d < t.size → (putAll t ds xs i)[d]? = some (xs (i + j))
 |[], _, _, _, _, _, _, h, _ => by simp at h
 |d' :: ds, t, xs, i, 0, d, hn, h, hs => by
  obtain rfl : d' = d := by simpa using h
  unfold putAll
  rw [putAll_other ds _ _ _ (List.nodup_cons.1 hn).1]
  simp [hs]
 |d' :: ds, t, xs, i, j + 1, d, hn, h, hs => by
  unfold putAll
  rw [putAll_at ds _ xs (i + 1) j (List.nodup_cons.1 hn).2 (by simpa using h) (by simpa using hs)]
  congr 2; omega
theorem putAll_set : ∀ (ds : List Nat) (t : Array Value) (xs : Nat → Value) (i j : Nat) {d : Nat} (v : Value), ds.Nodup → ds[j]? = some d → (∀ d ∈ ds, d < t.size) → (putAll t ds xs i).setIfInBounds d v = putAll t ds (upd xs (i + j) v) i := by
 intro ds t xs i j d v hn h hs
 have hd : d < t.size := hs d (List.mem_of_getElem? h)
 apply Array.ext_getElem?
 intro k
 by_cases hk : k = d
 ·subst hk
  rw [putAll_at ds t _ i j hn h hd, upd_self]
  rw [Array.getElem?_setIfInBounds]
  simp [putAll_size, hd]
 ·rw [Array.getElem?_setIfInBounds_ne (Ne.symm hk)]
  by_cases hm : k ∈ ds
  ·obtain ⟨q, hq⟩ := List.mem_iff_getElem?.1 hm
   rw [putAll_at ds t _ i q hn hq (hs k hm), putAll_at ds t _ i q hn hq (hs k hm)]
   rw [upd_ne]
   intro e
   have : q = j := by omega
   subst this
   rw [hq] at h
   exact hk (Option.some.inj h)
  ·rw [putAll_other ds t _ i hm, putAll_other ds t _ i hm]
theorem putAll_same (ds : List Nat) (t : Array Value) (xs : Nat → Value) (hn : ds.Nodup) (hs : ∀ d ∈ ds, d < t.size) (h : ∀ j d, ds[j]? = some d → t.getD d undef = xs j) : putAll t ds xs 0 = t := by
 apply Array.ext_getElem?
 intro k
 by_cases hm : k ∈ ds
 ·obtain ⟨q, hq⟩ := List.mem_iff_getElem?.1 hm
  have hk := hs k hm
  rw [putAll_at ds t xs 0 q hn hq hk, Nat.zero_add, ← h q k hq]
  simp [hk]
 ·rw [putAll_other ds t xs 0 hm]
def StepB (P : Program) (ops : Array Oper) (Q : Exit → Act → World → Prop) (a : Act) (ds : List Nat) (W0 : World) (T : Nat → Value → World → Prop) (i : Nat) : Prop :=
 ∀ o, ops[i]? = some o → ∀ b w, Ext W0 w → (∀ k, ds.contains k = false → b.eval (.tmp k) = a.eval (.tmp k)) → (∀ j d, ds[j]? = some d → onB' .any ops i j = true → T j (b.eval (.tmp d)) w) →
  ∀ K : Act → World → Prop, (∀ v w', Ext w w' → T i v w' → K (b.put o.dst v) w') → if Region.wanted o (yielded ops b.tmps) = true then Oper.wp P o b w K Q else K (b.put o.dst undef) w
theorem wanted_all {o : Oper} {b : Act} (hg : o.guard = none) : Region.wanted o (yielded ops b.tmps) = true := by unfold Region.wanted; rw [hg]
theorem step_val {o : Oper} {b : Act} {w w' : World} {K : Act → World → Prop} {E : Prop} {v : Value} (hw : Region.wanted o (yielded ops b.tmps) = true) (h : (execOp b.eval o).run P w = .ok (.value v) w') (hK : K (b.put o.dst v) w') :
  if Region.wanted o (yielded ops b.tmps) = true then Oper.wp P o b w K Q else E := by
 rw [if_pos hw]
 unfold Oper.wp
 rw [h]
 exact hK
theorem step_valR {o : Oper} {b : Act} {w w' : World} {K : Act → World → Prop} {E : Prop} {v : Value} (hw : Region.wanted o (yielded ops b.tmps) = true) (h : ∀ ρ : Operand → Value, (∀ x, ρ x = b.eval x) → (∀ u, ρ (.const u) = u) → (execOp ρ o).run P w = .ok (.value v) w') (hK : K (b.put o.dst v) w') :
  if Region.wanted o (yielded ops b.tmps) = true then Oper.wp P o b w K Q else E := step_val hw (h b.eval (fun _ => rfl) (fun _ => rfl)) hK
theorem step_skipR {o : Oper} {b : Act} {w w' : World} {K : Act → World → Prop} {E : Prop} (hw : Region.wanted o (yielded ops b.tmps) = true) (h : ∀ ρ : Operand → Value, (∀ x, ρ x = b.eval x) → (∀ u, ρ (.const u) = u) → (execOp ρ o).run P w = .ok .skip w') (hK : K (b.put o.dst undef) w') :
  if Region.wanted o (yielded ops b.tmps) = true then Oper.wp P o b w K Q else E := by
 rw [if_pos hw]
 unfold Oper.wp
 rw [h b.eval (fun _ => rfl) (fun _ => rfl)]
 exact hK
theorem step_callW {o : Oper} {b : Act} {w : World} {K : Act → World → Prop} {E : Prop} (hw : Region.wanted o (yielded ops b.tmps) = true)
  (f : FuncId) (xs : List Operand) (ts : Array TypeId) (hop : o.op = Op.call { callee := Callee.value (Operand.func f), args := xs.toArray, argTypes := ts })
  (fn : Func) (hf : P.funcs[f]? = some fn) (hb : fn.body.isSome = true) (hn : fn.name ≠ "runtime.NumGoroutine") (args : List Value) (hargs : xs.map b.eval = args) {R : Ending → World → Prop} (hc : Calls P f args.toArray w R)
  (hK : ∀ e w', R e w' → ∃ v, e = .returned v ∧ K (b.put o.dst v) w') : if Region.wanted o (yielded ops b.tmps) = true then Oper.wp P o b w K Q else E := by
 rw [if_pos hw]
 subst hargs
 obtain ⟨c, hb⟩ := Option.isSome_iff_exists.1 hb
 unfold Oper.wp
 simp [execOp, hop, resolve, invoke, Act.eval, callFunc, go_sem, hf, hb, hn]
 refine hc.mono ?_
 intro e w' h
 obtain ⟨v, rfl, hk⟩ := hK e w' h
 exact hk
/- short forms, for squeezed texts -/
theorem sv {o : Oper} {b : Act} {w w' : World} {K : Act → World → Prop} {E : Prop} {v : Value} (hg : o.guard = none) (h : ∀ ρ : Operand → Value, (∀ x, ρ x = b.eval x) → (∀ u, ρ (.const u) = u) → (execOp ρ o).run P w = .ok (.value v) w') (hK : K (b.put o.dst v) w') :
  if Region.wanted o (yielded ops b.tmps) = true then Oper.wp P o b w K Q else E := step_valR (wanted_all hg) h hK
theorem sc {o : Oper} {b : Act} {w : World} {K : Act → World → Prop} {E : Prop} (hg : o.guard = none)
  (f : FuncId) (xs : List Operand) (ts : Array TypeId) (hop : o.op = Op.call { callee := Callee.value (Operand.func f), args := xs.toArray, argTypes := ts })
  (fn : Func) (hf : P.funcs[f]? = some fn) (hb : fn.body.isSome = true) (hn : fn.name ≠ "runtime.NumGoroutine") (args : List Value) (hargs : xs.map b.eval = args) {R : Ending → World → Prop} (hc : Calls P f args.toArray w R)
  (hK : ∀ e w', R e w' → ∃ v, e = .returned v ∧ K (b.put o.dst v) w') : if Region.wanted o (yielded ops b.tmps) = true then Oper.wp P o b w K Q else E := step_callW (wanted_all hg) f xs ts hop fn hf hb hn args hargs hc hK
theorem rk {T : Value → World → Prop} {w : World} {K : Value → World → Prop} {e : Ending} {w' : World} (hK : ∀ v w', Ext w w' → T v w' → K v w') (h : ∃ v, e = .returned v ∧ T v w' ∧ Ext w w') : ∃ v, e = .returned v ∧ K v w' :=
 let ⟨v, h1, h2, h3⟩ := h
 ⟨v, h1, hK v w' h3 h2⟩
end
/- what later worlds keep of a value -/
def Kp (T : Value → World → Prop) : Prop := ∀ v w w', Ext w w' → T v w → T v w'
def Fx (u : Value) : Value → World → Prop := fun v _ => v = u
theorem Fx.kp (u : Value) : Kp (Fx u) := fun _ _ _ _ h => h
def Ret (T : Value → World → Prop) (w : World) (e : Ending) (w' : World) : Prop := ∃ v, e = .returned v ∧ T v w' ∧ Ext w w'
def tAt : List (Value → World → Prop) → Nat → Value → World → Prop
 |[], _ => fun _ _ => True
 |T :: _, 0 => T
 |_ :: l, i + 1 => tAt l i
def KpL : List (Value → World → Prop) → Prop
 |[] => True
 |T :: l => Kp T ∧ KpL l
theorem KpL.at : ∀ {l : List (Value → World → Prop)}, KpL l → ∀ (i : Nat) (v : Value) (w w' : World), Ext w w' → tAt l i v w → tAt l i v w'
 |[], _, _, _, _, _, _, _ => trivial
 |_ :: _, h, 0, v, w, w', he, ht => h.1 v w w' he ht
 |_ :: l, h, i + 1, v, w, w', he, ht => KpL.at (l := l) h.2 i v w w' he ht
section
variable {P : Program} {ops : Array Oper} {Q : Exit → Act → World → Prop}
theorem region_slotsG {id l : Nat} {a : Act} {w W0 : World} (fr : (Nat → Value) → Act) (xs0 : Nat → Value) (T : Nat → Value → World → Prop)
  (hm : P.follows .mixedOrders = true) (hB : (ops.size == l + 1 && (List.range l).all (fun j => onB' .any ops l j) && slBackB ops) = true) (ha : a = fr xs0) (hw : Ext W0 w)
  (hT : ∀ i v w w', i < l → Ext w w' → T i v w → T i v w') (hstep : ∀ i, i < l → StepOk P ops Q fr W0 T i)
  (hlast : ∀ xs w, Ext W0 w → (∀ j, j < l → T j (xs j) w) → wpOp P ops Q l (fun a' w' => Q .normal a' w') (fr xs) w) :
  (Code.region id ops true).wp P Q a w := by
 simp only [Bool.and_eq_true, beq_iff_eq] at hB
 obtain ⟨⟨hn, hB⟩, hback⟩ := hB
 have hall : ∀ j, j < l → onB' .any ops l j = true := fun j hj => List.all_eq_true.1 hB j (List.mem_range.2 hj)
 refine region_inv hm (fun listed a w => listed.size = l + 1 ∧ ((listed.getD l true = false ∧ Ext W0 w ∧ ∃ xs, a = fr xs ∧ ∀ j, j < l → listed.getD j false = true → T j (xs j) w) ∨ ((∀ j, j < l + 1 → listed.getD j true = true) ∧ Q .normal a w))) ?_ ?_ ?_
 ·refine ⟨by simp [hn], .inl ⟨by simp [hn], hw.drew, xs0, ha, fun j hj hl => ?_⟩⟩
  rw [hn] at hl
  simp [show j < l + 1 by omega] at hl
 ·rintro listed a w i hi ⟨hsz, hI⟩
  obtain ⟨hun, o, ho, hdep⟩ := mem_ready.1 hi
  have hil : i < l + 1 := by rw [← hn]; exact (Array.getElem?_eq_some_iff.1 ho).1
  rcases hI with ⟨hl, hx, xs, rfl, hxs⟩ | ⟨hfull, _⟩
  rotate_left
  ·rw [hfull i hil] at hun; cases hun
  have hon : ∀ j, onB' .any ops i j = true → listed.getD j false = true := fun j hj => by
   obtain ⟨o', ho', e, he, hb, hk⟩ := onB_spec hj
   have : o = o' := Option.some.inj (ho.symm.trans ho')
   subst this
   rw [← hk]; exact hdep e he hb
  by_cases hi' : i = l
  ·subst hi'
   have hdone : ∀ j, j < i → listed.getD j false = true := fun j hj => hon j (hall j hj)
   have hfin : ∀ j, j < i + 1 → (listed.setIfInBounds i true).getD j true = true := fun j hj => by
    by_cases hji : j = i
    ·subst hji
     exact getD_false_true (getD_set_self hun)
    ·rw [getD_set_other true (Ne.symm hji)]
     exact getD_false_true (hdone j (by omega))
   exact wpOp_mono (fun a' w' hq => ⟨by simpa using hsz, .inr ⟨hfin, hq⟩⟩) (hlast xs w hx (fun j hj => hxs j hj (hdone j hj)))
  ·have hil' : i < l := by omega
   obtain ⟨hp, h1⟩ := hstep i hil' o ho
   have h2 := h1 xs w hx (fun j hj => by
    by_cases hjl : j < l
    ·exact hxs j hjl (hon j hj)
    ·have h3 := getD_false_true (hon j hj)
     have h4 : j < listed.size := by
      rcases Nat.lt_or_ge j listed.size with h' | h'
      ·exact h'
      ·have := hon j hj; simp [Array.getElem?_eq_none h'] at this
     obtain rfl : j = l := by omega
     rw [hl] at h3; cases h3) (fun a' w' => (listed.setIfInBounds i true).size = l + 1 ∧ (((listed.setIfInBounds i true).getD l true = false ∧ Ext W0 w' ∧ ∃ xs, a' = fr xs ∧ ∀ j, j < l → (listed.setIfInBounds i true).getD j false = true → T j (xs j) w') ∨ ((∀ j, j < l + 1 → (listed.setIfInBounds i true).getD j true = true) ∧ Q .normal a' w'))) (fun v w' he hv => by
    refine ⟨by simpa using hsz, .inl ⟨by rw [getD_set_other true hi']; exact hl, hx.trans he, upd xs i v, hp xs v, fun j hj hl' => ?_⟩⟩
    by_cases hji : j = i
    ·subst hji; rw [upd_self]; exact hv
    ·rw [upd_ne xs v hji]
     rw [getD_set_other false (Ne.symm hji)] at hl'
     exact hT j _ _ _ hj he (hxs j hj hl'))
   unfold wpOp
   rw [ho]
   simp only
   split
   ·rename_i hw'; rw [if_pos hw'] at h2; exact .inl h2
   ·rename_i hw'; rw [if_neg hw'] at h2; exact h2
 ·rintro listed a w hr ⟨hsz, hI⟩
  rcases hI with ⟨hl, _, xs, _, _⟩ | ⟨_, hq⟩
  ·exfalso
   have hle : ∀ i, i < l + 1 → listed.getD i true = false → False := by
    intro i
    induction i using Nat.strongRecOn with
    |ind i ih =>
     intro hil hun
     obtain ⟨o, ho⟩ : ∃ o, ops[i]? = some o := ⟨ops[i]'(by omega), by rw [Array.getElem?_eq_getElem (by omega)]⟩
     by_cases hd : ∀ e ∈ o.after, Region.binds .any e = true → listed.getD e.on false = true
     ·have : i ∈ Region.ready .any ops listed := mem_ready.2 ⟨hun, o, ho, hd⟩
      rw [hr] at this; cases this
     ·simp only [Classical.not_forall] at hd
      obtain ⟨e, he, hb, hne⟩ := hd
      have hlt := slBackB_spec hback ho e he hb
      refine ih e.on hlt (by omega) ?_
      have h4 : e.on < listed.size := by omega
      simp [h4] at hne ⊢
      exact hne
   exact hle l (by omega) hl
  ·exact hq
theorem region_slotsL {id l N : Nat} {a : Act} {w W0 : World} {L : List Oper} (ds : List Nat) (Ts : List (Value → World → Prop)) (hm : P.follows .mixedOrders = true)
  (hB : (L.toArray.size == l + 1 && (List.range l).all (fun j => onB' .any L.toArray l j) && slBackB L.toArray) = true) (hD : (ds.length == l && decide ds.Nodup && ds.all (fun d => decide (d < N)) && (List.range l).all (fun i => (L.toArray[i]?).bind (·.dst) == ds[i]?)) = true) (hN : a.tmps.size = N) (hw : Ext W0 w)
  (hT : KpL Ts) (hstep : ∀ i, i < l → StepB P L.toArray Q a ds W0 (tAt Ts) i)
  (hlast : ∀ xs w, Ext W0 w → (∀ j, j < l → tAt Ts j (xs j) w) → wpList P L.toArray Q (L.drop l) (frOf a ds xs) w) :
  (Code.region id L.toArray true).wp P Q a w := by
 simp only [Bool.and_eq_true, beq_iff_eq, decide_eq_true_eq] at hD
 obtain ⟨⟨⟨hl, hn⟩, hlt⟩, hdst⟩ := hD
 have hs : ∀ d ∈ ds, d < a.tmps.size := fun d hd => by rw [hN]; exact of_decide_eq_true (List.all_eq_true.1 hlt d hd)
 have hev : ∀ xs j d, ds[j]? = some d → (frOf a ds xs).eval (.tmp d) = xs j := fun xs j d h => by
  show (putAll a.tmps ds xs 0).getD d undef = _
  have := putAll_at ds a.tmps xs 0 j hn h (hs d (List.mem_of_getElem? h))
  rw [Nat.zero_add] at this
  rw [Array.getD_eq_getD_getElem?, this]; rfl
 have hot : ∀ xs k, ds.contains k = false → (frOf a ds xs).eval (.tmp k) = a.eval (.tmp k) := fun xs k h => by
  show (putAll a.tmps ds xs 0).getD k undef = a.tmps.getD k undef
  rw [Array.getD_eq_getD_getElem?, Array.getD_eq_getD_getElem?, putAll_other ds a.tmps xs 0 (by simpa using h)]
 have hsz : L.length = l + 1 := by
  simp only [Bool.and_eq_true, beq_iff_eq] at hB
  simpa using hB.1.1
 refine region_slotsG (l := l) (frOf a ds) (fun j => a.tmps.getD (ds.getD j 0) undef) (tAt Ts) hm hB ?_ hw (fun i v w w' _ he h => KpL.at hT i v w w' he h) (fun i hi o ho => ⟨fun xs v => ?_, fun xs w hx hd K hK => ?_⟩) (fun xs w hx hd => ?_)
 ·show a = { a with tmps := putAll a.tmps ds _ 0 }
  rw [putAll_same ds a.tmps _ hn hs (fun j d h => by simp [h])]
 ·have h1 := List.all_eq_true.1 hdst i (List.mem_range.2 hi)
  rw [ho] at h1
  have h2 : o.dst = ds[i]? := by simpa using h1
  obtain ⟨d, hd⟩ : ∃ d, ds[i]? = some d := ⟨ds[i]'(by omega), by rw [List.getElem?_eq_getElem (by omega)]⟩
  rw [h2, hd]
  show ({ a with tmps := (putAll a.tmps ds xs 0).setIfInBounds d v } : Act) = { a with tmps := putAll a.tmps ds (upd xs i v) 0 }
  have := putAll_set ds a.tmps xs 0 i v hn hd hs
  rw [Nat.zero_add] at this
  rw [this]
 ·exact hstep i hi o ho (frOf a ds xs) w hx (hot xs) (fun j d h hj => by rw [hev xs j d h]; exact hd j hj) K hK
 ·have h := hlast xs w hx hd
  obtain ⟨o, ho⟩ : ∃ o, L[l]? = some o := ⟨L[l]'(by omega), by rw [List.getElem?_eq_getElem (by omega)]⟩
  have hd1 : L.drop l = [o] := by
   rw [List.drop_eq_getElem_cons (by omega)]
   rw [List.getElem?_eq_getElem (by omega)] at ho
   rw [Option.some.inj ho, List.drop_of_length_le (by omega)]
  rw [hd1] at h
  have ho' : L.toArray[l]? = some o := by simpa using ho
  unfold wpOp
  rw [ho']
  exact h
/- a tail of several operations, each of which waits for all earlier ones -/
def onT (ops : Array Oper) : Nat → Nat → Nat → Bool
 |0, i, j => onB' .any ops i j
 |f + 1, i, j => onB' .any ops i j || (List.range i).any fun k => onB' .any ops i k && onT ops f k j
theorem closed_on {listed : Array Bool} (hc : Closed .any ops listed) {i j : Nat} (h : onB' .any ops i j = true) (hi : listed.getD i false = true) : listed.getD j false = true := by
 obtain ⟨o, ho, e, he, hb, hk⟩ := onB_spec h
 rw [← hk]; exact hc i o ho hi e he hb
theorem closed_onT {listed : Array Bool} (hc : Closed .any ops listed) : ∀ (f i j : Nat), onT ops f i j = true → listed.getD i false = true → listed.getD j false = true
 |0, _, _, h, hi => closed_on hc h hi
 |f + 1, i, j, h, hi => by
  unfold onT at h
  rw [Bool.or_eq_true] at h
  rcases h with h | h
  ·exact closed_on hc h hi
  ·obtain ⟨k, _, h⟩ := List.any_eq_true.1 h
   rw [Bool.and_eq_true] at h
   exact closed_onT hc f k j h.2 (closed_on hc h.1 hi)
def tailsB (ops : Array Oper) (l m : Nat) : Bool := (ops.size == l + m) && (List.range m).all (fun t => (List.range (l + t)).all fun j => onT ops 2 (l + t) j) && slBackB ops
theorem region_slotsT {id l m N : Nat} {a : Act} {w W0 : World} {L : List Oper} (ds : List Nat) (Ts : List (Value → World → Prop)) (hm : P.follows .mixedOrders = true) (hpos : 0 < m)
  (hB : tailsB L.toArray l m = true) (hD : (ds.length == l && decide ds.Nodup && ds.all (fun d => decide (d < N)) && (List.range l).all (fun i => (L.toArray[i]?).bind (·.dst) == ds[i]?)) = true) (hN : a.tmps.size = N) (hw : Ext W0 w)
  (hT : KpL Ts) (hstep : ∀ i, i < l → StepB P L.toArray Q a ds W0 (tAt Ts) i)
  (hlast : ∀ xs w, Ext W0 w → (∀ j, j < l → tAt Ts j (xs j) w) → wpList P L.toArray Q (L.drop l) (frOf a ds xs) w) :
  (Code.region id L.toArray true).wp P Q a w := by
 simp only [tailsB, Bool.and_eq_true, beq_iff_eq] at hB
 obtain ⟨⟨hn, hB⟩, hback⟩ := hB
 have hall : ∀ t j, l ≤ t → t < l + m → j < t → onT L.toArray 2 t j = true := fun t j h1 h2 h3 => by
  have h4 := List.all_eq_true.1 hB (t - l) (List.mem_range.2 (by omega))
  have h5 := List.all_eq_true.1 h4 j (List.mem_range.2 (by omega))
  rwa [show l + (t - l) = t by omega] at h5
 simp only [Bool.and_eq_true, beq_iff_eq, decide_eq_true_eq] at hD
 obtain ⟨⟨⟨hl, hnd⟩, hlt⟩, hdst⟩ := hD
 have hs : ∀ d ∈ ds, d < a.tmps.size := fun d hd => by rw [hN]; exact of_decide_eq_true (List.all_eq_true.1 hlt d hd)
 have hev : ∀ xs j d, ds[j]? = some d → (frOf a ds xs).eval (.tmp d) = xs j := fun xs j d h => by
  show (putAll a.tmps ds xs 0).getD d undef = _
  have := putAll_at ds a.tmps xs 0 j hnd h (hs d (List.mem_of_getElem? h))
  rw [Nat.zero_add] at this
  rw [Array.getD_eq_getD_getElem?, this]; rfl
 have hot : ∀ xs k, ds.contains k = false → (frOf a ds xs).eval (.tmp k) = a.eval (.tmp k) := fun xs k h => by
  show (putAll a.tmps ds xs 0).getD k undef = a.tmps.getD k undef
  rw [Array.getD_eq_getD_getElem?, Array.getD_eq_getD_getElem?, putAll_other ds a.tmps xs 0 (by simpa using h)]
 have hput : ∀ i o, i < l → L.toArray[i]? = some o → ∀ xs v, (frOf a ds xs).put o.dst v = frOf a ds (upd xs i v) := fun i o hi ho xs v => by
  have h1 := List.all_eq_true.1 hdst i (List.mem_range.2 hi)
  rw [ho] at h1
  have h2 : o.dst = ds[i]? := by simpa using h1
  obtain ⟨d, hd⟩ : ∃ d, ds[i]? = some d := ⟨ds[i]'(by omega), by rw [List.getElem?_eq_getElem (by omega)]⟩
  rw [h2, hd]
  show ({ a with tmps := (putAll a.tmps ds xs 0).setIfInBounds d v } : Act) = { a with tmps := putAll a.tmps ds (upd xs i v) 0 }
  have := putAll_set ds a.tmps xs 0 i v hnd hd hs
  rw [Nat.zero_add] at this
  rw [this]
 have hsz : L.length = l + m := by simpa using hn
 refine region_inv hm (fun listed a' w => Closed .any L.toArray listed ∧ listed.size = l + m ∧ (((∀ t, l ≤ t → t < l + m → listed.getD t true = false) ∧ Ext W0 w ∧ ∃ xs, a' = frOf a ds xs ∧ ∀ j, j < l → listed.getD j false = true → tAt Ts j (xs j) w) ∨ ∃ t, l < t ∧ t ≤ l + m ∧ (∀ j, j < t → listed.getD j true = true) ∧ (∀ j, t ≤ j → j < l + m → listed.getD j true = false) ∧ wpList P L.toArray Q (L.drop t) a' w)) ?_ ?_ ?_
 ·refine ⟨fun j oj _ hl' => (by rw [getD_replicate_false] at hl'; cases hl'), by simp [hsz], .inl ⟨fun t h1 h2 => by simp [hsz, h2], hw.drew, fun j => a.tmps.getD (ds.getD j 0) undef, ?_, fun j hj hl => ?_⟩⟩
  ·show a = { a with tmps := putAll a.tmps ds _ 0 }
   rw [putAll_same ds a.tmps _ hnd hs (fun j d h => by simp [h])]
  ·rw [hn] at hl
   simp [show j < l + m by omega] at hl
 ·rintro listed a' w i hi ⟨hcl, hsl, hI⟩
  obtain ⟨hun, o, ho, hdep⟩ := mem_ready.1 hi
  have hil : i < l + m := by rw [← hn]; exact (Array.getElem?_eq_some_iff.1 ho).1
  have hon : ∀ j, onB' .any L.toArray i j = true → listed.getD j false = true := fun j hj => by
   obtain ⟨o', ho', e, he, hb, hk⟩ := onB_spec hj
   have : o = o' := Option.some.inj (ho.symm.trans ho')
   subst this
   rw [← hk]; exact hdep e he hb
  have hcl' := hcl.set hi
  have honT : ∀ j, onT L.toArray 2 i j = true → listed.getD j false = true := fun j hj => by
   unfold onT at hj
   rw [Bool.or_eq_true] at hj
   rcases hj with h | h
   ·exact hon j h
   ·obtain ⟨k, _, h⟩ := List.any_eq_true.1 h
    rw [Bool.and_eq_true] at h
    exact closed_onT hcl 1 k j h.2 (hon k h.1)
  have hLo : L[i]? = some o := by simpa using ho
  have hdrop : L.drop i = o :: L.drop (i + 1) := by
   rw [List.drop_eq_getElem_cons (by omega)]
   rw [List.getElem?_eq_getElem (by omega)] at hLo
   rw [Option.some.inj hLo]
  have tail : l ≤ i → (∀ j, j < i → listed.getD j true = true) → (∀ j, i ≤ j → j < l + m → listed.getD j true = false) → wpList P L.toArray Q (L.drop i) a' w →
    wpOp P L.toArray Q i (fun a'' w' => Closed .any L.toArray (listed.setIfInBounds i true) ∧ (listed.setIfInBounds i true).size = l + m ∧ (((∀ t, l ≤ t → t < l + m → (listed.setIfInBounds i true).getD t true = false) ∧ Ext W0 w' ∧ ∃ xs, a'' = frOf a ds xs ∧ ∀ j, j < l → (listed.setIfInBounds i true).getD j false = true → tAt Ts j (xs j) w') ∨ ∃ t, l < t ∧ t ≤ l + m ∧ (∀ j, j < t → (listed.setIfInBounds i true).getD j true = true) ∧ (∀ j, t ≤ j → j < l + m → (listed.setIfInBounds i true).getD j true = false) ∧ wpList P L.toArray Q (L.drop t) a'' w')) a' w := by
   intro h1 h2 h3 h4
   rw [hdrop] at h4
   have h5 : wpOp P L.toArray Q i (wpList P L.toArray Q (L.drop (i + 1))) a' w := by
    unfold wpOp
    rw [ho]
    exact h4
   refine wpOp_mono (fun a'' w' hq => ⟨hcl', by simpa using hsl, .inr ⟨i + 1, by omega, by omega, fun j hj => ?_, fun j hj hj' => ?_, hq⟩⟩) h5
   ·by_cases hji : j = i
    ·subst hji; exact getD_false_true (getD_set_self hun)
    ·rw [getD_set_other true (Ne.symm hji)]; exact h2 j (by omega)
   ·rw [getD_set_other true (by omega)]; exact h3 j (by omega) hj'
  rcases hI with ⟨hfree, hx, xs, rfl, hxs⟩ | ⟨t, h1, h2, h3, h4, h5⟩
  ·by_cases hi' : l ≤ i
   ·have hdone : ∀ j, j < i → listed.getD j false = true := fun j hj => honT j (hall i j hi' hil hj)
    have hil2 : i = l := by
     rcases Nat.lt_or_ge l i with h | h
     ·have e1 := getD_false_true (hdone l h)
      rw [hfree l (Nat.le_refl _) (by omega)] at e1; cases e1
     ·omega
    subst hil2
    exact tail (Nat.le_refl _) (fun j hj => getD_false_true (hdone j hj)) (fun j hj hj' => hfree j hj hj') (hlast xs w hx (fun j hj => hxs j hj (hdone j hj)))
   ·have hil' : i < l := by omega
    have h1 := hstep i hil' o ho (frOf a ds xs) w hx (hot xs) (fun j d h hj => by
     rw [hev xs j d h]
     have hjl : j < l := by rw [← hl]; exact (List.getElem?_eq_some_iff.1 h).1
     exact hxs j hjl (hon j hj)) (fun a'' w' => Closed .any L.toArray (listed.setIfInBounds i true) ∧ (listed.setIfInBounds i true).size = l + m ∧ (((∀ t, l ≤ t → t < l + m → (listed.setIfInBounds i true).getD t true = false) ∧ Ext W0 w' ∧ ∃ xs, a'' = frOf a ds xs ∧ ∀ j, j < l → (listed.setIfInBounds i true).getD j false = true → tAt Ts j (xs j) w') ∨ ∃ t, l < t ∧ t ≤ l + m ∧ (∀ j, j < t → (listed.setIfInBounds i true).getD j true = true) ∧ (∀ j, t ≤ j → j < l + m → (listed.setIfInBounds i true).getD j true = false) ∧ wpList P L.toArray Q (L.drop t) a'' w')) (fun v w' he hv => by
     refine ⟨hcl', by simpa using hsl, .inl ⟨fun t ht ht' => by rw [getD_set_other true (by omega)]; exact hfree t ht ht', hx.trans he, upd xs i v, hput i o hil' ho xs v, fun j hj hl' => ?_⟩⟩
     by_cases hji : j = i
     ·subst hji; rw [upd_self]; exact hv
     ·rw [upd_ne xs v hji]
      rw [getD_set_other false (Ne.symm hji)] at hl'
      exact KpL.at hT j _ _ _ he (hxs j hj hl'))
    unfold wpOp
    rw [ho]
    simp only
    split
    ·rename_i hw'; rw [if_pos hw'] at h1; exact .inl h1
    ·rename_i hw'; rw [if_neg hw'] at h1; exact h1
  ·have hit : i = t := by
    rcases Nat.lt_trichotomy i t with h | h | h
    ·rw [h3 i h] at hun; cases hun
    ·exact h
    ·have e1 := getD_false_true (honT t (hall i t (by omega) hil h))
     rw [h4 t (Nat.le_refl _) (by omega)] at e1; cases e1
   subst hit
   exact tail (by omega) h3 h4 h5
 ·rintro listed a' w hr ⟨hcl, hsl, hI⟩
  have hle : ∀ i, i < l + m → listed.getD i true = false → False := by
   intro i
   induction i using Nat.strongRecOn with
   |ind i ih =>
    intro hil hun
    obtain ⟨o, ho⟩ : ∃ o, L.toArray[i]? = some o := ⟨L.toArray[i]'(by omega), by rw [Array.getElem?_eq_getElem (by omega)]⟩
    by_cases hd : ∀ e ∈ o.after, Region.binds .any e = true → listed.getD e.on false = true
    ·have : i ∈ Region.ready .any L.toArray listed := mem_ready.2 ⟨hun, o, ho, hd⟩
     rw [hr] at this; cases this
    ·simp only [Classical.not_forall] at hd
     obtain ⟨e, he, hb, hne⟩ := hd
     have hlt := slBackB_spec hback ho e he hb
     refine ih e.on hlt (by omega) ?_
     have h4 : e.on < listed.size := by omega
     simp [h4] at hne ⊢
     exact hne
  rcases hI with ⟨hfree, _⟩ | ⟨t, h1, h2, h3, h4, h5⟩
  ·exact absurd (hfree l (Nat.le_refl _) (by omega)) (fun h => hle l (by omega) h)
  ·rcases Nat.lt_or_ge t (l + m) with h | h
   ·exact absurd (h4 t (Nat.le_refl _) h) (fun h' => hle t h h')
   ·rw [List.drop_of_length_le (by omega)] at h5
    exact h5
end
end Go.Proofs.YtfegbaokcbjllaaGreat
