/- A region whose order is open and whose operations make memory or call: what each slot may hold, said by a predicate that later worlds keep; the last operation waits for all others. No program in sight. -/
import Derived.OrdersHeld
import Derived.StillTail
import Derived.Deep.RegionLaw
import Derived.Test.YtkigmpholnfkbaaGreatKBase
/- A region whose order is open: operations that only read may be taken first as long as one other operation (number ap, which waits for them) has not come up. No program in sight. -/
namespace Go.Proofs.YtkigmpholnfkbaaGreat
open Go.RowKit
section
variable {P : Program} {md : Region.Mode} {ops : Array Oper} {Q : Exit → Act → World → Prop} {C : World → Prop} {ap : Nat}
def wpAnyU (P : Program) (md : Region.Mode) (ops : Array Oper) (Q : Exit → Act → World → Prop) (C : World → Prop) (ap : Nat) : Nat → Array Bool → Act → World → Prop
  | 0, listed, a, w => Region.ready md ops listed = [] ∧ Q .normal a w
  | fuel + 1, listed, a, w => (Region.ready md ops listed = [] → Q .normal a w) ∧
    ∀ i ∈ Region.ready md ops listed, wpOp P ops Q i (fun a' w' => ((listed.setIfInBounds i true).getD ap true = false → C w') ∧ wpAnyU P md ops Q C ap fuel (listed.setIfInBounds i true) a' w') a w
theorem any_of_U : ∀ (fuel : Nat) (listed : Array Bool) (a : Act) (w : World), wpAnyU P md ops Q C ap fuel listed a w → wpAny P md ops Q fuel listed a w
  | 0, _, _, _, h => h
  | fuel + 1, _, _, _, h => ⟨h.1, fun i hi => wpOp_mono (fun a' w' h' => any_of_U fuel _ a' w' h'.2) (h.2 i hi)⟩
def Closed (md : Region.Mode) (ops : Array Oper) (listed : Array Bool) : Prop := ∀ (j : Nat) (oj : Oper), ops[j]? = some oj → listed.getD j false = true → ∀ e ∈ oj.after, Region.binds md e = true → listed.getD e.on false = true
theorem getD_set_self {listed : Array Bool} {i : Nat} (h : listed.getD i true = false) : (listed.setIfInBounds i true).getD i false = true := by
  have hs : i < listed.size := by
    rcases Nat.lt_or_ge i listed.size with h' | h'
    · exact h'
    · simp [Array.getElem?_eq_none h'] at h
  simp [hs]
theorem getD_set_other {listed : Array Bool} {i j : Nat} (d : Bool) (h : i ≠ j) : (listed.setIfInBounds i true).getD j d = listed.getD j d := by
  simp only [Array.getD_eq_getD_getElem?, Array.getElem?_setIfInBounds_ne h]
theorem getD_false_true {listed : Array Bool} {i : Nat} (h : listed.getD i false = true) : listed.getD i true = true := by
  rcases Nat.lt_or_ge i listed.size with h' | h'
  · simp [h'] at h ⊢; exact h
  · simp [Array.getElem?_eq_none h'] at h
theorem Closed.set {listed : Array Bool} {i : Nat} (h : Closed md ops listed) (hi : i ∈ Region.ready md ops listed) : Closed md ops (listed.setIfInBounds i true) := by
  obtain ⟨hun, oi, hoi, hall⟩ := mem_ready.1 hi
  intro j oj hoj hl e he hb
  by_cases hij : i = j
  · subst hij
    have : oi = oj := Option.some.inj (hoi.symm.trans hoj)
    subst this
    have h1 := hall e he hb
    by_cases hie : i = e.on
    · rw [← hie] at h1 ⊢; exact getD_set_self hun
    · rw [getD_set_other false hie]; exact h1
  · rw [getD_set_other false hij] at hl
    have h1 := h j oj hoj hl e he hb
    by_cases hie : i = e.on
    · rw [← hie]; exact getD_set_self hun
    · rw [getD_set_other false hie]; exact h1
/- a way from an operation to one that it waits for -/
def onB' (md : Region.Mode) (ops : Array Oper) (j k : Nat) : Bool := match ops[j]? with
  | some o => o.after.any fun e => Region.binds md e && e.on == k
  | none => false
def pathB (md : Region.Mode) (ops : Array Oper) : List Nat → Bool
  | j :: k :: r => onB' md ops j k && pathB md ops (k :: r)
  | _ => true
theorem onB_spec {j k : Nat} (h : onB' md ops j k = true) : ∃ o, ops[j]? = some o ∧ ∃ e ∈ o.after, Region.binds md e = true ∧ e.on = k := by
  unfold onB' at h
  split at h
  · rename_i o ho
    obtain ⟨e, he, h1⟩ := Array.any_eq_true'.1 h
    rw [Bool.and_eq_true] at h1
    exact ⟨o, ho, e, he, h1.1, by simpa using h1.2⟩
  · cases h
theorem path_listed {listed : Array Bool} (hc : Closed md ops listed) : ∀ (r : List Nat) (j i : Nat), pathB md ops (j :: r) = true → (j :: r).getLast? = some i → listed.getD j false = true → listed.getD i false = true
  | [], j, i, _, hl, h => by simp at hl; rw [← hl]; exact h
  | k :: r, j, i, hp, hl, h => by
    simp only [pathB, Bool.and_eq_true] at hp
    obtain ⟨o, ho, e, he, hb, hk⟩ := onB_spec hp.1
    exact path_listed hc r k i hp.2 (by simpa using hl) (by rw [← hk]; exact hc j o ho h e he hb)
theorem path_ready {listed : Array Bool} (hc : Closed md ops listed) {j k i : Nat} {r : List Nat} (hp : pathB md ops (j :: k :: r) = true) (hl : (j :: k :: r).getLast? = some i) (hj : j ∈ Region.ready md ops listed) : listed.getD i false = true := by
  simp only [pathB, Bool.and_eq_true] at hp
  obtain ⟨o, ho, e, he, hb, hk⟩ := onB_spec hp.1
  obtain ⟨_, o', ho', hall⟩ := mem_ready.1 hj
  have : o = o' := Option.some.inj (ho.symm.trans ho')
  subst this
  exact path_listed hc r k i hp.2 (by simpa using hl) (by rw [← hk]; exact hall e he hb)
theorem U_first {i : Nat} {oi : Oper} {v : Value} {k : Nat} {r : List Nat} (hi : ops[i]? = some oi) (hsel : ∀ (j : Nat) (o : Oper) cs b, ops[j]? = some o → o.op ≠ .select cs b)
    (hQ : ∀ c a w, Q (.panic c) (a.put oi.dst v) w → Q (.panic c) a w) (hne : i ≠ ap) (hp : pathB md ops (ap :: k :: r) = true) (hpl : (ap :: k :: r).getLast? = some i) :
    ∀ (fuel : Nat) (listed : Array Bool) (a : Act) (w : World),
      (∀ j oj, ops[j]? = some oj → j ≠ i → listed.getD j true = false → (∀ e ∈ oj.after, Region.binds md e = true → e.on ≠ i) → oi.apart ops oj = true) →
      i ∈ Region.ready md ops listed → YieldsIf P ops C oi v a → C w → Closed md ops listed → listed.getD ap true = false →
      wpAnyU P md ops Q C ap fuel (listed.setIfInBounds i true) (a.put oi.dst v) w → wpAnyU P md ops Q C ap (fuel + 1) listed a w := by
  intro fuel
  induction fuel with
  | zero =>
    intro listed a w _ hr hy hS hc ha H
    refine ⟨fun h => (by rw [h] at hr; cases hr), fun j hj => ?_⟩
    by_cases hji : j = i
    · subst hji; exact hy.wpOp hi hS ⟨fun _ => hS, H⟩
    · have := ready_mono hj hji
      rw [H.1] at this
      cases this
  | succ fuel ih =>
    intro listed a w hfree hr hy hS hc ha H
    refine ⟨fun h => (by rw [h] at hr; cases hr), fun j hj => ?_⟩
    by_cases hji : j = i
    · subst hji; exact hy.wpOp hi hS ⟨fun _ => hS, H⟩
    · have h1 := H.2 j (ready_mono hj hji)
      obtain ⟨hjun, oj, hoj, hall⟩ := mem_ready.1 hj
      have h0 := (mem_ready.1 hr).1
      have hjap : j ≠ ap := by
        rintro rfl
        have := getD_false_true (path_ready hc hp hpl hj)
        rw [h0] at this; cases this
      have ha' : (listed.setIfInBounds j true).getD ap true = false := by rw [getD_set_other true hjap]; exact ha
      have ha2 : ((listed.setIfInBounds i true).setIfInBounds j true).getD ap true = false := by rw [getD_set_other true hjap, getD_set_other true hne]; exact ha
      have hnot : ∀ e ∈ oj.after, Region.binds md e = true → e.on ≠ i := fun e he hb heq => by
        have h1 := hall e he hb
        rw [heq] at h1
        have := getD_false_true h1
        rw [h0] at this; cases this
      have h2 := wpOp_putIf hoj (hfree j oj hoj hji hjun hnot) (fun cs b => hsel i oi cs b hi) (fun cs b => hsel j oj cs b hoj) hQ hy h1
      have hfree' : ∀ k ok, ops[k]? = some ok → k ≠ i → (listed.setIfInBounds j true).getD k true = false →
          (∀ e ∈ ok.after, Region.binds md e = true → e.on ≠ i) → oi.apart ops ok = true := fun k ok hk hki hun hno => by
        refine hfree k ok hk hki ?_ hno
        by_cases hjk : j = k
        · subst hjk; exact hjun
        · rw [getD_set_other true hjk] at hun; exact hun
      refine wpOp_mono (fun a' w' h3 => ⟨fun _ => h3.2.1 ha2, ih (listed.setIfInBounds j true) a' w' hfree' (ready_mono hr (Ne.symm hji)) h3.1 (h3.2.1 ha2) (hc.set hj) ha' ?_⟩) h2
      rw [Array.setIfInBounds_comm _ _ hji]
      exact h3.2.2
theorem U_first0 {i : Nat} {oi : Oper} {v : Value} (hi : ops[i]? = some oi) (hsel : ∀ (j : Nat) (o : Oper) cs b, ops[j]? = some o → o.op ≠ .select cs b)
    (hQ : ∀ c a w, Q (.panic c) (a.put oi.dst v) w → Q (.panic c) a w) (hne : i ≠ ap) :
    ∀ (fuel : Nat) (listed : Array Bool) (a : Act) (w : World),
      (∀ j oj, ops[j]? = some oj → j ≠ i → listed.getD j true = false → (∀ e ∈ oj.after, Region.binds md e = true → e.on ≠ i) → oi.apart ops oj = true) →
      i ∈ Region.ready md ops listed → YieldsIf P ops (fun _ => True) oi v a → (listed.getD ap true = false → C w) →
      wpAnyU P md ops Q C ap fuel (listed.setIfInBounds i true) (a.put oi.dst v) w → wpAnyU P md ops Q C ap (fuel + 1) listed a w := by
  intro fuel
  induction fuel with
  | zero =>
    intro listed a w _ hr hy hS H
    refine ⟨fun h => (by rw [h] at hr; cases hr), fun j hj => ?_⟩
    by_cases hji : j = i
    · subst hji; exact hy.wpOp hi trivial ⟨fun h => hS (by rwa [getD_set_other true hne] at h), H⟩
    · have := ready_mono hj hji
      rw [H.1] at this
      cases this
  | succ fuel ih =>
    intro listed a w hfree hr hy hS H
    refine ⟨fun h => (by rw [h] at hr; cases hr), fun j hj => ?_⟩
    by_cases hji : j = i
    · subst hji; exact hy.wpOp hi trivial ⟨fun h => hS (by rwa [getD_set_other true hne] at h), H⟩
    · have h1 := H.2 j (ready_mono hj hji)
      obtain ⟨hjun, oj, hoj, hall⟩ := mem_ready.1 hj
      have h0 := (mem_ready.1 hr).1
      have hnot : ∀ e ∈ oj.after, Region.binds md e = true → e.on ≠ i := fun e he hb heq => by
        have h1 := hall e he hb
        rw [heq] at h1
        have := getD_false_true h1
        rw [h0] at this; cases this
      have h2 := wpOp_putIf hoj (hfree j oj hoj hji hjun hnot) (fun cs b => hsel i oi cs b hi) (fun cs b => hsel j oj cs b hoj) hQ hy h1
      have hfree' : ∀ k ok, ops[k]? = some ok → k ≠ i → (listed.setIfInBounds j true).getD k true = false →
          (∀ e ∈ ok.after, Region.binds md e = true → e.on ≠ i) → oi.apart ops ok = true := fun k ok hk hki hun hno => by
        refine hfree k ok hk hki ?_ hno
        by_cases hjk : j = k
        · subst hjk; exact hjun
        · rw [getD_set_other true hjk] at hun; exact hun
      have e2 : ((listed.setIfInBounds i true).setIfInBounds j true).getD ap true = (listed.setIfInBounds j true).getD ap true := by
        rw [Array.setIfInBounds_comm _ _ (Ne.symm hji), getD_set_other true hne]
      refine wpOp_mono (fun a' w' h3 => ⟨fun h => h3.2.1 (by rw [e2]; exact h), ih (listed.setIfInBounds j true) a' w' hfree' (ready_mono hr (Ne.symm hji)) h3.1 (fun h => h3.2.1 (by rw [e2]; exact h)) ?_⟩) h2
      rw [Array.setIfInBounds_comm _ _ hji]
      exact h3.2.2
def closedB (md : Region.Mode) (ops : Array Oper) (listed : Array Bool) : Bool := (List.range ops.size).all fun j => !listed.getD j false || match ops[j]? with
  | some o => o.after.all fun e => !Region.binds md e || listed.getD e.on false
  | none => true
theorem closedB_spec {listed : Array Bool} (h : closedB md ops listed = true) : Closed md ops listed := by
  intro j oj hoj hl e he hb
  have hj : j < ops.size := (Array.getElem?_eq_some_iff.1 hoj).1
  have h1 := List.all_eq_true.1 h j (List.mem_range.2 hj)
  rw [hl, hoj] at h1
  simp only [Bool.not_true, Bool.false_or] at h1
  have h2 := Array.all_eq_true'.1 h1 e he
  rw [hb] at h2
  simpa using h2
/- the moves -/
theorem U_take {i : Nat} {oi : Oper} {v : Value} {fuel : Nat} {listed : Array Bool} {a : Act} {w : World} {k : Nat} {r : List Nat} (hi : ops[i]? = some oi)
    (hB : (Region.noSelect ops && Region.free md ops listed i && (Region.ready md ops listed).contains i && decide (i ≠ ap) && pathB md ops (ap :: k :: r) && ((ap :: k :: r).getLast? == some i) && closedB md ops listed && !listed.getD ap true) = true)
    (hQ : ∀ c a w, Q (.panic c) (a.put oi.dst v) w → Q (.panic c) a w) (hy : YieldsIf P ops C oi v a) (hC : C w)
    (h : wpAnyU P md ops Q C ap fuel (listed.setIfInBounds i true) (a.put oi.dst v) w) : wpAnyU P md ops Q C ap (fuel + 1) listed a w := by
  simp only [Bool.and_eq_true, decide_eq_true_eq, Bool.not_eq_true'] at hB
  obtain ⟨⟨⟨⟨⟨⟨⟨h1, h2⟩, h3⟩, h4⟩, h5⟩, h6⟩, h7⟩, h8⟩ := hB
  exact U_first hi (Region.noSelect_spec h1) hQ h4 h5 (by simpa using h6) fuel listed a w (Region.free_spec hi h2) (by simpa using h3) hy hC (closedB_spec h7) h8 h
theorem U_take0 {i : Nat} {oi : Oper} {v : Value} {fuel : Nat} {listed : Array Bool} {a : Act} {w : World} (hi : ops[i]? = some oi)
    (hB : (Region.noSelect ops && Region.free md ops listed i && (Region.ready md ops listed).contains i && decide (i ≠ ap)) = true)
    (hQ : ∀ c a w, Q (.panic c) (a.put oi.dst v) w → Q (.panic c) a w) (hy : YieldsIf P ops (fun _ => True) oi v a) (hC : C w)
    (h : wpAnyU P md ops Q C ap fuel (listed.setIfInBounds i true) (a.put oi.dst v) w) : wpAnyU P md ops Q C ap (fuel + 1) listed a w := by
  simp only [Bool.and_eq_true, decide_eq_true_eq] at hB
  obtain ⟨⟨⟨h1, h2⟩, h3⟩, h4⟩ := hB
  exact U_first0 hi (Region.noSelect_spec h1) hQ h4 fuel listed a w (Region.free_spec hi h2) (by simpa using h3) hy (fun _ => hC) h
theorem U_one {i : Nat} {o : Oper} {fuel : Nat} {listed : Array Bool} {a : Act} {w : World} (ho : ops[i]? = some o) (hr : (Region.ready md ops listed == [i]) = true)
    (h : ∀ K : Act → World → Prop, (∀ a' w', ((listed.setIfInBounds i true).getD ap true = false → C w') → wpAnyU P md ops Q C ap fuel (listed.setIfInBounds i true) a' w' → K a' w') →
      if Region.wanted o (yielded ops a.tmps) = true then Oper.wp P o a w K Q else K (a.put o.dst undef) w) : wpAnyU P md ops Q C ap (fuel + 1) listed a w := by
  have hr' : Region.ready md ops listed = [i] := by simpa using hr
  refine ⟨fun h0 => (by rw [hr'] at h0; cases h0), fun j hj => ?_⟩
  rw [hr'] at hj
  obtain rfl : j = i := by simpa using hj
  have := h (fun a' w' => ((listed.setIfInBounds j true).getD ap true = false → C w') ∧ wpAnyU P md ops Q C ap fuel (listed.setIfInBounds j true) a' w') (fun a' w' h1 h2 => ⟨h1, h2⟩)
  unfold wpOp
  rw [ho]
  simp only
  split
  · rename_i hw; rw [if_pos hw] at this; exact .inl this
  · rename_i hw; rw [if_neg hw] at this; exact this
theorem U_done {listed : Array Bool} {a : Act} {w : World} (hr : (Region.ready md ops listed).isEmpty = true) (h : Q .normal a w) : wpAnyU P md ops Q C ap 0 listed a w := ⟨by simpa using hr, h⟩
theorem region_U {id : Nat} {a : Act} {w : World} (ap : Nat) (C : World → Prop) (hm : P.follows .mixedOrders = true) (h : wpAnyU P .any ops Q C ap ops.size (Array.replicate ops.size false) a w.drew) : (Code.region id ops true).wp P Q a w :=
  wp_region_any hm (any_of_U _ _ _ _ h)
theorem region_U' {id n : Nat} {a : Act} {w : World} (ap : Nat) (C : World → Prop) (hm : P.follows .mixedOrders = true) (hs : (ops.size == n) = true) (h : wpAnyU P .any ops Q C ap n (Array.replicate n false) a w.drew) : (Code.region id ops true).wp P Q a w := by
  have : ops.size = n := by simpa using hs
  subst this
  exact region_U ap C hm h
end
end Go.Proofs.YtkigmpholnfkbaaGreat
/- a call of a Go function inside a region whose order is open, as one step; no program in sight -/
namespace Go.Proofs.YtkigmpholnfkbaaGreat
open Go.RowKit
theorem step_call {P : Program} {ops : Array Oper} {o : Oper} {a : Act} {w : World} {K : Act → World → Prop} {Q : Exit → Act → World → Prop} {E : Prop}
    (hg : o.guard = none) (f : FuncId) (xs : List Operand) (ts : Array TypeId) (hop : o.op = Op.call { callee := Callee.value (Operand.func f), args := xs.toArray, argTypes := ts })
    (fn : Func) (hf : P.funcs[f]? = some fn) (hb : fn.body.isSome = true) (hn : fn.name ≠ "runtime.NumGoroutine") (args : List Value) (hargs : xs.map a.eval = args) {v : Value} {R : World → Prop} (hc : Calls P f args.toArray w fun e w' => e = .returned v ∧ R w')
    (hK : ∀ w', R w' → K (a.put o.dst v) w') : if Region.wanted o (yielded ops a.tmps) = true then Oper.wp P o a w K Q else E := by
  have hw : Region.wanted o (yielded ops a.tmps) = true := by simp [Region.wanted, hg]
  rw [if_pos hw]
  subst hargs
  obtain ⟨c, hb⟩ := Option.isSome_iff_exists.1 hb
  unfold Oper.wp
  simp [execOp, hop, resolve, invoke, Act.eval, callFunc, go_sem, hf, hb, hn]
  refine hc.mono ?_
  rintro e w' ⟨rfl, h⟩
  exact hK w' h
end Go.Proofs.YtkigmpholnfkbaaGreat
namespace Go.Proofs.YtkigmpholnfkbaaGreat
open Go.RowKit
section
variable {P : Program} {ops : Array Oper} {Q : Exit → Act → World → Prop}
theorem set_count : ∀ (l : List Bool) (i : Nat), l[i]? = some false → (l.set i true).count false + 1 = l.count false
  | [], i, h => by simp at h
  | b :: l, 0, h => by
    obtain rfl : b = false := by simpa using h
    simp
  | b :: l, i + 1, h => by
    have := set_count l i (by simpa using h)
    simp only [List.set_cons_succ, List.count_cons]
    omega
theorem region_inv {id : Nat} {a : Act} {w : World} (hm : P.follows .mixedOrders = true) (I : Array Bool → Act → World → Prop)
    (h0 : I (Array.replicate ops.size false) a w.drew)
    (hs : ∀ listed a w i, i ∈ Region.ready .any ops listed → I listed a w → wpOp P ops Q i (I (listed.setIfInBounds i true)) a w)
    (he : ∀ listed a w, Region.ready .any ops listed = [] → I listed a w → Q .normal a w) : (Code.region id ops true).wp P Q a w := by
  refine wp_region_any hm ?_
  have key : ∀ (fuel : Nat) (listed : Array Bool) (a : Act) (w : World), listed.toList.count false = fuel → I listed a w → wpAny P .any ops Q fuel listed a w := by
    intro fuel
    induction fuel with
    | zero =>
      intro listed a w hc hI
      have hr : Region.ready .any ops listed = [] := by
        rw [List.eq_nil_iff_forall_not_mem]
        intro i hi
        have h1 := (mem_ready.1 hi).1
        have h2 : i < listed.size := by
          rcases Nat.lt_or_ge i listed.size with h' | h'
          · exact h'
          · simp [Array.getElem?_eq_none h'] at h1
        have h3 : listed.toList.count false ≠ 0 := by
          rw [Ne, List.count_eq_zero]
          intro hn
          apply hn
          have h4 : listed[i] = false := by simpa [h2] using h1
          rw [← h4]
          simp
        exact h3 hc
      exact ⟨hr, he _ _ _ hr hI⟩
    | succ fuel ih =>
      intro listed a w hc hI
      refine ⟨fun hr => he _ _ _ hr hI, fun i hi => ?_⟩
      have h1 := (mem_ready.1 hi).1
      have h2 : i < listed.size := by
        rcases Nat.lt_or_ge i listed.size with h' | h'
        · exact h'
        · simp [Array.getElem?_eq_none h'] at h1
      have h4 : listed[i] = false := by simpa [h2] using h1
      refine wpOp_mono (fun a' w' h' => ih _ a' w' ?_ h') (hs _ _ _ _ hi hI)
      have := set_count listed.toList i (by simp [h2, h4])
      rw [Array.toList_setIfInBounds]
      omega
  exact key _ _ _ _ (by simp) h0
def upd (xs : Nat → Value) (i : Nat) (v : Value) : Nat → Value := fun j => if j = i then v else xs j
theorem upd_self (xs : Nat → Value) (i : Nat) (v : Value) : upd xs i v i = v := by simp [upd]
theorem upd_ne (xs : Nat → Value) {i j : Nat} (v : Value) (h : j ≠ i) : upd xs i v j = xs j := by simp [upd, h]
/- what an operation that is not the last one is to show -/
def StepOk (P : Program) (ops : Array Oper) (Q : Exit → Act → World → Prop) (fr : (Nat → Value) → Act) (W0 : World) (T : Nat → Value → World → Prop) (i : Nat) : Prop :=
  ∀ o, ops[i]? = some o → (∀ xs v, (fr xs).put o.dst v = fr (upd xs i v)) ∧ ∀ xs w, Ext W0 w → (∀ j, onB' .any ops i j = true → T j (xs j) w) →
    ∀ K : Act → World → Prop, (∀ v w', Ext w w' → T i v w' → K ((fr xs).put o.dst v) w') → if Region.wanted o (yielded ops (fr xs).tmps) = true then Oper.wp P o (fr xs) w K Q else K ((fr xs).put o.dst undef) w
theorem stepOk_of {fr : (Nat → Value) → Act} {W0 : World} {T : Nat → Value → World → Prop} {i : Nat} {o : Oper} (ho : ops[i]? = some o) (hp : ∀ xs v, (fr xs).put o.dst v = fr (upd xs i v))
    (h : ∀ xs w, Ext W0 w → (∀ j, onB' .any ops i j = true → T j (xs j) w) → ∀ K : Act → World → Prop, (∀ v w', Ext w w' → T i v w' → K ((fr xs).put o.dst v) w') → if Region.wanted o (yielded ops (fr xs).tmps) = true then Oper.wp P o (fr xs) w K Q else K ((fr xs).put o.dst undef) w) :
    StepOk P ops Q fr W0 T i := by
  intro o' ho'
  obtain rfl : o = o' := Option.some.inj (ho.symm.trans ho')
  exact ⟨hp, h⟩
/- every operation waits only for earlier ones -/
def slBackB (ops : Array Oper) : Bool := (List.range ops.size).all fun i => match ops[i]? with
  | some o => o.after.all fun e => !Region.binds .any e || decide (e.on < i)
  | none => true
theorem slBackB_spec (h : slBackB ops = true) {i : Nat} {o : Oper} (ho : ops[i]? = some o) : ∀ e ∈ o.after, Region.binds .any e = true → e.on < i := by
  intro e he hb
  have hi : i < ops.size := (Array.getElem?_eq_some_iff.1 ho).1
  have h1 := List.all_eq_true.1 h i (List.mem_range.2 hi)
  rw [ho] at h1
  have h2 := Array.all_eq_true'.1 h1 e he
  rw [hb] at h2
  exact of_decide_eq_true (by simpa using h2)
theorem region_slots {id l : Nat} {a : Act} {w W0 : World} (fr : (Nat → Value) → Act) (xs0 : Nat → Value) (T : Nat → Value → World → Prop)
    (hm : P.follows .mixedOrders = true) (hB : (ops.size == l + 1 && (List.range l).all (fun j => onB' .any ops l j) && slBackB ops) = true) (ha : a = fr xs0) (hw : Ext W0 w)
    (hT : ∀ i v w w', i < l → Ext w w' → T i v w → T i v w') (hstep : ∀ i, i < l → StepOk P ops Q fr W0 T i)
    (hlast : ∀ o, ops[l]? = some o → ∀ xs w, Ext W0 w → (∀ j, j < l → T j (xs j) w) → ∀ K : Act → World → Prop, (∀ a' w', Q .normal a' w' → K a' w') → if Region.wanted o (yielded ops (fr xs).tmps) = true then Oper.wp P o (fr xs) w K Q else K ((fr xs).put o.dst undef) w) :
    (Code.region id ops true).wp P Q a w := by
  simp only [Bool.and_eq_true, beq_iff_eq] at hB
  obtain ⟨⟨hn, hB⟩, hback⟩ := hB
  have hall : ∀ j, j < l → onB' .any ops l j = true := fun j hj => List.all_eq_true.1 hB j (List.mem_range.2 hj)
  refine region_inv hm (fun listed a w => listed.size = l + 1 ∧ ((listed.getD l true = false ∧ Ext W0 w ∧ ∃ xs, a = fr xs ∧ ∀ j, j < l → listed.getD j false = true → T j (xs j) w) ∨ ((∀ j, j < l + 1 → listed.getD j true = true) ∧ Q .normal a w))) ?_ ?_ ?_
  · refine ⟨by simp [hn], .inl ⟨by simp [hn], hw.drew, xs0, ha, fun j hj hl => ?_⟩⟩
    rw [hn] at hl
    simp [show j < l + 1 by omega] at hl
  · rintro listed a w i hi ⟨hsz, hI⟩
    obtain ⟨hun, o, ho, hdep⟩ := mem_ready.1 hi
    have hil : i < l + 1 := by rw [← hn]; exact (Array.getElem?_eq_some_iff.1 ho).1
    rcases hI with ⟨hl, hx, xs, rfl, hxs⟩ | ⟨hfull, _⟩
    rotate_left
    · rw [hfull i hil] at hun; cases hun
    have hon : ∀ j, onB' .any ops i j = true → listed.getD j false = true := fun j hj => by
      obtain ⟨o', ho', e, he, hb, hk⟩ := onB_spec hj
      have : o = o' := Option.some.inj (ho.symm.trans ho')
      subst this
      rw [← hk]; exact hdep e he hb
    by_cases hi' : i = l
    · subst hi'
      have hdone : ∀ j, j < i → listed.getD j false = true := fun j hj => hon j (hall j hj)
      have hfin : ∀ j, j < i + 1 → (listed.setIfInBounds i true).getD j true = true := fun j hj => by
        by_cases hji : j = i
        · subst hji
          exact getD_false_true (getD_set_self hun)
        · rw [getD_set_other true (Ne.symm hji)]
          exact getD_false_true (hdone j (by omega))
      have h2 := hlast o ho xs w hx (fun j hj => hxs j hj (hdone j hj)) (fun a' w' => (listed.setIfInBounds i true).size = i + 1 ∧ (((listed.setIfInBounds i true).getD i true = false ∧ Ext W0 w' ∧ ∃ xs, a' = fr xs ∧ ∀ j, j < i → (listed.setIfInBounds i true).getD j false = true → T j (xs j) w') ∨ ((∀ j, j < i + 1 → (listed.setIfInBounds i true).getD j true = true) ∧ Q .normal a' w'))) (fun a' w' hq => ⟨by simpa using hsz, .inr ⟨hfin, hq⟩⟩)
      unfold wpOp
      rw [ho]
      simp only
      split
      · rename_i hw'; rw [if_pos hw'] at h2; exact .inl h2
      · rename_i hw'; rw [if_neg hw'] at h2; exact h2
    · have hil' : i < l := by omega
      obtain ⟨hp, h1⟩ := hstep i hil' o ho
      have h2 := h1 xs w hx (fun j hj => by
        by_cases hjl : j < l
        · exact hxs j hjl (hon j hj)
        · have h3 := getD_false_true (hon j hj)
          have h4 : j < listed.size := by
            rcases Nat.lt_or_ge j listed.size with h' | h'
            · exact h'
            · have := hon j hj; simp [Array.getElem?_eq_none h'] at this
          obtain rfl : j = l := by omega
          rw [hl] at h3; cases h3) (fun a' w' => (listed.setIfInBounds i true).size = l + 1 ∧ (((listed.setIfInBounds i true).getD l true = false ∧ Ext W0 w' ∧ ∃ xs, a' = fr xs ∧ ∀ j, j < l → (listed.setIfInBounds i true).getD j false = true → T j (xs j) w') ∨ ((∀ j, j < l + 1 → (listed.setIfInBounds i true).getD j true = true) ∧ Q .normal a' w'))) (fun v w' he hv => by
        refine ⟨by simpa using hsz, .inl ⟨by rw [getD_set_other true hi']; exact hl, hx.trans he, upd xs i v, hp xs v, fun j hj hl' => ?_⟩⟩
        by_cases hji : j = i
        · subst hji; rw [upd_self]; exact hv
        · rw [upd_ne xs v hji]
          rw [getD_set_other false (Ne.symm hji)] at hl'
          exact hT j _ _ _ hj he (hxs j hj hl'))
      unfold wpOp
      rw [ho]
      simp only
      split
      · rename_i hw'; rw [if_pos hw'] at h2; exact .inl h2
      · rename_i hw'; rw [if_neg hw'] at h2; exact h2
  · rintro listed a w hr ⟨hsz, hI⟩
    rcases hI with ⟨hl, _, xs, _, _⟩ | ⟨_, hq⟩
    · exfalso
      have hle : ∀ i, i < l + 1 → listed.getD i true = false → False := by
        intro i
        induction i using Nat.strongRecOn with
        | ind i ih =>
          intro hil hun
          obtain ⟨o, ho⟩ : ∃ o, ops[i]? = some o := ⟨ops[i]'(by omega), by rw [Array.getElem?_eq_getElem (by omega)]⟩
          by_cases hd : ∀ e ∈ o.after, Region.binds .any e = true → listed.getD e.on false = true
          · have : i ∈ Region.ready .any ops listed := mem_ready.2 ⟨hun, o, ho, hd⟩
            rw [hr] at this; cases this
          · simp only [Classical.not_forall] at hd
            obtain ⟨e, he, hb, hne⟩ := hd
            have hlt := slBackB_spec hback ho e he hb
            refine ih e.on hlt (by omega) ?_
            have h4 : e.on < listed.size := by omega
            simp [h4] at hne ⊢
            exact hne
      exact hle l (by omega) hl
    · exact hq
/- the frame: some slots of a given frame written anew -/
def putAll : Array Value → List Nat → (Nat → Value) → Nat → Array Value
  | t, [], _, _ => t
  | t, d :: ds, xs, i => putAll (t.setIfInBounds d (xs i)) ds xs (i + 1)
def frOf (a : Act) (ds : List Nat) (xs : Nat → Value) : Act := { a with tmps := putAll a.tmps ds xs 0 }
theorem putAll_size : ∀ (ds : List Nat) (t : Array Value) (xs : Nat → Value) (i : Nat), (putAll t ds xs i).size = t.size
  | [], _, _, _ => rfl
  | d :: ds, t, xs, i => by unfold putAll; rw [putAll_size ds]; simp
theorem putAll_other : ∀ (ds : List Nat) (t : Array Value) (xs : Nat → Value) (i : Nat) {k : Nat}, k ∉ ds → (putAll t ds xs i)[k]? = t[k]?
  | [], _, _, _, _, _ => rfl
  | d :: ds, t, xs, i, k, h => by
    unfold putAll
    rw [putAll_other ds _ _ _ (fun h' => h (List.mem_cons_of_mem _ h'))]
    rw [Array.getElem?_setIfInBounds_ne (fun e => h (by rw [e]; exact List.mem_cons_self))]
theorem putAll_at : ∀ (ds : List Nat) (t : Array Value) (xs : Nat → Value) (i j : Nat) {d : Nat}, ds.Nodup → ds[j]? = some d → d < t.size → (putAll t ds xs i)[d]? = some (xs (i + j))
  | [], _, _, _, _, _, _, h, _ => by simp at h
  | d' :: ds, t, xs, i, 0, d, hn, h, hs => by
    obtain rfl : d' = d := by simpa using h
    unfold putAll
    rw [putAll_other ds _ _ _ (List.nodup_cons.1 hn).1]
    simp [hs]
  | d' :: ds, t, xs, i, j + 1, d, hn, h, hs => by
    unfold putAll
    rw [putAll_at ds _ xs (i + 1) j (List.nodup_cons.1 hn).2 (by simpa using h) (by simpa using hs)]
    congr 2; omega
theorem putAll_set : ∀ (ds : List Nat) (t : Array Value) (xs : Nat → Value) (i j : Nat) {d : Nat} (v : Value), ds.Nodup → ds[j]? = some d → (∀ d ∈ ds, d < t.size) → (putAll t ds xs i).setIfInBounds d v = putAll t ds (upd xs (i + j) v) i := by
  intro ds t xs i j d v hn h hs
  have hd : d < t.size := hs d (List.mem_of_getElem? h)
  apply Array.ext_getElem?
  intro k
  by_cases hk : k = d
  · subst hk
    rw [putAll_at ds t _ i j hn h hd, upd_self]
    rw [Array.getElem?_setIfInBounds]
    simp [putAll_size, hd]
  · rw [Array.getElem?_setIfInBounds_ne (Ne.symm hk)]
    by_cases hm : k ∈ ds
    · obtain ⟨q, hq⟩ := List.mem_iff_getElem?.1 hm
      rw [putAll_at ds t _ i q hn hq (hs k hm), putAll_at ds t _ i q hn hq (hs k hm)]
      rw [upd_ne]
      intro e
      have : q = j := by omega
      subst this
      rw [hq] at h
      exact hk (Option.some.inj h)
    · rw [putAll_other ds t _ i hm, putAll_other ds t _ i hm]
theorem putAll_same (ds : List Nat) (t : Array Value) (xs : Nat → Value) (hn : ds.Nodup) (hs : ∀ d ∈ ds, d < t.size) (h : ∀ j d, ds[j]? = some d → t.getD d undef = xs j) : putAll t ds xs 0 = t := by
  apply Array.ext_getElem?
  intro k
  by_cases hm : k ∈ ds
  · obtain ⟨q, hq⟩ := List.mem_iff_getElem?.1 hm
    have hk := hs k hm
    rw [putAll_at ds t xs 0 q hn hq hk, Nat.zero_add, ← h q k hq]
    simp [hk]
  · rw [putAll_other ds t xs 0 hm]
def StepB (P : Program) (ops : Array Oper) (Q : Exit → Act → World → Prop) (a : Act) (ds : List Nat) (W0 : World) (T : Nat → Value → World → Prop) (i : Nat) : Prop :=
  ∀ o, ops[i]? = some o → ∀ b w, Ext W0 w → (∀ k, ds.contains k = false → b.eval (.tmp k) = a.eval (.tmp k)) → (∀ j d, ds[j]? = some d → onB' .any ops i j = true → T j (b.eval (.tmp d)) w) →
    ∀ K : Act → World → Prop, (∀ v w', Ext w w' → T i v w' → K (b.put o.dst v) w') → if Region.wanted o (yielded ops b.tmps) = true then Oper.wp P o b w K Q else K (b.put o.dst undef) w
theorem stepB_of {a : Act} {ds : List Nat} {W0 : World} {T : Nat → Value → World → Prop} {i : Nat} {o : Oper} (ho : ops[i]? = some o)
    (h : ∀ b w, Ext W0 w → (∀ k, ds.contains k = false → b.eval (.tmp k) = a.eval (.tmp k)) → (∀ j d, ds[j]? = some d → onB' .any ops i j = true → T j (b.eval (.tmp d)) w) →
      ∀ K : Act → World → Prop, (∀ v w', Ext w w' → T i v w' → K (b.put o.dst v) w') → if Region.wanted o (yielded ops b.tmps) = true then Oper.wp P o b w K Q else K (b.put o.dst undef) w) : StepB P ops Q a ds W0 T i := by
  intro o' ho'
  obtain rfl : o = o' := Option.some.inj (ho.symm.trans ho')
  exact h
theorem region_slots' {id l N : Nat} {a : Act} {w W0 : World} (ds : List Nat) (T : Nat → Value → World → Prop) (hm : P.follows .mixedOrders = true)
    (hB : (ops.size == l + 1 && (List.range l).all (fun j => onB' .any ops l j) && slBackB ops) = true) (hD : (ds.length == l && decide ds.Nodup && ds.all (fun d => decide (d < N)) && (List.range l).all (fun i => (ops[i]?).bind (·.dst) == ds[i]?)) = true) (hN : a.tmps.size = N) (hw : Ext W0 w)
    (hT : ∀ i v w w', i < l → Ext w w' → T i v w → T i v w') (hstep : ∀ i, i < l → StepB P ops Q a ds W0 T i)
    (hlast : ∀ o, ops[l]? = some o → ∀ xs w, Ext W0 w → (∀ j, j < l → T j (xs j) w) → ∀ b, b = frOf a ds xs → (∀ k, ds.contains k = false → b.eval (.tmp k) = a.eval (.tmp k)) → (∀ j d, ds[j]? = some d → b.eval (.tmp d) = xs j) →
      ∀ K : Act → World → Prop, (∀ a' w', Q .normal a' w' → K a' w') → if Region.wanted o (yielded ops b.tmps) = true then Oper.wp P o b w K Q else K (b.put o.dst undef) w) :
    (Code.region id ops true).wp P Q a w := by
  simp only [Bool.and_eq_true, beq_iff_eq, decide_eq_true_eq] at hD
  obtain ⟨⟨⟨hl, hn⟩, hlt⟩, hdst⟩ := hD
  have hs : ∀ d ∈ ds, d < a.tmps.size := fun d hd => by rw [hN]; exact of_decide_eq_true (List.all_eq_true.1 hlt d hd)
  have hev : ∀ xs j d, ds[j]? = some d → (frOf a ds xs).eval (.tmp d) = xs j := fun xs j d h => by
    show (putAll a.tmps ds xs 0).getD d undef = _
    have := putAll_at ds a.tmps xs 0 j hn h (hs d (List.mem_of_getElem? h))
    rw [Nat.zero_add] at this
    rw [Array.getD_eq_getD_getElem?, this]; rfl
  have hot : ∀ xs k, ds.contains k = false → (frOf a ds xs).eval (.tmp k) = a.eval (.tmp k) := fun xs k h => by
    show (putAll a.tmps ds xs 0).getD k undef = a.tmps.getD k undef
    rw [Array.getD_eq_getD_getElem?, Array.getD_eq_getD_getElem?, putAll_other ds a.tmps xs 0 (by simpa using h)]
  refine region_slots (l := l) (frOf a ds) (fun j => a.tmps.getD (ds.getD j 0) undef) T hm hB ?_ hw hT (fun i hi o ho => ⟨fun xs v => ?_, fun xs w hx hd K hK => ?_⟩) (fun o ho xs w hx hd K hK => hlast o ho xs w hx hd _ rfl (hot xs) (hev xs) K hK)
  · show a = { a with tmps := putAll a.tmps ds _ 0 }
    rw [putAll_same ds a.tmps _ hn hs (fun j d h => by simp [h])]
  · have h1 := List.all_eq_true.1 hdst i (List.mem_range.2 hi)
    rw [ho] at h1
    have h2 : o.dst = ds[i]? := by simpa using h1
    obtain ⟨d, hd⟩ : ∃ d, ds[i]? = some d := ⟨ds[i]'(by omega), by rw [List.getElem?_eq_getElem (by omega)]⟩
    rw [h2, hd]
    show ({ a with tmps := (putAll a.tmps ds xs 0).setIfInBounds d v } : Act) = { a with tmps := putAll a.tmps ds (upd xs i v) 0 }
    have := putAll_set ds a.tmps xs 0 i v hn hd hs
    rw [Nat.zero_add] at this
    rw [this]
  · exact hstep i hi o ho (frOf a ds xs) w hx (hot xs) (fun j d h hj => by rw [hev xs j d h]; exact hd j hj) K hK
/- the steps -/
theorem wanted_yes {o : Oper} {b : Act} {j d : Nat} (hg : o.guard = some (j, true)) (hd : (ops[j]?).bind (·.dst) = some d) (hv : b.eval (.tmp d) = .bool true) : Region.wanted o (yielded ops b.tmps) = true := by
  have h1 : b.tmps[d]? = some (.bool true) := by
    have h : b.tmps.getD d undef = .bool true := hv
    rw [Array.getD_eq_getD_getElem?] at h
    cases hc : b.tmps[d]? with
    | none => rw [hc] at h; cases h
    | some u => rw [hc] at h; simp at h; rw [h]
  unfold Region.wanted
  rw [hg]
  simp only
  unfold yielded
  rw [hd]
  simp [h1]
theorem wanted_all {o : Oper} {b : Act} (hg : o.guard = none) : Region.wanted o (yielded ops b.tmps) = true := by unfold Region.wanted; rw [hg]
theorem step_val {o : Oper} {b : Act} {w w' : World} {K : Act → World → Prop} {E : Prop} {v : Value} (hw : Region.wanted o (yielded ops b.tmps) = true) (h : (execOp b.eval o).run P w = .ok (.value v) w') (hK : K (b.put o.dst v) w') :
    if Region.wanted o (yielded ops b.tmps) = true then Oper.wp P o b w K Q else E := by
  rw [if_pos hw]
  unfold Oper.wp
  rw [h]
  exact hK
theorem step_valR {o : Oper} {b : Act} {w w' : World} {K : Act → World → Prop} {E : Prop} {v : Value} (hw : Region.wanted o (yielded ops b.tmps) = true) (h : ∀ ρ : Operand → Value, (∀ x, ρ x = b.eval x) → (∀ u, ρ (.const u) = u) → (execOp ρ o).run P w = .ok (.value v) w') (hK : K (b.put o.dst v) w') :
    if Region.wanted o (yielded ops b.tmps) = true then Oper.wp P o b w K Q else E := step_val hw (h b.eval (fun _ => rfl) (fun _ => rfl)) hK
theorem step_skipR {o : Oper} {b : Act} {w w' : World} {K : Act → World → Prop} {E : Prop} (hw : Region.wanted o (yielded ops b.tmps) = true) (h : ∀ ρ : Operand → Value, (∀ x, ρ x = b.eval x) → (∀ u, ρ (.const u) = u) → (execOp ρ o).run P w = .ok .skip w') (hK : K (b.put o.dst undef) w') :
    if Region.wanted o (yielded ops b.tmps) = true then Oper.wp P o b w K Q else E := by
  rw [if_pos hw]
  unfold Oper.wp
  rw [h b.eval (fun _ => rfl) (fun _ => rfl)]
  exact hK
theorem step_skip {o : Oper} {b : Act} {w w' : World} {K : Act → World → Prop} {E : Prop} (hw : Region.wanted o (yielded ops b.tmps) = true) (h : (execOp b.eval o).run P w = .ok .skip w') (hK : K (b.put o.dst undef) w') :
    if Region.wanted o (yielded ops b.tmps) = true then Oper.wp P o b w K Q else E := by
  rw [if_pos hw]
  unfold Oper.wp
  rw [h]
  exact hK
theorem step_callW {o : Oper} {b : Act} {w : World} {K : Act → World → Prop} {E : Prop} (hw : Region.wanted o (yielded ops b.tmps) = true)
    (f : FuncId) (xs : List Operand) (ts : Array TypeId) (hop : o.op = Op.call { callee := Callee.value (Operand.func f), args := xs.toArray, argTypes := ts })
    (fn : Func) (hf : P.funcs[f]? = some fn) (hb : fn.body.isSome = true) (hn : fn.name ≠ "runtime.NumGoroutine") (args : List Value) (hargs : xs.map b.eval = args) {R : Ending → World → Prop} (hc : Calls P f args.toArray w R)
    (hK : ∀ e w', R e w' → ∃ v, e = .returned v ∧ K (b.put o.dst v) w') : if Region.wanted o (yielded ops b.tmps) = true then Oper.wp P o b w K Q else E := by
  rw [if_pos hw]
  subst hargs
  obtain ⟨c, hb⟩ := Option.isSome_iff_exists.1 hb
  unfold Oper.wp
  simp [execOp, hop, resolve, invoke, Act.eval, callFunc, go_sem, hf, hb, hn]
  refine hc.mono ?_
  intro e w' h
  obtain ⟨v, rfl, hk⟩ := hK e w' h
  exact hk
theorem eval_const (b : Act) (v : Value) : b.eval (.const v) = v := rfl
theorem eval_func (b : Act) (g : FuncId) : b.eval (.func g) = .func (.func g) #[] #[] := rfl
end
end Go.Proofs.YtkigmpholnfkbaaGreat
