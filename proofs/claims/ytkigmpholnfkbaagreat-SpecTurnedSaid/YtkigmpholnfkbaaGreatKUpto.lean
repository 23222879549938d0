/- A region whose order is open: operations that only read may be taken first as long as one other operation (number ap, which waits for them) has not come up. No program in sight. -/
import Derived.OrdersHeld
import Derived.StillTail
import Derived.Test.YtkigmpholnfkbaaGreatKBase
namespace Go.Proofs.YtkigmpholnfkbaaGreat
open Go.RowKit
section
variable {P : Program} {md : Region.Mode} {ops : Array Oper} {Q : Exit → Act → World → Prop} {C : World → Prop} {ap : Nat}
def wpAnyU (P : Program) (md : Region.Mode) (ops : Array Oper) (Q : Exit → Act → World → Prop) (C : World → Prop) (ap : Nat) : Nat → Array Bool → Act → World → Prop
  | 0, listed, a, w => Region.ready md ops listed = [] ∧ Q .normal a w
  | fuel + 1, listed, a, w => (Region.ready md ops listed = [] → Q .normal a w) ∧
    ∀ i ∈ Region.ready md ops listed, wpOp P ops Q i (fun a' w' => ((listed.setIfInBounds i true).getD ap true = false → C w') ∧ wpAnyU P md ops Q C ap fuel (listed.setIfInBounds i true) a' w') a w
theorem any_of_U : ∀ (fuel : Nat) (listed : Array Bool) (a : Act) (w : World), wpAnyU P md ops Q C ap fuel listed a w → wpAny P md ops Q fuel listed a w
  | 0, _, _, _, h => h
  | fuel + 1, _, _, _, h => ⟨h.1, fun i hi => wpOp_mono (fun a' w' h' => any_of_U fuel _ a' w' h'.2) (h.2 i hi)⟩
def Closed (md : Region.Mode) (ops : Array Oper) (listed : Array Bool) : Prop := ∀ (j : Nat) (oj : Oper), ops[j]? = some oj → listed.getD j false = true → ∀ e ∈ oj.after, Region.binds md e = true → listed.getD e.on false = true
theorem getD_set_self {listed : Array Bool} {i : Nat} (h : listed.getD i true = false) : (listed.setIfInBounds i true).getD i false = true := by
  have hs : i < listed.size := by
    rcases Nat.lt_or_ge i listed.size with h' | h'
    · exact h'
    · simp [Array.getElem?_eq_none h'] at h
  simp [hs]
theorem getD_set_other {listed : Array Bool} {i j : Nat} (d : Bool) (h : i ≠ j) : (listed.setIfInBounds i true).getD j d = listed.getD j d := by
  simp only [Array.getD_eq_getD_getElem?, Array.getElem?_setIfInBounds_ne h]
theorem getD_false_true {listed : Array Bool} {i : Nat} (h : listed.getD i false = true) : listed.getD i true = true := by
  rcases Nat.lt_or_ge i listed.size with h' | h'
  · simp [h'] at h ⊢; exact h
  · simp [Array.getElem?_eq_none h'] at h
theorem Closed.set {listed : Array Bool} {i : Nat} (h : Closed md ops listed) (hi : i ∈ Region.ready md ops listed) : Closed md ops (listed.setIfInBounds i true) := by
  obtain ⟨hun, oi, hoi, hall⟩ := mem_ready.1 hi
  intro j oj hoj hl e he hb
  by_cases hij : i = j
  · subst hij
    have : oi = oj := Option.some.inj (hoi.symm.trans hoj)
    subst this
    have h1 := hall e he hb
    by_cases hie : i = e.on
    · rw [← hie] at h1 ⊢; exact getD_set_self hun
    · rw [getD_set_other false hie]; exact h1
  · rw [getD_set_other false hij] at hl
    have h1 := h j oj hoj hl e he hb
    by_cases hie : i = e.on
    · rw [← hie]; exact getD_set_self hun
    · rw [getD_set_other false hie]; exact h1
/- a way from an operation to one that it waits for -/
def onB' (md : Region.Mode) (ops : Array Oper) (j k : Nat) : Bool := match ops[j]? with
  | some o => o.after.any fun e => Region.binds md e && e.on == k
  | none => false
def pathB (md : Region.Mode) (ops : Array Oper) : List Nat → Bool
  | j :: k :: r => onB' md ops j k && pathB md ops (k :: r)
  | _ => true
theorem onB_spec {j k : Nat} (h : onB' md ops j k = true) : ∃ o, ops[j]? = some o ∧ ∃ e ∈ o.after, Region.binds md e = true ∧ e.on = k := by
  unfold onB' at h
  split at h
  · rename_i o ho
    obtain ⟨e, he, h1⟩ := Array.any_eq_true'.1 h
    rw [Bool.and_eq_true] at h1
    exact ⟨o, ho, e, he, h1.1, by simpa using h1.2⟩
  · cases h
theorem path_listed {listed : Array Bool} (hc : Closed md ops listed) : ∀ (r : List Nat) (j i : Nat), pathB md ops (j :: r) = true → (j :: r).getLast? = some i → listed.getD j false = true → listed.getD i false = true
  | [], j, i, _, hl, h => by simp at hl; rw [← hl]; exact h
  | k :: r, j, i, hp, hl, h => by
    simp only [pathB, Bool.and_eq_true] at hp
    obtain ⟨o, ho, e, he, hb, hk⟩ := onB_spec hp.1
    exact path_listed hc r k i hp.2 (by simpa using hl) (by rw [← hk]; exact hc j o ho h e he hb)
theorem path_ready {listed : Array Bool} (hc : Closed md ops listed) {j k i : Nat} {r : List Nat} (hp : pathB md ops (j :: k :: r) = true) (hl : (j :: k :: r).getLast? = some i) (hj : j ∈ Region.ready md ops listed) : listed.getD i false = true := by
  simp only [pathB, Bool.and_eq_true] at hp
  obtain ⟨o, ho, e, he, hb, hk⟩ := onB_spec hp.1
  obtain ⟨_, o', ho', hall⟩ := mem_ready.1 hj
  have : o = o' := Option.some.inj (ho.symm.trans ho')
  subst this
  exact path_listed hc r k i hp.2 (by simpa using hl) (by rw [← hk]; exact hall e he hb)
theorem U_first {i : Nat} {oi : Oper} {v : Value} {k : Nat} {r : List Nat} (hi : ops[i]? = some oi) (hsel : ∀ (j : Nat) (o : Oper) cs b, ops[j]? = some o → o.op ≠ .select cs b)
    (hQ : ∀ c a w, Q (.panic c) (a.put oi.dst v) w → Q (.panic c) a w) (hne : i ≠ ap) (hp : pathB md ops (ap :: k :: r) = true) (hpl : (ap :: k :: r).getLast? = some i) :
    ∀ (fuel : Nat) (listed : Array Bool) (a : Act) (w : World),
      (∀ j oj, ops[j]? = some oj → j ≠ i → listed.getD j true = false → (∀ e ∈ oj.after, Region.binds md e = true → e.on ≠ i) → oi.apart ops oj = true) →
      i ∈ Region.ready md ops listed → YieldsIf P ops C oi v a → C w → Closed md ops listed → listed.getD ap true = false →
      wpAnyU P md ops Q C ap fuel (listed.setIfInBounds i true) (a.put oi.dst v) w → wpAnyU P md ops Q C ap (fuel + 1) listed a w := by
  intro fuel
  induction fuel with
  | zero =>
    intro listed a w _ hr hy hS hc ha H
    refine ⟨fun h => (by rw [h] at hr; cases hr), fun j hj => ?_⟩
    by_cases hji : j = i
    · subst hji; exact hy.wpOp hi hS ⟨fun _ => hS, H⟩
    · have := ready_mono hj hji
      rw [H.1] at this
      cases this
  | succ fuel ih =>
    intro listed a w hfree hr hy hS hc ha H
    refine ⟨fun h => (by rw [h] at hr; cases hr), fun j hj => ?_⟩
    by_cases hji : j = i
    · subst hji; exact hy.wpOp hi hS ⟨fun _ => hS, H⟩
    · have h1 := H.2 j (ready_mono hj hji)
      obtain ⟨hjun, oj, hoj, hall⟩ := mem_ready.1 hj
      have h0 := (mem_ready.1 hr).1
      have hjap : j ≠ ap := by
        rintro rfl
        have := getD_false_true (path_ready hc hp hpl hj)
        rw [h0] at this; cases this
      have ha' : (listed.setIfInBounds j true).getD ap true = false := by rw [getD_set_other true hjap]; exact ha
      have ha2 : ((listed.setIfInBounds i true).setIfInBounds j true).getD ap true = false := by rw [getD_set_other true hjap, getD_set_other true hne]; exact ha
      have hnot : ∀ e ∈ oj.after, Region.binds md e = true → e.on ≠ i := fun e he hb heq => by
        have h1 := hall e he hb
        rw [heq] at h1
        have := getD_false_true h1
        rw [h0] at this; cases this
      have h2 := wpOp_putIf hoj (hfree j oj hoj hji hjun hnot) (fun cs b => hsel i oi cs b hi) (fun cs b => hsel j oj cs b hoj) hQ hy h1
      have hfree' : ∀ k ok, ops[k]? = some ok → k ≠ i → (listed.setIfInBounds j true).getD k true = false →
          (∀ e ∈ ok.after, Region.binds md e = true → e.on ≠ i) → oi.apart ops ok = true := fun k ok hk hki hun hno => by
        refine hfree k ok hk hki ?_ hno
        by_cases hjk : j = k
        · subst hjk; exact hjun
        · rw [getD_set_other true hjk] at hun; exact hun
      refine wpOp_mono (fun a' w' h3 => ⟨fun _ => h3.2.1 ha2, ih (listed.setIfInBounds j true) a' w' hfree' (ready_mono hr (Ne.symm hji)) h3.1 (h3.2.1 ha2) (hc.set hj) ha' ?_⟩) h2
      rw [Array.setIfInBounds_comm _ _ hji]
      exact h3.2.2
theorem U_first0 {i : Nat} {oi : Oper} {v : Value} (hi : ops[i]? = some oi) (hsel : ∀ (j : Nat) (o : Oper) cs b, ops[j]? = some o → o.op ≠ .select cs b)
    (hQ : ∀ c a w, Q (.panic c) (a.put oi.dst v) w → Q (.panic c) a w) (hne : i ≠ ap) :
    ∀ (fuel : Nat) (listed : Array Bool) (a : Act) (w : World),
      (∀ j oj, ops[j]? = some oj → j ≠ i → listed.getD j true = false → (∀ e ∈ oj.after, Region.binds md e = true → e.on ≠ i) → oi.apart ops oj = true) →
      i ∈ Region.ready md ops listed → YieldsIf P ops (fun _ => True) oi v a → (listed.getD ap true = false → C w) →
      wpAnyU P md ops Q C ap fuel (listed.setIfInBounds i true) (a.put oi.dst v) w → wpAnyU P md ops Q C ap (fuel + 1) listed a w := by
  intro fuel
  induction fuel with
  | zero =>
    intro listed a w _ hr hy hS H
    refine ⟨fun h => (by rw [h] at hr; cases hr), fun j hj => ?_⟩
    by_cases hji : j = i
    · subst hji; exact hy.wpOp hi trivial ⟨fun h => hS (by rwa [getD_set_other true hne] at h), H⟩
    · have := ready_mono hj hji
      rw [H.1] at this
      cases this
  | succ fuel ih =>
    intro listed a w hfree hr hy hS H
    refine ⟨fun h => (by rw [h] at hr; cases hr), fun j hj => ?_⟩
    by_cases hji : j = i
    · subst hji; exact hy.wpOp hi trivial ⟨fun h => hS (by rwa [getD_set_other true hne] at h), H⟩
    · have h1 := H.2 j (ready_mono hj hji)
      obtain ⟨hjun, oj, hoj, hall⟩ := mem_ready.1 hj
      have h0 := (mem_ready.1 hr).1
      have hnot : ∀ e ∈ oj.after, Region.binds md e = true → e.on ≠ i := fun e he hb heq => by
        have h1 := hall e he hb
        rw [heq] at h1
        have := getD_false_true h1
        rw [h0] at this; cases this
      have h2 := wpOp_putIf hoj (hfree j oj hoj hji hjun hnot) (fun cs b => hsel i oi cs b hi) (fun cs b => hsel j oj cs b hoj) hQ hy h1
      have hfree' : ∀ k ok, ops[k]? = some ok → k ≠ i → (listed.setIfInBounds j true).getD k true = false →
          (∀ e ∈ ok.after, Region.binds md e = true → e.on ≠ i) → oi.apart ops ok = true := fun k ok hk hki hun hno => by
        refine hfree k ok hk hki ?_ hno
        by_cases hjk : j = k
        · subst hjk; exact hjun
        · rw [getD_set_other true hjk] at hun; exact hun
      have e2 : ((listed.setIfInBounds i true).setIfInBounds j true).getD ap true = (listed.setIfInBounds j true).getD ap true := by
        rw [Array.setIfInBounds_comm _ _ (Ne.symm hji), getD_set_other true hne]
      refine wpOp_mono (fun a' w' h3 => ⟨fun h => h3.2.1 (by rw [e2]; exact h), ih (listed.setIfInBounds j true) a' w' hfree' (ready_mono hr (Ne.symm hji)) h3.1 (fun h => h3.2.1 (by rw [e2]; exact h)) ?_⟩) h2
      rw [Array.setIfInBounds_comm _ _ hji]
      exact h3.2.2
def closedB (md : Region.Mode) (ops : Array Oper) (listed : Array Bool) : Bool := (List.range ops.size).all fun j => !listed.getD j false || match ops[j]? with
  | some o => o.after.all fun e => !Region.binds md e || listed.getD e.on false
  | none => true
theorem closedB_spec {listed : Array Bool} (h : closedB md ops listed = true) : Closed md ops listed := by
  intro j oj hoj hl e he hb
  have hj : j < ops.size := (Array.getElem?_eq_some_iff.1 hoj).1
  have h1 := List.all_eq_true.1 h j (List.mem_range.2 hj)
  rw [hl, hoj] at h1
  simp only [Bool.not_true, Bool.false_or] at h1
  have h2 := Array.all_eq_true'.1 h1 e he
  rw [hb] at h2
  simpa using h2
/- the moves -/
theorem U_take {i : Nat} {oi : Oper} {v : Value} {fuel : Nat} {listed : Array Bool} {a : Act} {w : World} {k : Nat} {r : List Nat} (hi : ops[i]? = some oi)
    (hB : (Region.noSelect ops && Region.free md ops listed i && (Region.ready md ops listed).contains i && decide (i ≠ ap) && pathB md ops (ap :: k :: r) && ((ap :: k :: r).getLast? == some i) && closedB md ops listed && !listed.getD ap true) = true)
    (hQ : ∀ c a w, Q (.panic c) (a.put oi.dst v) w → Q (.panic c) a w) (hy : YieldsIf P ops C oi v a) (hC : C w)
    (h : wpAnyU P md ops Q C ap fuel (listed.setIfInBounds i true) (a.put oi.dst v) w) : wpAnyU P md ops Q C ap (fuel + 1) listed a w := by
  simp only [Bool.and_eq_true, decide_eq_true_eq, Bool.not_eq_true'] at hB
  obtain ⟨⟨⟨⟨⟨⟨⟨h1, h2⟩, h3⟩, h4⟩, h5⟩, h6⟩, h7⟩, h8⟩ := hB
  exact U_first hi (Region.noSelect_spec h1) hQ h4 h5 (by simpa using h6) fuel listed a w (Region.free_spec hi h2) (by simpa using h3) hy hC (closedB_spec h7) h8 h
theorem U_take0 {i : Nat} {oi : Oper} {v : Value} {fuel : Nat} {listed : Array Bool} {a : Act} {w : World} (hi : ops[i]? = some oi)
    (hB : (Region.noSelect ops && Region.free md ops listed i && (Region.ready md ops listed).contains i && decide (i ≠ ap)) = true)
    (hQ : ∀ c a w, Q (.panic c) (a.put oi.dst v) w → Q (.panic c) a w) (hy : YieldsIf P ops (fun _ => True) oi v a) (hC : C w)
    (h : wpAnyU P md ops Q C ap fuel (listed.setIfInBounds i true) (a.put oi.dst v) w) : wpAnyU P md ops Q C ap (fuel + 1) listed a w := by
  simp only [Bool.and_eq_true, decide_eq_true_eq] at hB
  obtain ⟨⟨⟨h1, h2⟩, h3⟩, h4⟩ := hB
  exact U_first0 hi (Region.noSelect_spec h1) hQ h4 fuel listed a w (Region.free_spec hi h2) (by simpa using h3) hy (fun _ => hC) h
theorem U_one {i : Nat} {o : Oper} {fuel : Nat} {listed : Array Bool} {a : Act} {w : World} (ho : ops[i]? = some o) (hr : (Region.ready md ops listed == [i]) = true)
    (h : ∀ K : Act → World → Prop, (∀ a' w', ((listed.setIfInBounds i true).getD ap true = false → C w') → wpAnyU P md ops Q C ap fuel (listed.setIfInBounds i true) a' w' → K a' w') →
      if Region.wanted o (yielded ops a.tmps) = true then Oper.wp P o a w K Q else K (a.put o.dst undef) w) : wpAnyU P md ops Q C ap (fuel + 1) listed a w := by
  have hr' : Region.ready md ops listed = [i] := by simpa using hr
  refine ⟨fun h0 => (by rw [hr'] at h0; cases h0), fun j hj => ?_⟩
  rw [hr'] at hj
  obtain rfl : j = i := by simpa using hj
  have := h (fun a' w' => ((listed.setIfInBounds j true).getD ap true = false → C w') ∧ wpAnyU P md ops Q C ap fuel (listed.setIfInBounds j true) a' w') (fun a' w' h1 h2 => ⟨h1, h2⟩)
  unfold wpOp
  rw [ho]
  simp only
  split
  · rename_i hw; rw [if_pos hw] at this; exact .inl this
  · rename_i hw; rw [if_neg hw] at this; exact this
theorem U_done {listed : Array Bool} {a : Act} {w : World} (hr : (Region.ready md ops listed).isEmpty = true) (h : Q .normal a w) : wpAnyU P md ops Q C ap 0 listed a w := ⟨by simpa using hr, h⟩
theorem region_U {id : Nat} {a : Act} {w : World} (ap : Nat) (C : World → Prop) (hm : P.follows .mixedOrders = true) (h : wpAnyU P .any ops Q C ap ops.size (Array.replicate ops.size false) a w.drew) : (Code.region id ops true).wp P Q a w :=
  wp_region_any hm (any_of_U _ _ _ _ h)
theorem region_U' {id n : Nat} {a : Act} {w : World} (ap : Nat) (C : World → Prop) (hm : P.follows .mixedOrders = true) (hs : (ops.size == n) = true) (h : wpAnyU P .any ops Q C ap n (Array.replicate n false) a w.drew) : (Code.region id ops true).wp P Q a w := by
  have : ops.size = n := by simpa using hs
  subst this
  exact region_U ap C hm h
end
end Go.Proofs.YtkigmpholnfkbaaGreat
