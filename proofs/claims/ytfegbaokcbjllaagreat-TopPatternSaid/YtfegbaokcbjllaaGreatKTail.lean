/- A region whose order is open: its first n operations only read (or call what only makes memory), the others follow one by one: one walk in the text's order serves every order. -/
import Derived.StillTail
import Derived.Deep.Quiet
import Derived.Test.YtfegbaokcbjllaaGreatKBase
namespace Go.Proofs.YtfegbaokcbjllaaGreat
open Go.RowKit
/- the first n operations wait for earlier ones alone -/
def backB (ops : Array Oper) (n : Nat) : Bool :=
 (List.range n).all fun i => match ops[i]? with
  |some o => (o.after.all fun e => decide (e.on < i)) && (match o.guard with | none => true | some (j, _) => decide (j < i))
  |none => false
theorem backB_spec {ops : Array Oper} {n i : Nat} (h : backB ops n = true) (hi : i < n) :
  ∃ o, ops[i]? = some o ∧ (∀ e ∈ o.after, e.on < i) ∧ (∀ j b, o.guard = some (j, b) → j < i) := by
 have h1 := List.all_eq_true.1 h i (List.mem_range.2 hi)
 cases ho : ops[i]? with
 |none => rw [ho] at h1; cases h1
 |some o =>
  rw [ho] at h1
  simp only [Bool.and_eq_true] at h1
  refine ⟨o, rfl, fun e he => ?_, fun j b hg => ?_⟩
  ·have := Array.all_eq_true'.1 h1.1 e he
   simpa using this
  ·have := h1.2
   rw [hg] at this
   simpa using this
section
variable {P : Program} {ops : Array Oper} {md : Region.Mode} {C : World → Prop}
theorem any_more {Q : Exit → Act → World → Prop} : ∀ (f : Nat) (listed : Array Bool) (a : Act) (w : World), wpAny P md ops Q f listed a w → wpAny P md ops Q (f + 1) listed a w
 |0, _, _, _, h => ⟨fun _ => h.2, fun i hi => by rw [h.1] at hi; cases hi⟩
 |f + 1, _, _, _, h => ⟨h.1, fun i hi => wpOp_mono (fun a' w' h' => any_more f _ a' w' h') (h.2 i hi)⟩
theorem any_le {Q : Exit → Act → World → Prop} {listed : Array Bool} {a : Act} {w : World} {f : Nat} (h : wpAny P md ops Q f listed a w) (d : Nat) : wpAny P md ops Q (d + f) listed a w := by
 induction d with
 |zero => rw [Nat.zero_add]; exact h
 |succ d ih => rw [show d + 1 + f = (d + f) + 1 from by omega]; exact any_more _ _ _ _ ih
theorem head_get {n i : Nat} (hi : i < n) : (ops.extract 0 n)[i]? = ops[i]? := by
 rw [Array.getElem?_extract]
 split
 ·simp
 ·rename_i h
  rw [Array.getElem?_eq_none (by omega)]
theorem head_wanted {n i : Nat} {o : Oper} {a : Act} (hb : backB ops n = true) (hi : i < n) (ho : ops[i]? = some o) :
  Region.wanted o (yielded (ops.extract 0 n) a.tmps) = Region.wanted o (yielded ops a.tmps) := by
 obtain ⟨o', ho', _, hg⟩ := backB_spec hb hi
 have : o' = o := Option.some.inj (ho'.symm.trans ho)
 subst this
 unfold Region.wanted
 cases hgd : o'.guard with
 |none => rfl
 |some p =>
  obtain ⟨j, b⟩ := p
  have hj := hg j b hgd
  simp only [yielded, head_get (ops := ops) (n := n) (i := j) (by omega)]
theorem head_op {n i : Nat} {a : Act} {w : World} {K : Act → World → Prop} {Q : Exit → Act → World → Prop} (hb : backB ops n = true) (hi : i < n) (h : wpOp P (ops.extract 0 n) Q i K a w) : wpOp P ops Q i K a w := by
 unfold wpOp at *
 rw [head_get hi] at h
 split
 ·rename_i ho; rw [ho] at h; exact h
 ·rename_i o ho
  rw [ho] at h
  simp only at h
  rw [head_wanted hb hi ho] at h
  exact h
theorem listed_get {listed : Array Bool} {n i : Nat} (hi : i < n) (d : Bool) : (listed.extract 0 n).getD i d = listed.getD i d := by
 simp only [Array.getD_eq_getD_getElem?]
 rw [Array.getElem?_extract]
 split
 ·simp
 ·rename_i h
  rw [Array.getElem?_eq_none (by omega)]
theorem head_ready {n i : Nat} {listed : Array Bool} (hb : backB ops n = true) (hi : i < n) :
  i ∈ Region.ready md (ops.extract 0 n) (listed.extract 0 n) ↔ i ∈ Region.ready md ops listed := by
 rw [mem_ready, mem_ready, listed_get hi, head_get hi]
 obtain ⟨o', ho', he, _⟩ := backB_spec hb hi
 constructor
 ·rintro ⟨h0, o, ho, h1⟩
  have : o' = o := Option.some.inj (ho'.symm.trans ho)
  subst this
  exact ⟨h0, o', ho, fun e hm hb' => by have := h1 e hm hb'; rwa [listed_get (by have := he e hm; omega)] at this⟩
 ·rintro ⟨h0, o, ho, h1⟩
  have : o' = o := Option.some.inj (ho'.symm.trans ho)
  subst this
  exact ⟨h0, o', ho, fun e hm hb' => by rw [listed_get (by have := he e hm; omega)]; exact h1 e hm hb'⟩
theorem set_extract {listed : Array Bool} {n i : Nat} (_ : i < n) : (listed.setIfInBounds i true).extract 0 n = (listed.extract 0 n).setIfInBounds i true := by
 apply Array.ext
 ·simp
 ·intro j h1 h2
  have hj : j < listed.size := by simp at h1; omega
  have hjn : j < n := by simp at h1; omega
  by_cases hij : i = j
  ·subst hij; simp
  ·rw [Array.getElem_extract, Array.getElem_setIfInBounds_ne (by simpa using hj) (by omega), Array.getElem_setIfInBounds_ne (by simp; omega) hij, Array.getElem_extract]
theorem head_done {n : Nat} {listed : Array Bool} (hb : backB ops n = true) (hr : Region.ready md (ops.extract 0 n) (listed.extract 0 n) = []) : ∀ i, i < n → listed.getD i true = true := by
 intro i
 induction i using Nat.strongRecOn with
 |_ i ih =>
  intro hi
  cases hl : listed.getD i true with
  |true => rfl
  |false =>
   obtain ⟨o, ho, he, _⟩ := backB_spec hb hi
   have hin : i ∈ Region.ready md (ops.extract 0 n) (listed.extract 0 n) := by
    rw [head_ready hb hi, mem_ready]
    refine ⟨hl, o, ho, fun e hm _ => ?_⟩
    have h1 := he e hm
    have h2 := ih e.on h1 (by omega)
    have hsz : i < listed.size := by
     rcases Nat.lt_or_ge i listed.size with h | h
     ·exact h
     ·simp [Array.getElem?_eq_none h] at hl
    have hs2 : e.on < listed.size := by omega
    simp [hs2] at h2 ⊢; exact h2
   rw [hr] at hin; cases hin
def fullAt (m n : Nat) : Array Bool := Array.ofFn (n := m) fun i => decide (i.val < n)
theorem split_any {n : Nat} {Q : Exit → Act → World → Prop} {l : List Oper} (hops : ops = l.toArray) (hb : backB ops n = true) (hs : Region.sinkB md ops n = true) (hc : Region.chainB md ops n = true) (hn : n < ops.size)
  (hq : Region.seqB md ops (ops.size - n) n (fullAt ops.size n) = true) :
  ∀ (f : Nat) (listed : Array Bool) (a : Act) (w : World), HeadInv md ops n listed → C w →
   wpAnyQ P md (ops.extract 0 n) C (fun a' => ∀ w', C w' → wpList P ops Q (l.drop n) a' w') f (listed.extract 0 n) a → wpAny P md ops Q (f + (ops.size - n)) listed a w := by
 have tailrun : ∀ (listed : Array Bool) (a : Act) (w : World), HeadInv md ops n listed → Region.ready md (ops.extract 0 n) (listed.extract 0 n) = [] → wpList P ops Q (l.drop n) a w → wpAny P md ops Q (ops.size - n) listed a w := by
  intro listed a w inv hr h
  have hall := head_done hb hr
  have hfull : listed = fullAt ops.size n := by
   apply Array.ext
   ·rw [inv.size]; simp [fullAt]
   ·intro i h1 h2
    simp only [fullAt, Array.getElem_ofFn]
    rcases Nat.lt_or_ge i n with hi | hi
    ·have := hall i hi
     simp [h1] at this
     rw [this]; simp [hi]
    ·have := inv.tail i hi (by rw [← inv.size]; exact h1)
     simp [h1] at this
     rw [this]; simp; omega
  have hdl : (l.drop n).length = ops.size - n := by rw [hops]; simp
  have := wpAny_of_seq (md := md) (Q' := Q) (P := P) (ops := ops) (l.drop n) n listed a w (fun j => by rw [hops]; simp [List.getElem?_drop]) (by rw [hdl, hfull]; exact hq) h
  rwa [hdl] at this
 intro f
 induction f with
 |zero =>
  intro listed a w inv hw h
  rw [Nat.zero_add]
  exact tailrun listed a w inv h.1 (h.2 w hw)
 |succ f ih =>
  intro listed a w inv hw h
  by_cases hr : Region.ready md (ops.extract 0 n) (listed.extract 0 n) = []
  ·exact any_le (tailrun listed a w inv hr (h.1 hr w hw)) (f + 1)
  ·obtain ⟨i0, hi0⟩ := List.exists_mem_of_ne_nil _ hr
   have hi0n : i0 < n := by
    obtain ⟨_, o, ho, _⟩ := mem_ready.1 hi0
    have := (Array.getElem?_eq_some_iff.1 ho).1
    simp at this; omega
   have hun : listed.getD i0 true = false := by
    have := (mem_ready.1 hi0).1
    rwa [listed_get hi0n] at this
   rw [show f + 1 + (ops.size - n) = (f + (ops.size - n)) + 1 from by omega]
   refine ⟨fun he => ?_, fun i hi => ?_⟩
   ·rw [head_ready hb hi0n, he] at hi0; cases hi0
   ·have hin : i < n := by
     rcases Nat.lt_or_ge i n with h' | h'
     ·exact h'
     ·exact absurd hi (tail_waits hs hc hn inv _ i0 rfl hi0n hun i h')
    have h1 := h.2 i ((head_ready hb hin).2 hi)
    refine head_op hb hin (wpOp_of_qOp hw (fun a' w' hw' hk => ?_) h1)
    refine ih _ a' w' (inv.set hi hin) hw' ?_
    rw [set_extract hin]; exact hk
def tailB (l : List Oper) (n : Nat) : Bool :=
 decide (n < l.length) && backB l.toArray n && Region.sinkB .any l.toArray n && Region.chainB .any l.toArray n && Region.seqB .any l.toArray (l.toArray.size - n) n (fullAt l.toArray.size n) && Region.lexB .any (l.take n).toArray
/- the theorem: the first n in the class 'behind w', the others from whatever world of the class -/
theorem region_tail {id : Nat} {Q : Exit → Act → World → Prop} {a : Act} {w : World} {l : List Oper} (n : Nat) (hm : P.follows .mixedOrders = true) (hB : tailB l n = true)
  (h : wpQuiet P (l.take n).toArray (fun w' => ∃ z : After w, w' = z.val) (fun a' => ∀ w', (∃ z : After w, w' = z.val) → wpList P l.toArray Q (l.drop n) a' w') (l.take n) a) : (Code.region id l.toArray true).wp P Q a w := by
 simp only [tailB, Bool.and_eq_true, decide_eq_true_eq, Region.lexB] at hB
 obtain ⟨⟨⟨⟨⟨hn, hb⟩, hs⟩, hc⟩, hq⟩, hl⟩ := hB
 have hex : l.toArray.extract 0 n = (l.take n).toArray := by simp
 have inv0 : HeadInv .any l.toArray n (Array.replicate l.toArray.size false) :=
  ⟨by simp, fun j oj _ hl => (by rw [getD_replicate_false] at hl; cases hl), fun t _ ht => getD_in (by simpa using ht) (getD_replicate_false _ _)⟩
 refine wp_region_any hm ?_
 have H := split_any (P := P) (C := fun w' => ∃ z : After w, w' = z.val) (md := .any) (Q := Q) rfl hb hs hc (by simpa using hn) hq n (Array.replicate l.toArray.size false) a { w with drawn := w.drawn + 1 } inv0 ⟨⟨_, (Ext.refl w).drew⟩, rfl⟩ (by
  have h1 := wpAnyQ_lex (P := P) (ops := (l.take n).toArray) (C := fun w' => ∃ z : After w, w' = z.val) (md := .any) hl.1 (l.take n) 0 (Array.replicate (l.take n).toArray.size false) a (by simp) (by simpa using hl.2) h
  rw [hex]
  have e1 : (l.take n).length = n := by simp; omega
  have e2 : (Array.replicate l.toArray.size false).extract 0 n = Array.replicate (l.take n).toArray.size false := by
   apply Array.ext
   ·simp
   ·intro i h1 h2; simp
  rw [e2]
  rw [e1] at h1
  exact h1)
 rwa [show n + (l.toArray.size - n) = l.toArray.size from by simp; omega] at H
end
end Go.Proofs.YtfegbaokcbjllaaGreat
