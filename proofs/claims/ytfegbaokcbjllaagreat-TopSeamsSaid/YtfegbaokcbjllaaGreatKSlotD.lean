/- As SlotL's region_slotsT, with longer ways from the tail's operations to those that they wait for. No program in sight. -/
import Derived.Test.YtfegbaokcbjllaaGreatKSlotL
namespace Go.Proofs.YtfegbaokcbjllaaGreat
open Go.RowKit
section
variable {P : Program} {ops : Array Oper} {Q : Exit → Act → World → Prop}
def tailsD (ops : Array Oper) (l m : Nat) : Bool := (ops.size == l + m) && (List.range m).all (fun t => (List.range (l + t)).all fun j => onT ops 9 (l + t) j) && slBackB ops
theorem region_slotsD {id l m N : Nat} {a : Act} {w W0 : World} {L : List Oper} (ds : List Nat) (Ts : List (Value → World → Prop)) (hm : P.follows .mixedOrders = true) (hpos : 0 < m)
  (hB : tailsD L.toArray l m = true) (hD : (ds.length == l && decide ds.Nodup && ds.all (fun d => decide (d < N)) && (List.range l).all (fun i => (L.toArray[i]?).bind (·.dst) == ds[i]?)) = true) (hN : a.tmps.size = N) (hw : Ext W0 w)
  (hT : KpL Ts) (hstep : ∀ i, i < l → StepB P L.toArray Q a ds W0 (tAt Ts) i)
  (hlast : ∀ xs w, Ext W0 w → (∀ j, j < l → tAt Ts j (xs j) w) → wpList P L.toArray Q (L.drop l) (frOf a ds xs) w) :
  (Code.region id L.toArray true).wp P Q a w := by
 simp only [tailsD, Bool.and_eq_true, beq_iff_eq] at hB
 obtain ⟨⟨hn, hB⟩, hback⟩ := hB
 have hall : ∀ t j, l ≤ t → t < l + m → j < t → onT L.toArray 9 t j = true := fun t j h1 h2 h3 => by
  have h4 := List.all_eq_true.1 hB (t - l) (List.mem_range.2 (by omega))
  have h5 := List.all_eq_true.1 h4 j (List.mem_range.2 (by omega))
  rwa [show l + (t - l) = t by omega] at h5
 simp only [Bool.and_eq_true, beq_iff_eq, decide_eq_true_eq] at hD
 obtain ⟨⟨⟨hl, hnd⟩, hlt⟩, hdst⟩ := hD
 have hs : ∀ d ∈ ds, d < a.tmps.size := fun d hd => by rw [hN]; exact of_decide_eq_true (List.all_eq_true.1 hlt d hd)
 have hev : ∀ xs j d, ds[j]? = some d → (frOf a ds xs).eval (.tmp d) = xs j := fun xs j d h => by
  show (putAll a.tmps ds xs 0).getD d undef = _
  have := putAll_at ds a.tmps xs 0 j hnd h (hs d (List.mem_of_getElem? h))
  rw [Nat.zero_add] at this
  rw [Array.getD_eq_getD_getElem?, this]; rfl
 have hot : ∀ xs k, ds.contains k = false → (frOf a ds xs).eval (.tmp k) = a.eval (.tmp k) := fun xs k h => by
  show (putAll a.tmps ds xs 0).getD k undef = a.tmps.getD k undef
  rw [Array.getD_eq_getD_getElem?, Array.getD_eq_getD_getElem?, putAll_other ds a.tmps xs 0 (by simpa using h)]
 have hput : ∀ i o, i < l → L.toArray[i]? = some o → ∀ xs v, (frOf a ds xs).put o.dst v = frOf a ds (upd xs i v) := fun i o hi ho xs v => by
  have h1 := List.all_eq_true.1 hdst i (List.mem_range.2 hi)
  rw [ho] at h1
  have h2 : o.dst = ds[i]? := by simpa using h1
  obtain ⟨d, hd⟩ : ∃ d, ds[i]? = some d := ⟨ds[i]'(by omega), by rw [List.getElem?_eq_getElem (by omega)]⟩
  rw [h2, hd]
  show ({ a with tmps := (putAll a.tmps ds xs 0).setIfInBounds d v } : Act) = { a with tmps := putAll a.tmps ds (upd xs i v) 0 }
  have := putAll_set ds a.tmps xs 0 i v hnd hd hs
  rw [Nat.zero_add] at this
  rw [this]
 have hsz : L.length = l + m := by simpa using hn
 refine region_inv hm (fun listed a' w => Closed .any L.toArray listed ∧ listed.size = l + m ∧ (((∀ t, l ≤ t → t < l + m → listed.getD t true = false) ∧ Ext W0 w ∧ ∃ xs, a' = frOf a ds xs ∧ ∀ j, j < l → listed.getD j false = true → tAt Ts j (xs j) w) ∨ ∃ t, l < t ∧ t ≤ l + m ∧ (∀ j, j < t → listed.getD j true = true) ∧ (∀ j, t ≤ j → j < l + m → listed.getD j true = false) ∧ wpList P L.toArray Q (L.drop t) a' w)) ?_ ?_ ?_
 ·refine ⟨fun j oj _ hl' => (by rw [getD_replicate_false] at hl'; cases hl'), by simp [hsz], .inl ⟨fun t h1 h2 => by simp [hsz, h2], hw.drew, fun j => a.tmps.getD (ds.getD j 0) undef, ?_, fun j hj hl => ?_⟩⟩
  ·show a = { a with tmps := putAll a.tmps ds _ 0 }
   rw [putAll_same ds a.tmps _ hnd hs (fun j d h => by simp [h])]
  ·rw [hn] at hl
   simp [show j < l + m by omega] at hl
 ·rintro listed a' w i hi ⟨hcl, hsl, hI⟩
  obtain ⟨hun, o, ho, hdep⟩ := mem_ready.1 hi
  have hil : i < l + m := by rw [← hn]; exact (Array.getElem?_eq_some_iff.1 ho).1
  have hon : ∀ j, onB' .any L.toArray i j = true → listed.getD j false = true := fun j hj => by
   obtain ⟨o', ho', e, he, hb, hk⟩ := onB_spec hj
   have : o = o' := Option.some.inj (ho.symm.trans ho')
   subst this
   rw [← hk]; exact hdep e he hb
  have hcl' := hcl.set hi
  have honT : ∀ j, onT L.toArray 9 i j = true → listed.getD j false = true := fun j hj => by
   unfold onT at hj
   rw [Bool.or_eq_true] at hj
   rcases hj with h | h
   ·exact hon j h
   ·obtain ⟨k, _, h⟩ := List.any_eq_true.1 h
    rw [Bool.and_eq_true] at h
    exact closed_onT hcl 8 k j h.2 (hon k h.1)
  have hLo : L[i]? = some o := by simpa using ho
  have hdrop : L.drop i = o :: L.drop (i + 1) := by
   rw [List.drop_eq_getElem_cons (by omega)]
   rw [List.getElem?_eq_getElem (by omega)] at hLo
   rw [Option.some.inj hLo]
  have tail : l ≤ i → (∀ j, j < i → listed.getD j true = true) → (∀ j, i ≤ j → j < l + m → listed.getD j true = false) → wpList P L.toArray Q (L.drop i) a' w →
    wpOp P L.toArray Q i (fun a'' w' => Closed .any L.toArray (listed.setIfInBounds i true) ∧ (listed.setIfInBounds i true).size = l + m ∧ (((∀ t, l ≤ t → t < l + m → (listed.setIfInBounds i true).getD t true = false) ∧ Ext W0 w' ∧ ∃ xs, a'' = frOf a ds xs ∧ ∀ j, j < l → (listed.setIfInBounds i true).getD j false = true → tAt Ts j (xs j) w') ∨ ∃ t, l < t ∧ t ≤ l + m ∧ (∀ j, j < t → (listed.setIfInBounds i true).getD j true = true) ∧ (∀ j, t ≤ j → j < l + m → (listed.setIfInBounds i true).getD j true = false) ∧ wpList P L.toArray Q (L.drop t) a'' w')) a' w := by
   intro h1 h2 h3 h4
   rw [hdrop] at h4
   have h5 : wpOp P L.toArray Q i (wpList P L.toArray Q (L.drop (i + 1))) a' w := by
    unfold wpOp
    rw [ho]
    exact h4
   refine wpOp_mono (fun a'' w' hq => ⟨hcl', by simpa using hsl, .inr ⟨i + 1, by omega, by omega, fun j hj => ?_, fun j hj hj' => ?_, hq⟩⟩) h5
   ·by_cases hji : j = i
    ·subst hji; exact getD_false_true (getD_set_self hun)
    ·rw [getD_set_other true (Ne.symm hji)]; exact h2 j (by omega)
   ·rw [getD_set_other true (by omega)]; exact h3 j (by omega) hj'
  rcases hI with ⟨hfree, hx, xs, rfl, hxs⟩ | ⟨t, h1, h2, h3, h4, h5⟩
  ·by_cases hi' : l ≤ i
   ·have hdone : ∀ j, j < i → listed.getD j false = true := fun j hj => honT j (hall i j hi' hil hj)
    have hil2 : i = l := by
     rcases Nat.lt_or_ge l i with h | h
     ·have e1 := getD_false_true (hdone l h)
      rw [hfree l (Nat.le_refl _) (by omega)] at e1; cases e1
     ·omega
    subst hil2
    exact tail (Nat.le_refl _) (fun j hj => getD_false_true (hdone j hj)) (fun j hj hj' => hfree j hj hj') (hlast xs w hx (fun j hj => hxs j hj (hdone j hj)))
   ·have hil' : i < l := by omega
    have h1 := hstep i hil' o ho (frOf a ds xs) w hx (hot xs) (fun j d h hj => by
     rw [hev xs j d h]
     have hjl : j < l := by rw [← hl]; exact (List.getElem?_eq_some_iff.1 h).1
     exact hxs j hjl (hon j hj)) (fun a'' w' => Closed .any L.toArray (listed.setIfInBounds i true) ∧ (listed.setIfInBounds i true).size = l + m ∧ (((∀ t, l ≤ t → t < l + m → (listed.setIfInBounds i true).getD t true = false) ∧ Ext W0 w' ∧ ∃ xs, a'' = frOf a ds xs ∧ ∀ j, j < l → (listed.setIfInBounds i true).getD j false = true → tAt Ts j (xs j) w') ∨ ∃ t, l < t ∧ t ≤ l + m ∧ (∀ j, j < t → (listed.setIfInBounds i true).getD j true = true) ∧ (∀ j, t ≤ j → j < l + m → (listed.setIfInBounds i true).getD j true = false) ∧ wpList P L.toArray Q (L.drop t) a'' w')) (fun v w' he hv => by
     refine ⟨hcl', by simpa using hsl, .inl ⟨fun t ht ht' => by rw [getD_set_other true (by omega)]; exact hfree t ht ht', hx.trans he, upd xs i v, hput i o hil' ho xs v, fun j hj hl' => ?_⟩⟩
     by_cases hji : j = i
     ·subst hji; rw [upd_self]; exact hv
     ·rw [upd_ne xs v hji]
      rw [getD_set_other false (Ne.symm hji)] at hl'
      exact KpL.at hT j _ _ _ he (hxs j hj hl'))
    unfold wpOp
    rw [ho]
    simp only
    split
    ·rename_i hw'; rw [if_pos hw'] at h1; exact .inl h1
    ·rename_i hw'; rw [if_neg hw'] at h1; exact h1
  ·have hit : i = t := by
    rcases Nat.lt_trichotomy i t with h | h | h
    ·rw [h3 i h] at hun; cases hun
    ·exact h
    ·have e1 := getD_false_true (honT t (hall i t (by omega) hil h))
     rw [h4 t (Nat.le_refl _) (by omega)] at e1; cases e1
   subst hit
   exact tail (by omega) h3 h4 h5
 ·rintro listed a' w hr ⟨hcl, hsl, hI⟩
  have hle : ∀ i, i < l + m → listed.getD i true = false → False := by
   intro i
   induction i using Nat.strongRecOn with
   |ind i ih =>
    intro hil hun
    obtain ⟨o, ho⟩ : ∃ o, L.toArray[i]? = some o := ⟨L.toArray[i]'(by omega), by rw [Array.getElem?_eq_getElem (by omega)]⟩
    by_cases hd : ∀ e ∈ o.after, Region.binds .any e = true → listed.getD e.on false = true
    ·have : i ∈ Region.ready .any L.toArray listed := mem_ready.2 ⟨hun, o, ho, hd⟩
     rw [hr] at this; cases this
    ·simp only [Classical.not_forall] at hd
     obtain ⟨e, he, hb, hne⟩ := hd
     have hlt := slBackB_spec hback ho e he hb
     refine ih e.on hlt (by omega) ?_
     have h4 : e.on < listed.size := by omega
     simp [h4] at hne ⊢
     exact hne
  rcases hI with ⟨hfree, _⟩ | ⟨t, h1, h2, h3, h4, h5⟩
  ·exact absurd (hfree l (Nat.le_refl _) (by omega)) (fun h => hle l (by omega) h)
  ·rcases Nat.lt_or_ge t (l + m) with h | h
   ·exact absurd (h4 t (Nat.le_refl _) h) (fun h' => hle t h h')
   ·rw [List.drop_of_length_le (by omega)] at h5
    exact h5
end
end Go.Proofs.YtfegbaokcbjllaaGreat
