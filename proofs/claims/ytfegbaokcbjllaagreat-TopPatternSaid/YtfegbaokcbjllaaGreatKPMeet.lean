/- point.Meet. Written by genmeet.py. -/
import Derived.Test.YtfegbaokcbjllaaGreatKPt
/- As SlotL, for a region in which one operation (number si) stores into the block that another one (number ai) has made, while reading operations are still open. No program in sight. -/
namespace Go.Proofs.YtfegbaokcbjllaaGreat
open Go.RowKit
section
variable {P : Program} {ops : Array Oper} {Q : Exit → Act → World → Prop}
def tP (Ts : List (Value → World → Prop)) (ai : Nat) (S : Value → World → Prop) (ph : Bool) (j : Nat) : Value → World → Prop := if ph = true ∧ j = ai then S else tAt Ts j
/- what the store is to show -/
def StoreP (P : Program) (ops : Array Oper) (Q : Exit → Act → World → Prop) (a : Act) (ds : List Nat) (W0 : World) (Ts : List (Value → World → Prop)) (ai si da l : Nat) (S : Value → World → Prop) : Prop :=
 ∀ o, ops[si]? = some o → ∀ b w, Ext W0 w → (∀ k, ds.contains k = false → b.eval (.tmp k) = a.eval (.tmp k)) → (∀ j d, ds[j]? = some d → onB' .any ops si j = true → tAt Ts j (b.eval (.tmp d)) w) →
  ∀ K : Act → World → Prop, (∀ w', Ext W0 w' → (∀ j, j < l → j ≠ ai → j ≠ si → ∀ v, tAt Ts j v w → tAt Ts j v w') → S (b.eval (.tmp da)) w' → K b w') → if Region.wanted o (yielded ops b.tmps) = true then Oper.wp P o b w K Q else K b w
def slPB (ops : Array Oper) (ds : List Nat) (l m N ai si da : Nat) : Bool :=
 tailsB ops l m && (ds.length == l) && decide ds.Nodup && (List.range l).all (fun i => match (ops[i]?).bind (·.dst) with | some d => decide (d < N) && (ds[i]? == some d) && (i != si) | none => decide (N ≤ ds.getD i 0) && (i == si)) &&
  decide (si < l) && decide (ai < l) && (ai != si) && (ds[ai]? == some da) && onT ops 2 si ai && (List.range l).all (fun i => (i == si) || (!onB' .any ops i ai && !onB' .any ops i si))
theorem region_slotsP {id l m N ai si da : Nat} {a : Act} {w W0 : World} {L : List Oper} (ds : List Nat) (Ts : List (Value → World → Prop)) (S : Value → World → Prop) (hm : P.follows .mixedOrders = true) (hpos : 0 < m)
  (hB : slPB L.toArray ds l m N ai si da = true) (hN : a.tmps.size = N) (hw : Ext W0 w)
  (hT : KpL Ts) (hS : Kp S) (hstep : ∀ i, i < l → i ≠ si → StepB P L.toArray Q a ds W0 (tAt Ts) i)
  (hst : StoreP P L.toArray Q a ds W0 Ts ai si da l S)
  (hlast : ∀ xs w, Ext W0 w → (∀ j, j < l → j ≠ si → tP Ts ai S true j (xs j) w) → wpList P L.toArray Q (L.drop l) (frOf a ds xs) w) :
  (Code.region id L.toArray true).wp P Q a w := by
 simp only [slPB, Bool.and_eq_true, beq_iff_eq, decide_eq_true_eq, bne_iff_ne] at hB
 obtain ⟨⟨⟨⟨⟨⟨⟨⟨⟨hB, hl⟩, hnd⟩, hdst⟩, hsil⟩, hail⟩, hne⟩, hda⟩, hwait⟩, hfr⟩ := hB
 simp only [tailsB, Bool.and_eq_true, beq_iff_eq] at hB
 obtain ⟨⟨hn, hB⟩, hback⟩ := hB
 have hall : ∀ t j, l ≤ t → t < l + m → j < t → onT L.toArray 2 t j = true := fun t j h1 h2 h3 => by
  have h4 := List.all_eq_true.1 hB (t - l) (List.mem_range.2 (by omega))
  have h5 := List.all_eq_true.1 h4 j (List.mem_range.2 (by omega))
  rwa [show l + (t - l) = t by omega] at h5
 have hdt : ∀ i o, i < l → L.toArray[i]? = some o → (i ≠ si → ∃ d, o.dst = some d ∧ ds[i]? = some d ∧ d < N) ∧ (i = si → o.dst = none ∧ ∃ d, ds[i]? = some d ∧ N ≤ d) := fun i o hi ho => by
  have h1 := List.all_eq_true.1 hdst i (List.mem_range.2 hi)
  rw [ho] at h1
  simp only [Option.bind_some] at h1
  cases hod : o.dst with
  |some d' =>
   rw [hod] at h1
   simp only [Bool.and_eq_true, decide_eq_true_eq, beq_iff_eq, bne_iff_ne] at h1
   exact ⟨fun _ => ⟨d', rfl, h1.1.2, h1.1.1⟩, fun h => absurd h h1.2⟩
  |none =>
   rw [hod] at h1
   simp only [Bool.and_eq_true, decide_eq_true_eq, beq_iff_eq] at h1
   refine ⟨fun h => absurd h1.2 h, fun _ => ⟨rfl, ds[i]'(by omega), by rw [List.getElem?_eq_getElem (by omega)], ?_⟩⟩
   have := h1.1
   simpa [show i < ds.length by omega] using this
 have hsz : L.length = l + m := by simpa using hn
 have hget : ∀ i, i < l + m → ∃ o, L.toArray[i]? = some o := fun i hi => ⟨L.toArray[i]'(by omega), by rw [Array.getElem?_eq_getElem (by omega)]⟩
 have hdN : ∀ j d, ds[j]? = some d → j ≠ si → d < N := fun j d h hj => by
  have hjl : j < l := by rw [← hl]; exact (List.getElem?_eq_some_iff.1 h).1
  obtain ⟨o, ho⟩ := hget j (by omega)
  obtain ⟨d', _, h2, h3⟩ := (hdt j o hjl ho).1 hj
  rw [h] at h2
  rw [Option.some.inj h2]; exact h3
 have hev : ∀ xs j d, ds[j]? = some d → j ≠ si → (frOf a ds xs).eval (.tmp d) = xs j := fun xs j d h hj => by
  show (putAll a.tmps ds xs 0).getD d undef = _
  have := putAll_at ds a.tmps xs 0 j hnd h (by rw [hN]; exact hdN j d h hj)
  rw [Nat.zero_add] at this
  rw [Array.getD_eq_getD_getElem?, this]; rfl
 have hot : ∀ xs k, ds.contains k = false → (frOf a ds xs).eval (.tmp k) = a.eval (.tmp k) := fun xs k h => by
  show (putAll a.tmps ds xs 0).getD k undef = a.tmps.getD k undef
  rw [Array.getD_eq_getD_getElem?, Array.getD_eq_getD_getElem?, putAll_other ds a.tmps xs 0 (by simpa using h)]
 have hput : ∀ i o, i < l → i ≠ si → L.toArray[i]? = some o → ∀ xs v, (frOf a ds xs).put o.dst v = frOf a ds (upd xs i v) := fun i o hi his ho xs v => by
  obtain ⟨d, h2, hd, hdl⟩ := (hdt i o hi ho).1 his
  rw [h2]
  show ({ a with tmps := (putAll a.tmps ds xs 0).setIfInBounds d v } : Act) = { a with tmps := putAll a.tmps ds (upd xs i v) 0 }
  rw [putAll_setI ds a.tmps xs i v hnd hd (by rw [hN]; exact hdl)]
 have hfree : ∀ i, i < l → i ≠ si → ∀ j, onB' .any L.toArray i j = true → j ≠ ai ∧ j ≠ si := fun i hi his j hj => by
  have h1 := List.all_eq_true.1 hfr i (List.mem_range.2 hi)
  simp only [Bool.or_eq_true, beq_iff_eq, Bool.and_eq_true, Bool.not_eq_true'] at h1
  rcases h1 with h1 | h1
  ·exact absurd h1 his
  ·constructor
   ·intro e
    rw [e, h1.1] at hj
    cases hj
   ·intro e
    rw [e, h1.2] at hj
    cases hj
 have tP_ext : ∀ ph j v w w', Ext w w' → tP Ts ai S ph j v w → tP Ts ai S ph j v w' := fun ph j v w w' he h => by
  unfold tP at *
  split at h
  ·rename_i hc; rw [if_pos hc]; exact hS v w w' he h
  ·rename_i hc; rw [if_neg hc]; exact KpL.at hT j v w w' he h
 have tP_of : ∀ ph j v w, j ≠ ai → tP Ts ai S ph j v w → tAt Ts j v w := fun ph j v w hj h => by
  unfold tP at h
  rwa [if_neg (fun hc => hj hc.2)] at h
 have of_tP : ∀ ph j v w, (ph = true → j ≠ ai) → tAt Ts j v w → tP Ts ai S ph j v w := fun ph j v w hj h => by
  unfold tP
  rw [if_neg (fun hc => hj hc.1 hc.2)]; exact h
 let Inv : Array Bool → Act → World → Prop := fun listed a' w => Closed .any L.toArray listed ∧ listed.size = l + m ∧ (((∀ t, l ≤ t → t < l + m → listed.getD t true = false) ∧ Ext W0 w ∧ ∃ xs, a' = frOf a ds xs ∧ ∀ j, j < l → j ≠ si → listed.getD j false = true → tP Ts ai S (listed.getD si false) j (xs j) w) ∨ ∃ t, l < t ∧ t ≤ l + m ∧ (∀ j, j < t → listed.getD j true = true) ∧ (∀ j, t ≤ j → j < l + m → listed.getD j true = false) ∧ wpList P L.toArray Q (L.drop t) a' w)
 refine region_inv hm Inv ?_ ?_ ?_
 ·refine ⟨fun j oj _ hl' => (by rw [getD_replicate_false] at hl'; cases hl'), by simp [hsz], .inl ⟨fun t h1 h2 => by simp [hsz, h2], hw.drew, fun j => a.tmps.getD (ds.getD j 0) undef, ?_, fun j hj _ hl => ?_⟩⟩
  ·show a = { a with tmps := putAll a.tmps ds _ 0 }
   rw [putAll_sameI ds a.tmps _ hnd (fun j d h _ => by simp [h])]
  ·rw [hn] at hl
   simp [show j < l + m by omega] at hl
 ·rintro listed a' w i hi ⟨hcl, hsl, hI⟩
  obtain ⟨hun, o, ho, hdep⟩ := mem_ready.1 hi
  have hil : i < l + m := by rw [← hn]; exact (Array.getElem?_eq_some_iff.1 ho).1
  have hon : ∀ j, onB' .any L.toArray i j = true → listed.getD j false = true := fun j hj => by
   obtain ⟨o', ho', e, he, hb, hk⟩ := onB_spec hj
   have : o = o' := Option.some.inj (ho.symm.trans ho')
   subst this
   rw [← hk]; exact hdep e he hb
  have hcl' := hcl.set hi
  have honT : ∀ j, onT L.toArray 2 i j = true → listed.getD j false = true := fun j hj => by
   unfold onT at hj
   rw [Bool.or_eq_true] at hj
   rcases hj with h | h
   ·exact hon j h
   ·obtain ⟨k, _, h⟩ := List.any_eq_true.1 h
    rw [Bool.and_eq_true] at h
    exact closed_onT hcl 1 k j h.2 (hon k h.1)
  have hLo : L[i]? = some o := by simpa using ho
  have hdrop : L.drop i = o :: L.drop (i + 1) := by
   rw [List.drop_eq_getElem_cons (by omega)]
   rw [List.getElem?_eq_getElem (by omega)] at hLo
   rw [Option.some.inj hLo]
  have tail : l ≤ i → (∀ j, j < i → listed.getD j true = true) → (∀ j, i ≤ j → j < l + m → listed.getD j true = false) → wpList P L.toArray Q (L.drop i) a' w → wpOp P L.toArray Q i (Inv (listed.setIfInBounds i true)) a' w := by
   intro h1 h2 h3 h4
   rw [hdrop] at h4
   have h5 : wpOp P L.toArray Q i (wpList P L.toArray Q (L.drop (i + 1))) a' w := by
    unfold wpOp
    rw [ho]
    exact h4
   refine wpOp_mono (fun a'' w' hq => ⟨hcl', by simpa using hsl, .inr ⟨i + 1, by omega, by omega, fun j hj => ?_, fun j hj hj' => ?_, hq⟩⟩) h5
   ·by_cases hji : j = i
    ·subst hji; exact getD_false_true (getD_set_self hun)
    ·rw [getD_set_other true (Ne.symm hji)]; exact h2 j (by omega)
   ·rw [getD_set_other true (by omega)]; exact h3 j (by omega) hj'
  rcases hI with ⟨hopen, hx, xs, rfl, hxs⟩ | ⟨t, h1, h2, h3, h4, h5⟩
  ·by_cases hi' : l ≤ i
   ·have hdone : ∀ j, j < i → listed.getD j false = true := fun j hj => honT j (hall i j hi' hil hj)
    have hil2 : i = l := by
     rcases Nat.lt_or_ge l i with h | h
     ·have e1 := getD_false_true (hdone l h)
      rw [hopen l (Nat.le_refl _) (by omega)] at e1; cases e1
     ·omega
    subst hil2
    exact tail (Nat.le_refl _) (fun j hj => getD_false_true (hdone j hj)) (fun j hj hj' => hopen j hj hj') (hlast xs w hx (fun j hj hjs => by
     have := hxs j hj hjs (hdone j hj)
     rwa [hdone si hsil] at this))
   ·have hil' : i < l := by omega
    by_cases his : i = si
    ·subst his
     obtain ⟨hdn, d, hdd, hdge⟩ := (hdt i o hil' ho).2 rfl
     have hsf : listed.getD i false = false := by
      cases h : listed.getD i false with
      |false => rfl
      |true => rw [getD_false_true h] at hun; cases hun
     have h1 := hst o ho (frOf a ds xs) w hx (hot xs) (fun j d h hj => by
      have hjl : j < l := by rw [← hl]; exact (List.getElem?_eq_some_iff.1 h).1
      have hjs : j ≠ i := by
       rintro rfl
       have := hon j hj
       rw [hsf] at this; cases this
      rw [hev xs j d h hjs]
      have := hxs j hjl hjs (hon j hj)
      rw [hsf] at this
      unfold tP at this
      rwa [if_neg (fun hc => by cases hc.1)] at this) (Inv (listed.setIfInBounds i true)) (fun w' hx' hkeep hSa => by
      refine ⟨hcl', by simpa using hsl, .inl ⟨fun t ht ht' => by rw [getD_set_other true (by omega)]; exact hopen t ht ht', hx', xs, rfl, fun j hj hjs hl' => ?_⟩⟩
      rw [getD_set_self hun]
      rw [getD_set_other false (Ne.symm hjs)] at hl'
      have h2 := hxs j hj hjs hl'
      rw [hsf] at h2
      have h3 : tAt Ts j (xs j) w := by
       unfold tP at h2
       rwa [if_neg (fun hc => by cases hc.1)] at h2
      by_cases hja : j = ai
      ·subst hja
       unfold tP
       rw [if_pos ⟨rfl, rfl⟩]
       rw [hev xs j da hda hjs] at hSa
       exact hSa
      ·exact of_tP true j (xs j) w' (fun _ => hja) (hkeep j hj hja hjs (xs j) h3))
     unfold wpOp
     rw [ho]
     simp only
     split
     ·rename_i hw'; rw [if_pos hw'] at h1; exact .inl h1
     ·rename_i hw'; rw [if_neg hw'] at h1; rw [hdn]; exact h1
    ·have h1 := hstep i hil' his o ho (frOf a ds xs) w hx (hot xs) (fun j d h hj => by
      have hjl : j < l := by rw [← hl]; exact (List.getElem?_eq_some_iff.1 h).1
      obtain ⟨ha, hs⟩ := hfree i hil' his j hj
      rw [hev xs j d h hs]
      exact tP_of _ j _ _ ha (hxs j hjl hs (hon j hj))) (Inv (listed.setIfInBounds i true)) (fun v w' he hv => by
      refine ⟨hcl', by simpa using hsl, .inl ⟨fun t ht ht' => by rw [getD_set_other true (by omega)]; exact hopen t ht ht', hx.trans he, upd xs i v, hput i o hil' his ho xs v, fun j hj hjs hl' => ?_⟩⟩
      rw [getD_set_other false his]
      by_cases hji : j = i
      ·subst hji
       rw [upd_self]
       refine of_tP _ j v w' (fun hph => ?_) hv
       rintro rfl
       have := closed_onT hcl 2 si j hwait hph
       rw [getD_false_true this] at hun; cases hun
      ·rw [upd_ne xs v hji]
       rw [getD_set_other false (Ne.symm hji)] at hl'
       exact tP_ext _ j _ _ _ he (hxs j hj hjs hl'))
     unfold wpOp
     rw [ho]
     simp only
     split
     ·rename_i hw'; rw [if_pos hw'] at h1; exact .inl h1
     ·rename_i hw'; rw [if_neg hw'] at h1; exact h1
  ·have hit : i = t := by
    rcases Nat.lt_trichotomy i t with h | h | h
    ·rw [h3 i h] at hun; cases hun
    ·exact h
    ·have e1 := getD_false_true (honT t (hall i t (by omega) hil h))
     rw [h4 t (Nat.le_refl _) (by omega)] at e1; cases e1
   subst hit
   exact tail (by omega) h3 h4 h5
 ·rintro listed a' w hr ⟨hcl, hsl, hI⟩
  have hle : ∀ i, i < l + m → listed.getD i true = false → False := by
   intro i
   induction i using Nat.strongRecOn with
   |ind i ih =>
    intro hil hun
    obtain ⟨o, ho⟩ := hget i hil
    by_cases hd : ∀ e ∈ o.after, Region.binds .any e = true → listed.getD e.on false = true
    ·have : i ∈ Region.ready .any L.toArray listed := mem_ready.2 ⟨hun, o, ho, hd⟩
     rw [hr] at this; cases this
    ·simp only [Classical.not_forall] at hd
     obtain ⟨e, he, hb, hne⟩ := hd
     have hlt := slBackB_spec hback ho e he hb
     refine ih e.on hlt (by omega) ?_
     have h4 : e.on < listed.size := by omega
     simp [h4] at hne ⊢
     exact hne
  rcases hI with ⟨hopen, _⟩ | ⟨t, h1, h2, h3, h4, h5⟩
  ·exact absurd (hopen l (Nat.le_refl _) (by omega)) (fun h => hle l (by omega) h)
  ·rcases Nat.lt_or_ge t (l + m) with h | h
   ·exact absurd (h4 t (Nat.le_refl _) h) (fun h' => hle t h h')
   ·rw [List.drop_of_length_le (by omega)] at h5
    exact h5
end
/- the bound of coordinates -/
def CB : Nat := 1049600
theorem cb_db : 16 * (CB * CB) < DB := by decide
theorem cb_sz : CB < 4194304 := by decide
def inC (s : Int × Int) : Prop := s.1.natAbs ≤ CB ∧ s.2.natAbs ≤ CB
theorem den_int (z : Int) : (z : Rat).den = 1 := Rat.den_intCast z
theorem num_int (z : Int) : (z : Rat).num = z := Rat.num_intCast z
theorem db_one : 1 < DB := by decide
theorem rat_sub_int (a b : Int) : (a : Rat) - (b : Rat) = ((a - b : Int) : Rat) := (Rat.intCast_sub a b).symm
theorem rat_mul_int (a b : Int) : (a : Rat) * (b : Rat) = ((a * b : Int) : Rat) := (Rat.intCast_mul a b).symm
theorem mk_abs_le {z : Int} {d : Nat} (hd : d ≠ 0) : (mkRat z d).num.natAbs ≤ z.natAbs := by rw [mkRat_abs hd]; exact Nat.div_le_self _ _
theorem mk_den_le {z : Int} {d : Nat} (hd : d ≠ 0) : (mkRat z d).den ≤ d := by rw [mkRat_den hd]; exact Nat.div_le_self _ _
theorem div_int {a b : Int} (hb : b ≠ 0) : ((a : Rat) / (b : Rat)).num.natAbs ≤ a.natAbs ∧ ((a : Rat) / (b : Rat)).den ≤ b.natAbs := by
 have hb' : b.natAbs ≠ 0 := fun e => hb (Int.natAbs_eq_zero.1 e)
 rw [rat_div _ _ (by rw [num_int]; exact hb)]
 rw [num_int, num_int, den_int, den_int, Nat.mul_one, Nat.one_mul]
 refine ⟨Nat.le_trans (mk_abs_le hb') (by rw [sgI_abs]; exact Nat.le_refl _), mk_den_le hb'⟩
theorem mul_int_le (k : Int) (r : Rat) : ((k : Rat) * r).num.natAbs ≤ k.natAbs * r.num.natAbs ∧ ((k : Rat) * r).den ≤ r.den := by
 rw [rat_mul, num_int, den_int, Nat.one_mul]
 exact ⟨Nat.le_trans (mk_abs_le r.den_nz) (by rw [Int.natAbs_mul]; exact Nat.le_refl _), mk_den_le r.den_nz⟩
theorem add_int_le (k : Int) (r : Rat) : ((k : Rat) + r).num.natAbs ≤ k.natAbs * r.den + r.num.natAbs ∧ ((k : Rat) + r).den ≤ r.den := by
 rw [rat_add, num_int, den_int, Nat.one_mul]
 refine ⟨Nat.le_trans (mk_abs_le r.den_nz) (Nat.le_trans (Int.natAbs_add_le _ _) ?_), mk_den_le r.den_nz⟩
 rw [Int.natAbs_mul, Int.natAbs_mul, Int.natAbs_natCast]
 simp
theorem sub_int_le (r : Rat) (k : Int) : (r - (k : Rat)).num.natAbs ≤ k.natAbs * r.den + r.num.natAbs ∧ (r - (k : Rat)).den ≤ r.den := by
 have h := add_int_le (-k) r
 rw [Int.natAbs_neg] at h
 have e : r - (k : Rat) = ((-k : Int) : Rat) + r := by rw [Rat.sub_eq_add_neg, Rat.add_comm, Rat.intCast_neg]
 rw [e]; exact h
/- a bound for all: 2^96 -/
theorem sz_96 {n : Nat} (h : n < 79228162514264337593543950336) : Sz 100 n := (show Sz 3 n from by unfold Sz; omega).mono (by omega)
theorem abs_sub {a b : Int} {n m : Nat} (ha : a.natAbs ≤ n) (hb : b.natAbs ≤ m) : (a - b).natAbs ≤ n + m := by omega
/- the numbers of a common point -/
def ptA (a : Int × Int) (_ : Int × Int) (c d : Int × Int) : Int := (c.1 - a.1) * (d.2 - c.2) - (c.2 - a.2) * (d.1 - c.1)
def ptB (a b c d : Int × Int) : Int := (b.1 - a.1) * (d.2 - c.2) - (b.2 - a.2) * (d.1 - c.1)
def ptT (a b c d : Int × Int) : Rat := (ptA a b c d : Rat) / (ptB a b c d : Rat)
def ptX (a b c d : Int × Int) : Rat := (a.1 : Rat) + ((b.1 - a.1 : Int) : Rat) * ptT a b c d
def ptY (a b c d : Int × Int) : Rat := (a.2 : Rat) + ((b.2 - a.2 : Int) : Rat) * ptT a b c d
theorem cross_le {x y x' y' : Int} {n : Nat} (hx : x.natAbs ≤ n) (hy : y.natAbs ≤ n) (hx' : x'.natAbs ≤ n) (hy' : y'.natAbs ≤ n) : (x * y' - y * x').natAbs ≤ 2 * (n * n) := by
 have h1 : (x * y').natAbs ≤ n * n := by rw [Int.natAbs_mul]; exact Nat.mul_le_mul hx hy'
 have h2 : (y * x').natAbs ≤ n * n := by rw [Int.natAbs_mul]; exact Nat.mul_le_mul hy hx'
 have := abs_sub h1 h2
 omega
section
variable {a b c d : Int × Int}
theorem ptA_le (ha : inC a) (hc : inC c) (hd : inC d) : (ptA a b c d).natAbs ≤ 8 * (CB * CB) := by
 have := cross_le (x := c.1 - a.1) (y := c.2 - a.2) (x' := d.1 - c.1) (y' := d.2 - c.2) (n := CB + CB) (abs_sub hc.1 ha.1) (abs_sub hc.2 ha.2) (abs_sub hd.1 hc.1) (abs_sub hd.2 hc.2)
 unfold ptA
 have e : 2 * ((CB + CB) * (CB + CB)) = 8 * (CB * CB) := by rw [Nat.add_mul, Nat.mul_add CB CB CB]; omega
 omega
theorem ptB_le (ha : inC a) (hb : inC b) (hc : inC c) (hd : inC d) : (ptB a b c d).natAbs ≤ 8 * (CB * CB) := by
 have := cross_le (x := b.1 - a.1) (y := b.2 - a.2) (x' := d.1 - c.1) (y' := d.2 - c.2) (n := CB + CB) (abs_sub hb.1 ha.1) (abs_sub hb.2 ha.2) (abs_sub hd.1 hc.1) (abs_sub hd.2 hc.2)
 unfold ptB
 have e : 2 * ((CB + CB) * (CB + CB)) = 8 * (CB * CB) := by rw [Nat.add_mul, Nat.mul_add CB CB CB]; omega
 omega
theorem cb2 : CB * CB < 17592186044416 := by
 have h := cb_sz
 have : CB * CB ≤ CB * 4194304 := Nat.mul_le_mul_left _ (by omega)
 omega
theorem ptT_le (ha : inC a) (hc : inC c) (hd : inC d) (hB : ptB a b c d ≠ 0) : (ptT a b c d).num.natAbs ≤ 8 * (CB * CB) ∧ (ptT a b c d).den ≤ (ptB a b c d).natAbs := by
 obtain ⟨h1, h2⟩ := div_int (a := ptA a b c d) hB
 exact ⟨Nat.le_trans h1 (ptA_le ha hc hd), h2⟩
theorem mulT_le {k : Int} (hk : k.natAbs ≤ CB + CB) {r : Rat} (hr : r.num.natAbs ≤ 8 * (CB * CB)) : ((k : Rat) * r).num.natAbs < 2 ^ 80 ∧ ((k : Rat) * r).den ≤ r.den := by
 obtain ⟨h1, h2⟩ := mul_int_le k r
 refine ⟨?_, h2⟩
 have h3 : k.natAbs * r.num.natAbs ≤ 8388608 * 140737488355328 := Nat.mul_le_mul (by have := cb_sz; omega) (by have := cb2; omega)
 have : (2 : Nat) ^ 80 = 1208925819614629174706176 := by decide
 omega
theorem addT_le {k : Int} (hk : k.natAbs ≤ CB) {r : Rat} (hr : r.num.natAbs < 2 ^ 80) (hd : r.den ≤ 8 * (CB * CB)) : ((k : Rat) + r).num.natAbs < 2 ^ 81 ∧ ((k : Rat) + r).den ≤ r.den := by
 obtain ⟨h1, h2⟩ := add_int_le k r
 refine ⟨?_, h2⟩
 have h3 : k.natAbs * r.den ≤ 4194304 * 140737488355328 := Nat.mul_le_mul (by have := cb_sz; omega) (by have := cb2; omega)
 have : (2 : Nat) ^ 80 = 1208925819614629174706176 := by decide
 have : (2 : Nat) ^ 81 = 2417851639229258349412352 := by decide
 omega
theorem subT_le {k : Int} (hk : k.natAbs ≤ CB) {r : Rat} (hr : r.num.natAbs < 2 ^ 81) (hd : r.den ≤ 8 * (CB * CB)) : (r - (k : Rat)).num.natAbs < 2 ^ 82 ∧ (r - (k : Rat)).den ≤ r.den := by
 obtain ⟨h1, h2⟩ := sub_int_le r k
 refine ⟨?_, h2⟩
 have h3 : k.natAbs * r.den ≤ 4194304 * 140737488355328 := Nat.mul_le_mul (by have := cb_sz; omega) (by have := cb2; omega)
 have : (2 : Nat) ^ 82 = 4835703278458516698824704 := by decide
 have : (2 : Nat) ^ 81 = 2417851639229258349412352 := by decide
 omega
theorem rb_lt {r : Rat} (h1 : r.num.natAbs < 2 ^ 82) (h2 : r.den < 2 ^ 82) : RB r := by
 have : (2 : Nat) ^ 82 = 4835703278458516698824704 := by decide
 exact ⟨sz_96 (by omega), sz_96 (by omega)⟩
theorem int1 {k : Int} (hk : k.natAbs ≤ CB + CB) : RB (k : Rat) := by
 have h1 := cb_sz
 have h2 : (2 : Nat) ^ 82 = 4835703278458516698824704 := by decide
 refine rb_lt ?_ ?_
 ·rw [num_int]; omega
 ·rw [den_int]; omega
end
section
variable {t : TypeId} {w w' : World} {G : Nat} {cs : List Value} {v : Value}
theorem IsR.oth {r : Rat} (hb : Blk t w G cs) (hn : nou cs = true) (k : Kept (fun b => b = G) w w') (h : IsR r v w) : IsR r v w' := by
 obtain ⟨u, d, h1, h2, h3⟩ := h; exact ⟨u, d, h1, h2.other hb hn k, h3.other hb hn k⟩
theorem IsP.oth {x y : Rat} (hb : Blk t w G cs) (hn : nou cs = true) (k : Kept (fun b => b = G) w w') (h : IsP x y v w) : IsP x y v w' := by
 obtain ⟨u, d, u', d', h1, h2, h3, h4, h5⟩ := h; exact ⟨u, d, u', d', h1, h2.other hb hn k, h3.other hb hn k, h4.other hb hn k, h5.other hb hn k⟩
def IsOkR (r : Rat) : Value → World → Prop := IsOk (IsR r)
theorem IsOkR.kp (r : Rat) : Kp (IsOkR r) := fun v w w' he h => by obtain ⟨u, h1, h2⟩ := h; exact ⟨u, h1, h2.ext he⟩
theorem IsOkR.oth {r : Rat} (hb : Blk t w G cs) (hn : nou cs = true) (k : Kept (fun b => b = G) w w') (h : IsOkR r v w) : IsOkR r v w' := by obtain ⟨u, h1, h2⟩ := h; exact ⟨u, h1, h2.oth hb hn k⟩
end
def Any : Value → World → Prop := fun _ _ => True
theorem Any.kp : Kp Any := fun _ _ _ _ _ => trivial
/- a ratio in a block of the call's own -/
def StR (n : Nat) (r : Rat) : Value → World → Prop := fun v w => ∃ g u d, v = .pointer (some ⟨g, 0, none⟩) ∧ n ≤ g ∧ Blk 145 w g [.bool (negI r.num), u, d] ∧ NatAt w u r.num.natAbs ∧ NatAt w d r.den
theorem StR.kp (n : Nat) (r : Rat) : Kp (StR n r) := fun v w w' he h => by obtain ⟨g, u, d, h1, h2, h3, h4, h5⟩ := h; exact ⟨g, u, d, h1, h2, h3.ext he, h4.ext he, h5.ext he⟩
/- between points of whole coordinates -/
theorem psubI_any (a b : Int × Int) (v v' : Value) (w : World) (h : IsP (a.1 : Rat) (a.2 : Rat) v w) (h' : IsP (b.1 : Rat) (b.2 : Rat) v' w) (ia : inC a) (ib : inC b) : Calls Tryz.prog 87 #[v, v'] w (Ret (IsP ((a.1 - b.1 : Int) : Rat) ((a.2 - b.2 : Int) : Rat)) w) := by
 have hr : ∀ z : Int, z.natAbs ≤ CB → RB (z : Rat) := fun z hz => int1 (by omega)
 have h := psub_any _ _ _ _ v v' w h h' (hr _ ia.1) (hr _ ib.1) (hr _ ia.2) (hr _ ib.2) (by rw [den_int, den_int]; exact db_one) (by rw [den_int, den_int]; exact db_one) (by rw [den_int]; exact db_one) (by rw [den_int]; exact db_one)
 rw [rat_sub_int, rat_sub_int] at h
 exact h
theorem prodI {x y : Int} (hx : x.natAbs ≤ CB + CB) (hy : y.natAbs ≤ CB + CB) : RB ((x * y : Int) : Rat) := by
 refine rb_lt ?_ (by rw [den_int]; decide)
 rw [num_int, Int.natAbs_mul]
 have h1 : x.natAbs * y.natAbs ≤ 8388608 * 8388608 := Nat.mul_le_mul (by have := cb_sz; omega) (by have := cb_sz; omega)
 have : (2 : Nat) ^ 82 = 4835703278458516698824704 := by decide
 omega
theorem pcrossI_any (x y x' y' : Int) (v v' : Value) (w : World) (h : IsP (x : Rat) (y : Rat) v w) (h' : IsP (x' : Rat) (y' : Rat) v' w) (hx : x.natAbs ≤ CB + CB) (hy : y.natAbs ≤ CB + CB) (hx' : x'.natAbs ≤ CB + CB) (hy' : y'.natAbs ≤ CB + CB) : Calls Tryz.prog 107 #[v, v'] w (Ret (IsR ((x * y' - y * x' : Int) : Rat)) w) := by
 have h := pcross_any _ _ _ _ v v' w h h' (int1 hx) (int1 hx') (int1 hy) (int1 hy') (by rw [rat_mul_int]; exact prodI hx hy') (by rw [rat_mul_int]; exact prodI hy hx') (by rw [den_int, den_int]; exact db_one) (by rw [den_int, den_int]; exact db_one) (by rw [rat_mul_int, rat_mul_int, den_int, den_int]; exact db_one) (by rw [rat_mul_int, den_int]; exact db_one)
 rw [rat_mul_int, rat_mul_int, rat_sub_int] at h
 exact h
def IsOk0 (T : Value → World → Prop) : Value → World → Prop := fun v w => ∃ u, v = .tuple #[u, .int .i64 0] ∧ T u w
theorem rbA {a b c d : Int × Int} (ha : inC a) (hc : inC c) (hd : inC d) : RB ((ptA a b c d : Int) : Rat) := by
 have h1 := ptA_le (b := b) ha hc hd
 have h2 := cb2
 refine rb_lt ?_ (by rw [den_int]; decide)
 rw [num_int]
 have : (2 : Nat) ^ 82 = 4835703278458516698824704 := by decide
 omega
theorem rbB {a b c d : Int × Int} (ha : inC a) (hb : inC b) (hc : inC c) (hd : inC d) : RB ((ptB a b c d : Int) : Rat) := by
 have h1 := ptB_le ha hb hc hd
 have h2 := cb2
 refine rb_lt ?_ (by rw [den_int]; decide)
 rw [num_int]
 have : (2 : Nat) ^ 82 = 4835703278458516698824704 := by decide
 omega
theorem dbB {a b c d : Int × Int} (ha : inC a) (hb : inC b) (hc : inC c) (hd : inC d) : (ptB a b c d).natAbs < DB := by
 have h1 := ptB_le ha hb hc hd
 have h2 := cb_db
 omega
theorem ponI_any (a b c d : Int × Int) (v v' z : Value) (w : World) (h : IsP (a.1 : Rat) (a.2 : Rat) v w) (h' : IsP (b.1 : Rat) (b.2 : Rat) v' w) (hr : IsR (ptT a b c d) z w) (ia : inC a) (ib : inC b) (ic : inC c) (id' : inC d) (hB : ptB a b c d ≠ 0) : Calls Tryz.prog 108 #[v, v', z] w (Ret (IsP (ptX a b c d) (ptY a b c d)) w) := by
 have hi : ∀ z : Int, z.natAbs ≤ CB → RB (z : Rat) := fun z hz => int1 (by omega)
 obtain ⟨t1, t2⟩ := ptT_le ia ic id' hB
 have t3 := ptB_le ia ib ic id'
 have t4 := cb2; have t5 := cb_db
 have e82 : (2 : Nat) ^ 82 = 4835703278458516698824704 := by decide
 have e80 : (2 : Nat) ^ 80 = 1208925819614629174706176 := by decide
 have m1 := mulT_le (abs_sub ib.1 ia.1) t1
 have m2 := mulT_le (abs_sub ib.2 ia.2) t1
 have hT : RB (ptT a b c d) := rb_lt (by omega) (by omega)
 have h := pon_any _ _ _ _ _ v v' z w h h' hr (hi _ ia.1) (hi _ ib.1) (hi _ ia.2) (hi _ ib.2) hT (by rw [rat_sub_int]; exact int1 (abs_sub ib.1 ia.1)) (by rw [rat_sub_int]; exact int1 (abs_sub ib.2 ia.2))
  (by rw [rat_sub_int]; exact rb_lt (by omega) (by omega)) (by rw [rat_sub_int]; exact rb_lt (by omega) (by omega)) (by rw [den_int, den_int]; exact db_one) (by rw [den_int, den_int]; exact db_one) (by rw [den_int]; exact db_one) (by rw [den_int]; exact db_one)
  (by rw [rat_sub_int, den_int]; omega) (by rw [rat_sub_int, den_int]; omega) (by rw [rat_sub_int, den_int]; omega) (by rw [rat_sub_int, den_int]; omega)
 rw [rat_sub_int, rat_sub_int] at h
 exact h
set_option maxRecDepth 100000 in
set_option maxHeartbeats 6400000 in
theorem pmeet_any (a b c d : Int × Int) (v1 v2 v3 v4 : Value) (w : World) (h1 : IsP (a.1 : Rat) (a.2 : Rat) v1 w) (h2 : IsP (b.1 : Rat) (b.2 : Rat) v2 w) (h3 : IsP (c.1 : Rat) (c.2 : Rat) v3 w) (h4 : IsP (d.1 : Rat) (d.2 : Rat) v4 w) (ia : inC a) (ib : inC b) (ic : inC c) (id' : inC d) (hB : ptB a b c d ≠ 0) : Calls Tryz.prog 84 #[v1, v2, v3, v4] w (Ret (IsOk0 (IsP (ptX a b c d) (ptY a b c d))) w) := by
 have HBN0 := Lib.hid hB
 clear hB
 have HV1 := Lib.hid h1; have HV2 := Lib.hid h2; have HV3 := Lib.hid h3; have HV4 := Lib.hid h4
 have HIA := Lib.hid ia; have HIB := Lib.hid ib; have HIC := Lib.hid ic; have HID := Lib.hid id'
 clear ia ib ic id'
 obtain ⟨u1, u2, u3, u4, rfl, h1, h2, h3, h4⟩ := h1
 have HA1 := Lib.hid h1; have HA2 := Lib.hid h2; have HA3 := Lib.hid h3; have HA4 := Lib.hid h4
 obtain ⟨A1, k1, c1, rfl⟩ := h1.form
 obtain ⟨A2, k2, c2, rfl⟩ := h2.form
 obtain ⟨A3, k3, c3, rfl⟩ := h3.form
 obtain ⟨A4, k4, c4, rfl⟩ := h4.form
 clear h1 h2 h3 h4
 obtain ⟨s1, hs⟩ : ∃ b_, b_ = negI (a.1 : Rat).num := ⟨_, rfl⟩
 rw [← hs] at HV1 ⊢
 have HE1 := Lib.hid hs
 clear hs
 obtain ⟨s2, hs⟩ : ∃ b_, b_ = negI (a.2 : Rat).num := ⟨_, rfl⟩
 rw [← hs] at HV1 ⊢
 have HE2 := Lib.hid hs
 clear hs
 obtain ⟨u5, u6, u7, u8, rfl, h5, h6, h7, h8⟩ := h2
 have HA5 := Lib.hid h5; have HA6 := Lib.hid h6; have HA7 := Lib.hid h7; have HA8 := Lib.hid h8
 obtain ⟨A5, k5, c5, rfl⟩ := h5.form
 obtain ⟨A6, k6, c6, rfl⟩ := h6.form
 obtain ⟨A7, k7, c7, rfl⟩ := h7.form
 obtain ⟨A8, k8, c8, rfl⟩ := h8.form
 clear h5 h6 h7 h8
 obtain ⟨s3, hs⟩ : ∃ b_, b_ = negI (b.1 : Rat).num := ⟨_, rfl⟩
 rw [← hs] at HV2 ⊢
 have HE5 := Lib.hid hs
 clear hs
 obtain ⟨s4, hs⟩ : ∃ b_, b_ = negI (b.2 : Rat).num := ⟨_, rfl⟩
 rw [← hs] at HV2 ⊢
 have HE6 := Lib.hid hs
 clear hs
 obtain ⟨u9, u10, u11, u12, rfl, h9, h10, h11, h12⟩ := h3
 have HA9 := Lib.hid h9; have HA10 := Lib.hid h10; have HA11 := Lib.hid h11; have HA12 := Lib.hid h12
 obtain ⟨A9, k9, c9, rfl⟩ := h9.form
 obtain ⟨A10, k10, c10, rfl⟩ := h10.form
 obtain ⟨A11, k11, c11, rfl⟩ := h11.form
 obtain ⟨A12, k12, c12, rfl⟩ := h12.form
 clear h9 h10 h11 h12
 obtain ⟨s5, hs⟩ : ∃ b_, b_ = negI (c.1 : Rat).num := ⟨_, rfl⟩
 rw [← hs] at HV3 ⊢
 have HE9 := Lib.hid hs
 clear hs
 obtain ⟨s6, hs⟩ : ∃ b_, b_ = negI (c.2 : Rat).num := ⟨_, rfl⟩
 rw [← hs] at HV3 ⊢
 have HE10 := Lib.hid hs
 clear hs
 obtain ⟨u13, u14, u15, u16, rfl, h13, h14, h15, h16⟩ := h4
 have HA13 := Lib.hid h13; have HA14 := Lib.hid h14; have HA15 := Lib.hid h15; have HA16 := Lib.hid h16
 obtain ⟨A13, k13, c13, rfl⟩ := h13.form
 obtain ⟨A14, k14, c14, rfl⟩ := h14.form
 obtain ⟨A15, k15, c15, rfl⟩ := h15.form
 obtain ⟨A16, k16, c16, rfl⟩ := h16.form
 clear h13 h14 h15 h16
 obtain ⟨s7, hs⟩ : ∃ b_, b_ = negI (d.1 : Rat).num := ⟨_, rfl⟩
 rw [← hs] at HV4 ⊢
 have HE13 := Lib.hid hs
 clear hs
 obtain ⟨s8, hs⟩ : ∃ b_, b_ = negI (d.2 : Rat).num := ⟨_, rfl⟩
 rw [← hs] at HV4 ⊢
 have HE14 := Lib.hid hs
 clear hs
 go_enter Tryz.func84, Tryz.ntmps84
 go_upto_region 1 with fail
 refine wp_at fun W0 hW0 => ?_
 have HX0 : Hid (Ext w W0) := by show Ext _ _; rw [hW0]; exact (((((Ext.refl _).alloc _).alloc _).alloc _).alloc _).alloc _
 have HB1 : Hid (Blk 155 W0 (w.heap.size) [.bool s1, .slice A1 k1 c1, .slice A2 k2 c2, .bool s2, .slice A3 k3 c3, .slice A4 k4 c4]) := by show Blk _ _ _ _; rw [hW0]; exact ((((Blk.new' rfl).ext ((Ext.refl _).alloc _)).ext ((Ext.refl _).alloc _)).ext ((Ext.refl _).alloc _)).ext ((Ext.refl _).alloc _)
 have HB2 : Hid (Blk 155 W0 (w.heap.size + 1) [.bool s3, .slice A5 k5 c5, .slice A6 k6 c6, .bool s4, .slice A7 k7 c7, .slice A8 k8 c8]) := by show Blk _ _ _ _; rw [hW0]; exact (((Blk.new' (by simp)).ext ((Ext.refl _).alloc _)).ext ((Ext.refl _).alloc _)).ext ((Ext.refl _).alloc _)
 have HB3 : Hid (Blk 155 W0 (w.heap.size + 1 + 1) [.bool s5, .slice A9 k9 c9, .slice A10 k10 c10, .bool s6, .slice A11 k11 c11, .slice A12 k12 c12]) := by show Blk _ _ _ _; rw [hW0]; exact ((Blk.new' (by simp)).ext ((Ext.refl _).alloc _)).ext ((Ext.refl _).alloc _)
 have HB4 : Hid (Blk 155 W0 (w.heap.size + 1 + 1 + 1) [.bool s7, .slice A13 k13 c13, .slice A14 k14 c14, .bool s8, .slice A15 k15 c15, .slice A16 k16 c16]) := by show Blk _ _ _ _; rw [hW0]; exact (Blk.new' (by simp)).ext ((Ext.refl _).alloc _)
 have HR0 : Hid (Blk 155 W0 (w.heap.size + 1 + 1 + 1 + 1) [.bool false, .slice none 0 0, .slice none 0 0, .bool false, .slice none 0 0, .slice none 0 0]) := by show Blk _ _ _ _; rw [hW0]; exact Blk.new' (by simp)
 clear hW0
 obtain ⟨c0, c1, c2, c3, c4, c5⟩ := blk6c HB4.out
 obtain ⟨e0, e1, e2, e3, e4, e5⟩ := blk6c HB3.out
 go_wp2_with fail
 refine (psubI_any d c _ _ _ (HV4.out.ext HX0.out) (HV3.out.ext HX0.out) HID.out HIC.out).mono ?_
 rintro e w1 ⟨v1, rfl, hv1, he1⟩
 have HW := Lib.hid hv1
 obtain ⟨u21, u22, u23, u24, rfl, h21, h22, h23, h24⟩ := hv1
 have HA21 := Lib.hid h21; have HA22 := Lib.hid h22; have HA23 := Lib.hid h23; have HA24 := Lib.hid h24
 obtain ⟨A21, k21, c21, rfl⟩ := h21.form
 obtain ⟨A22, k22, c22, rfl⟩ := h22.form
 obtain ⟨A23, k23, c23, rfl⟩ := h23.form
 obtain ⟨A24, k24, c24, rfl⟩ := h24.form
 clear h21 h22 h23 h24
 obtain ⟨s11, hs⟩ : ∃ b_, b_ = negI ((d.1 - c.1 : Int) : Rat).num := ⟨_, rfl⟩
 rw [← hs] at HW ⊢
 have HE21 := Lib.hid hs
 clear hs
 obtain ⟨s12, hs⟩ : ∃ b_, b_ = negI ((d.2 - c.2 : Int) : Rat).num := ⟨_, rfl⟩
 rw [← hs] at HW ⊢
 have HE22 := Lib.hid hs
 clear hs
 clear c0 c1 c2 c3 c4 c5 e0 e1 e2 e3 e4 e5
 have HE1 := Lib.hid he1
 clear he1
 go_upto_region 2 with fail
 refine wp_at fun W2 hW2 => ?_
 have he2 : Ext w1 W2 := by rw [hW2]; exact (Ext.refl _).alloc _
 have HBN : Hid (Blk 155 W2 w1.heap.size [.bool s11, .slice A21 k21 c21, .slice A22 k22 c22, .bool s12, .slice A23 k23 c23, .slice A24 k24 c24]) := by show Blk _ _ _ _; rw [hW2]; exact Blk.new' rfl
 have HX2 : Hid (Ext w W2) := HX0.out.trans (HE1.out.trans he2)
 have hx02 := HE1.out.trans he2
 have HWW := Lib.hid (HW.out.ext he2)
 have HC1 := Lib.hid (HB1.out.ext hx02); have HC2 := Lib.hid (HB2.out.ext hx02); have HC3 := Lib.hid (HB3.out.ext hx02); have HR2 := Lib.hid (HR0.out.ext hx02)
 clear hW2 he2 hx02 HB1 HB2 HB3 HB4 HR0 HX0 HE1 HW
 have HX0 := HX2
 refine region_slotsP (l := 16) (m := 1) (N := 37) (ai := 14) (si := 15) (da := 11) (W0 := W2) [17, 18, 19, 20, 21, 22, 23, 24, 25, 26, 27, 16, 28, 29, 11, 1037] [IsP (c.1 : Rat) (c.2 : Rat), IsP (a.1 : Rat) (a.2 : Rat), IsP ((c.1 - a.1 : Int) : Rat) ((c.2 - a.2 : Int) : Rat), IsP ((d.1 - c.1 : Int) : Rat) ((d.2 - c.2 : Int) : Rat), IsR ((ptA a b c d : Int) : Rat), IsP (b.1 : Rat) (b.2 : Rat), IsP (a.1 : Rat) (a.2 : Rat), IsP ((b.1 - a.1 : Int) : Rat) ((b.2 - a.2 : Int) : Rat), IsP ((d.1 - c.1 : Int) : Rat) ((d.2 - c.2 : Int) : Rat), IsR ((ptB a b c d : Int) : Rat), IsOkR (ptT a b c d), IsOkR (ptT a b c d), IsR (ptT a b c d), Fx (.bool true), IsNew 145 W2.heap.size [.bool false, .slice none 0 0, .slice none 0 0], Any] (StR W2.heap.size (ptT a b c d)) (by kernel_rfl) (by omega) (by kernel_rfl) (by kernel_rfl) (Ext.refl _) ?kp (StR.kp _ _) (fun i hi his => ?_) ?st (fun xs w1 hx hT => ?_)
 case kp => exact ⟨IsP.kp _ _, IsP.kp _ _, IsP.kp _ _, IsP.kp _ _, IsR.kp _, IsP.kp _ _, IsP.kp _ _, IsP.kp _ _, IsP.kp _ _, IsR.kp _, IsOkR.kp _, IsOkR.kp _, IsR.kp _, Fx.kp _, IsNew.kp _ _ _, Any.kp, trivial⟩
 case st =>
  refine so rfl ?_
  intro fb wi hx hb hd K hK
  have y11 : IsNew 145 W2.heap.size [.bool false, .slice none 0 0, .slice none 0 0] (fb.eval (.tmp 11)) wi := hd 14 11 rfl (by kernel_rfl)
  have y28 : IsR (ptT a b c d) (fb.eval (.tmp 28)) wi := hd 12 28 rfl (by kernel_rfl)
  obtain ⟨u, dd, x28, g1, g2⟩ := y28
  obtain ⟨Au, ku, cu, rfl⟩ := g1.form
  obtain ⟨Ad, kd, cd, rfl⟩ := g2.form
  obtain ⟨g, x11, hg, hb5⟩ := y11
  obtain ⟨c0, c1, c2⟩ := blk3c hb5
  obtain ⟨f0, f1, f2⟩ := blk3f hb5
  refine step_skipR (wanted_all rfl) (w' := ((wi.setCell ⟨g, 0, none⟩ (.bool (negI (ptT a b c d).num))).setCell ⟨g, 1, none⟩ (.slice Au ku cu)).setCell ⟨g, 2, none⟩ (.slice Ad kd cd)) (fun ρ hρ hc => ?_) (hK _ (kext hx hg (ks3 wi g (.bool (negI (ptT a b c d).num)) (.slice Au ku cu) (.slice Ad kd cd))) (fun j hj hja hjs => ?_) (⟨g, _, _, x11, hg, ((hb5.set 0 _).set 1 _).set 2 _, g1.other hb5 rfl (ks3 wi g (.bool (negI (ptT a b c d).num)) (.slice Au ku cu) (.slice Ad kd cd)), g2.other hb5 rfl (ks3 wi g (.bool (negI (ptT a b c d).num)) (.slice Au ku cu) (.slice Ad kd cd))⟩))
  ·have r11 := (hρ (.tmp 11)).trans x11; have r28 := (hρ (.tmp 28)).trans x28
   simp [execOp, go_sem, r11, r28, c0, c1, c2, f0, f1, f2]
  ·match j, hj with
   |0, _ => exact fun v_ (h : IsP (c.1 : Rat) (c.2 : Rat) v_ wi) => (show IsP (c.1 : Rat) (c.2 : Rat) v_ _ from IsP.oth hb5 rfl (ks3 wi g (.bool (negI (ptT a b c d).num)) (.slice Au ku cu) (.slice Ad kd cd)) h)
   |1, _ => exact fun v_ (h : IsP (a.1 : Rat) (a.2 : Rat) v_ wi) => (show IsP (a.1 : Rat) (a.2 : Rat) v_ _ from IsP.oth hb5 rfl (ks3 wi g (.bool (negI (ptT a b c d).num)) (.slice Au ku cu) (.slice Ad kd cd)) h)
   |2, _ => exact fun v_ (h : IsP ((c.1 - a.1 : Int) : Rat) ((c.2 - a.2 : Int) : Rat) v_ wi) => (show IsP ((c.1 - a.1 : Int) : Rat) ((c.2 - a.2 : Int) : Rat) v_ _ from IsP.oth hb5 rfl (ks3 wi g (.bool (negI (ptT a b c d).num)) (.slice Au ku cu) (.slice Ad kd cd)) h)
   |3, _ => exact fun v_ (h : IsP ((d.1 - c.1 : Int) : Rat) ((d.2 - c.2 : Int) : Rat) v_ wi) => (show IsP ((d.1 - c.1 : Int) : Rat) ((d.2 - c.2 : Int) : Rat) v_ _ from IsP.oth hb5 rfl (ks3 wi g (.bool (negI (ptT a b c d).num)) (.slice Au ku cu) (.slice Ad kd cd)) h)
   |4, _ => exact fun v_ (h : IsR ((ptA a b c d : Int) : Rat) v_ wi) => (show IsR ((ptA a b c d : Int) : Rat) v_ _ from IsR.oth hb5 rfl (ks3 wi g (.bool (negI (ptT a b c d).num)) (.slice Au ku cu) (.slice Ad kd cd)) h)
   |5, _ => exact fun v_ (h : IsP (b.1 : Rat) (b.2 : Rat) v_ wi) => (show IsP (b.1 : Rat) (b.2 : Rat) v_ _ from IsP.oth hb5 rfl (ks3 wi g (.bool (negI (ptT a b c d).num)) (.slice Au ku cu) (.slice Ad kd cd)) h)
   |6, _ => exact fun v_ (h : IsP (a.1 : Rat) (a.2 : Rat) v_ wi) => (show IsP (a.1 : Rat) (a.2 : Rat) v_ _ from IsP.oth hb5 rfl (ks3 wi g (.bool (negI (ptT a b c d).num)) (.slice Au ku cu) (.slice Ad kd cd)) h)
   |7, _ => exact fun v_ (h : IsP ((b.1 - a.1 : Int) : Rat) ((b.2 - a.2 : Int) : Rat) v_ wi) => (show IsP ((b.1 - a.1 : Int) : Rat) ((b.2 - a.2 : Int) : Rat) v_ _ from IsP.oth hb5 rfl (ks3 wi g (.bool (negI (ptT a b c d).num)) (.slice Au ku cu) (.slice Ad kd cd)) h)
   |8, _ => exact fun v_ (h : IsP ((d.1 - c.1 : Int) : Rat) ((d.2 - c.2 : Int) : Rat) v_ wi) => (show IsP ((d.1 - c.1 : Int) : Rat) ((d.2 - c.2 : Int) : Rat) v_ _ from IsP.oth hb5 rfl (ks3 wi g (.bool (negI (ptT a b c d).num)) (.slice Au ku cu) (.slice Ad kd cd)) h)
   |9, _ => exact fun v_ (h : IsR ((ptB a b c d : Int) : Rat) v_ wi) => (show IsR ((ptB a b c d : Int) : Rat) v_ _ from IsR.oth hb5 rfl (ks3 wi g (.bool (negI (ptT a b c d).num)) (.slice Au ku cu) (.slice Ad kd cd)) h)
   |10, _ => exact fun v_ (h : IsOkR (ptT a b c d) v_ wi) => (show IsOkR (ptT a b c d) v_ _ from IsOkR.oth hb5 rfl (ks3 wi g (.bool (negI (ptT a b c d).num)) (.slice Au ku cu) (.slice Ad kd cd)) h)
   |11, _ => exact fun v_ (h : IsOkR (ptT a b c d) v_ wi) => (show IsOkR (ptT a b c d) v_ _ from IsOkR.oth hb5 rfl (ks3 wi g (.bool (negI (ptT a b c d).num)) (.slice Au ku cu) (.slice Ad kd cd)) h)
   |12, _ => exact fun v_ (h : IsR (ptT a b c d) v_ wi) => (show IsR (ptT a b c d) v_ _ from IsR.oth hb5 rfl (ks3 wi g (.bool (negI (ptT a b c d).num)) (.slice Au ku cu) (.slice Ad kd cd)) h)
   |13, _ => exact fun v_ (h : v_ = (.bool true)) => (show v_ = (.bool true) from h)
   |14, _ => exact absurd rfl hja
   |15, _ => exact absurd rfl hjs
   |n + 16, hn => exact absurd hn (by omega)
 ·match i, hi with
  |0, _ =>
   refine so rfl ?_
   intro fb wi hx hb hd K hK
   have x6 : fb.eval (.tmp 6) = .pointer (some ⟨w.heap.size + 1 + 1, 0, none⟩) := hb 6 rfl
   have cf0 := (HC3.out.ext hx).cell 0
   have cf1 := (HC3.out.ext hx).cell 1
   have cf2 := (HC3.out.ext hx).cell 2
   have cf3 := (HC3.out.ext hx).cell 3
   have cf4 := (HC3.out.ext hx).cell 4
   have cf5 := (HC3.out.ext hx).cell 5
   simp only [List.getElem?_cons_zero, List.getElem?_cons_succ] at cf0 cf1 cf2 cf3 cf4 cf5
   refine sv rfl (v := .agg #[.bool s5, .slice A9 k9 c9, .slice A10 k10 c10, .bool s6, .slice A11 k11 c11, .slice A12 k12 c12]) (w' := wi) (fun ρ hρ hc => ?_) (hK _ _ (Ext.refl _) (HV3.out.ext (HX0.out.trans hx)))
   have r6 := (hρ (.tmp 6)).trans x6
   simp [execOp, go_sem, r6, cf0, cf1, cf2, cf3, cf4, cf5]
  |1, _ =>
   refine so rfl ?_
   intro fb wi hx hb hd K hK
   have x4 : fb.eval (.tmp 4) = .pointer (some ⟨w.heap.size, 0, none⟩) := hb 4 rfl
   have cf0 := (HC1.out.ext hx).cell 0
   have cf1 := (HC1.out.ext hx).cell 1
   have cf2 := (HC1.out.ext hx).cell 2
   have cf3 := (HC1.out.ext hx).cell 3
   have cf4 := (HC1.out.ext hx).cell 4
   have cf5 := (HC1.out.ext hx).cell 5
   simp only [List.getElem?_cons_zero, List.getElem?_cons_succ] at cf0 cf1 cf2 cf3 cf4 cf5
   refine sv rfl (v := .agg #[.bool s1, .slice A1 k1 c1, .slice A2 k2 c2, .bool s2, .slice A3 k3 c3, .slice A4 k4 c4]) (w' := wi) (fun ρ hρ hc => ?_) (hK _ _ (Ext.refl _) (HV1.out.ext (HX0.out.trans hx)))
   have r4 := (hρ (.tmp 4)).trans x4
   simp [execOp, go_sem, r4, cf0, cf1, cf2, cf3, cf4, cf5]
  |2, _ =>
   refine so rfl ?_
   intro fb wi hx hb hd K hK
   have y17 : IsP (c.1 : Rat) (c.2 : Rat) (fb.eval (.tmp 17)) wi := hd 0 17 rfl (by kernel_rfl)
   have y18 : IsP (a.1 : Rat) (a.2 : Rat) (fb.eval (.tmp 18)) wi := hd 1 18 rfl (by kernel_rfl)
   refine sc rfl 87 [.tmp 17, .tmp 18] #[155, 155] rfl _ Tryz.func87 rfl (by decide +kernel) [fb.eval (.tmp 17), fb.eval (.tmp 18)] rfl (psubI_any c a _ _ wi y17 y18 HIC.out HIA.out) (fun e w' h => rk hK h)
  |3, _ =>
   refine so rfl ?_
   intro fb wi hx hb hd K hK
   have x10 : fb.eval (.tmp 10) = .pointer (some ⟨w1.heap.size, 0, none⟩) := hb 10 rfl
   have cf0 := (HBN.out.ext hx).cell 0
   have cf1 := (HBN.out.ext hx).cell 1
   have cf2 := (HBN.out.ext hx).cell 2
   have cf3 := (HBN.out.ext hx).cell 3
   have cf4 := (HBN.out.ext hx).cell 4
   have cf5 := (HBN.out.ext hx).cell 5
   simp only [List.getElem?_cons_zero, List.getElem?_cons_succ] at cf0 cf1 cf2 cf3 cf4 cf5
   refine sv rfl (v := .agg #[.bool s11, .slice A21 k21 c21, .slice A22 k22 c22, .bool s12, .slice A23 k23 c23, .slice A24 k24 c24]) (w' := wi) (fun ρ hρ hc => ?_) (hK _ _ (Ext.refl _) (HWW.out.ext hx))
   have r10 := (hρ (.tmp 10)).trans x10
   simp [execOp, go_sem, r10, cf0, cf1, cf2, cf3, cf4, cf5]
  |4, _ =>
   refine so rfl ?_
   intro fb wi hx hb hd K hK
   have y19 : IsP ((c.1 - a.1 : Int) : Rat) ((c.2 - a.2 : Int) : Rat) (fb.eval (.tmp 19)) wi := hd 2 19 rfl (by kernel_rfl)
   have y20 : IsP ((d.1 - c.1 : Int) : Rat) ((d.2 - c.2 : Int) : Rat) (fb.eval (.tmp 20)) wi := hd 3 20 rfl (by kernel_rfl)
   refine sc rfl 107 [.tmp 19, .tmp 20] #[155, 155] rfl _ Tryz.func107 rfl (by decide +kernel) [fb.eval (.tmp 19), fb.eval (.tmp 20)] rfl (pcrossI_any _ _ _ _ _ _ wi y19 y20 (abs_sub HIC.out.1 HIA.out.1) (abs_sub HIC.out.2 HIA.out.2) (abs_sub HID.out.1 HIC.out.1) (abs_sub HID.out.2 HIC.out.2)) (fun e w' h => rk hK h)
  |5, _ =>
   refine so rfl ?_
   intro fb wi hx hb hd K hK
   have x5 : fb.eval (.tmp 5) = .pointer (some ⟨w.heap.size + 1, 0, none⟩) := hb 5 rfl
   have cf0 := (HC2.out.ext hx).cell 0
   have cf1 := (HC2.out.ext hx).cell 1
   have cf2 := (HC2.out.ext hx).cell 2
   have cf3 := (HC2.out.ext hx).cell 3
   have cf4 := (HC2.out.ext hx).cell 4
   have cf5 := (HC2.out.ext hx).cell 5
   simp only [List.getElem?_cons_zero, List.getElem?_cons_succ] at cf0 cf1 cf2 cf3 cf4 cf5
   refine sv rfl (v := .agg #[.bool s3, .slice A5 k5 c5, .slice A6 k6 c6, .bool s4, .slice A7 k7 c7, .slice A8 k8 c8]) (w' := wi) (fun ρ hρ hc => ?_) (hK _ _ (Ext.refl _) (HV2.out.ext (HX0.out.trans hx)))
   have r5 := (hρ (.tmp 5)).trans x5
   simp [execOp, go_sem, r5, cf0, cf1, cf2, cf3, cf4, cf5]
  |6, _ =>
   refine so rfl ?_
   intro fb wi hx hb hd K hK
   have x4 : fb.eval (.tmp 4) = .pointer (some ⟨w.heap.size, 0, none⟩) := hb 4 rfl
   have cf0 := (HC1.out.ext hx).cell 0
   have cf1 := (HC1.out.ext hx).cell 1
   have cf2 := (HC1.out.ext hx).cell 2
   have cf3 := (HC1.out.ext hx).cell 3
   have cf4 := (HC1.out.ext hx).cell 4
   have cf5 := (HC1.out.ext hx).cell 5
   simp only [List.getElem?_cons_zero, List.getElem?_cons_succ] at cf0 cf1 cf2 cf3 cf4 cf5
   refine sv rfl (v := .agg #[.bool s1, .slice A1 k1 c1, .slice A2 k2 c2, .bool s2, .slice A3 k3 c3, .slice A4 k4 c4]) (w' := wi) (fun ρ hρ hc => ?_) (hK _ _ (Ext.refl _) (HV1.out.ext (HX0.out.trans hx)))
   have r4 := (hρ (.tmp 4)).trans x4
   simp [execOp, go_sem, r4, cf0, cf1, cf2, cf3, cf4, cf5]
  |7, _ =>
   refine so rfl ?_
   intro fb wi hx hb hd K hK
   have y22 : IsP (b.1 : Rat) (b.2 : Rat) (fb.eval (.tmp 22)) wi := hd 5 22 rfl (by kernel_rfl)
   have y23 : IsP (a.1 : Rat) (a.2 : Rat) (fb.eval (.tmp 23)) wi := hd 6 23 rfl (by kernel_rfl)
   refine sc rfl 87 [.tmp 22, .tmp 23] #[155, 155] rfl _ Tryz.func87 rfl (by decide +kernel) [fb.eval (.tmp 22), fb.eval (.tmp 23)] rfl (psubI_any b a _ _ wi y22 y23 HIB.out HIA.out) (fun e w' h => rk hK h)
  |8, _ =>
   refine so rfl ?_
   intro fb wi hx hb hd K hK
   have x10 : fb.eval (.tmp 10) = .pointer (some ⟨w1.heap.size, 0, none⟩) := hb 10 rfl
   have cf0 := (HBN.out.ext hx).cell 0
   have cf1 := (HBN.out.ext hx).cell 1
   have cf2 := (HBN.out.ext hx).cell 2
   have cf3 := (HBN.out.ext hx).cell 3
   have cf4 := (HBN.out.ext hx).cell 4
   have cf5 := (HBN.out.ext hx).cell 5
   simp only [List.getElem?_cons_zero, List.getElem?_cons_succ] at cf0 cf1 cf2 cf3 cf4 cf5
   refine sv rfl (v := .agg #[.bool s11, .slice A21 k21 c21, .slice A22 k22 c22, .bool s12, .slice A23 k23 c23, .slice A24 k24 c24]) (w' := wi) (fun ρ hρ hc => ?_) (hK _ _ (Ext.refl _) (HWW.out.ext hx))
   have r10 := (hρ (.tmp 10)).trans x10
   simp [execOp, go_sem, r10, cf0, cf1, cf2, cf3, cf4, cf5]
  |9, _ =>
   refine so rfl ?_
   intro fb wi hx hb hd K hK
   have y24 : IsP ((b.1 - a.1 : Int) : Rat) ((b.2 - a.2 : Int) : Rat) (fb.eval (.tmp 24)) wi := hd 7 24 rfl (by kernel_rfl)
   have y25 : IsP ((d.1 - c.1 : Int) : Rat) ((d.2 - c.2 : Int) : Rat) (fb.eval (.tmp 25)) wi := hd 8 25 rfl (by kernel_rfl)
   refine sc rfl 107 [.tmp 24, .tmp 25] #[155, 155] rfl _ Tryz.func107 rfl (by decide +kernel) [fb.eval (.tmp 24), fb.eval (.tmp 25)] rfl (pcrossI_any _ _ _ _ _ _ wi y24 y25 (abs_sub HIB.out.1 HIA.out.1) (abs_sub HIB.out.2 HIA.out.2) (abs_sub HID.out.1 HIC.out.1) (abs_sub HID.out.2 HIC.out.2)) (fun e w' h => rk hK h)
  |10, _ =>
   refine so rfl ?_
   intro fb wi hx hb hd K hK
   have y21 : IsR ((ptA a b c d : Int) : Rat) (fb.eval (.tmp 21)) wi := hd 4 21 rfl (by kernel_rfl)
   have y26 : IsR ((ptB a b c d : Int) : Rat) (fb.eval (.tmp 26)) wi := hd 9 26 rfl (by kernel_rfl)
   refine sc rfl 106 [.tmp 21, .tmp 26] #[145, 145] rfl _ Tryz.func106 rfl (by decide +kernel) [fb.eval (.tmp 21), fb.eval (.tmp 26)] rfl (rdiv_any _ _ _ _ wi y21 y26 (rbA HIA.out HIC.out HID.out) (rbB HIA.out HIB.out HIC.out HID.out) (by rw [den_int, num_int, Nat.one_mul]; exact dbB HIA.out HIB.out HIC.out HID.out) (by rw [num_int]; exact HBN0.out)) (fun e w' h => rk hK h)
  |11, _ =>
   refine so rfl ?_
   intro fb wi hx hb hd K hK
   have y27 : IsOkR (ptT a b c d) (fb.eval (.tmp 27)) wi := hd 10 27 rfl (by kernel_rfl)
   refine sv rfl (v := fb.eval (.tmp 27)) (w' := wi) (fun ρ hρ hc => ?_) (hK _ _ (Ext.refl _) y27)
   simp [execOp, go_sem, hρ (.tmp 27)]
  |12, _ =>
   refine so rfl ?_
   intro fb wi hx hb hd K hK
   have y16 : IsOkR (ptT a b c d) (fb.eval (.tmp 16)) wi := hd 11 16 rfl (by kernel_rfl)
   obtain ⟨u16, x16, g16⟩ := y16
   refine sv rfl (v := u16) (w' := wi) (fun ρ hρ hc => ?_) (hK _ _ (Ext.refl _) (g16))
   have r16 := (hρ (.tmp 16)).trans x16
   simp [execOp, go_sem, r16]
  |13, _ =>
   refine so rfl ?_
   intro fb wi hx hb hd K hK
   have y16 : IsOkR (ptT a b c d) (fb.eval (.tmp 16)) wi := hd 11 16 rfl (by kernel_rfl)
   obtain ⟨u16, x16, g16⟩ := y16
   refine sv rfl (v := .bool true) (w' := wi) (fun ρ hρ hc => ?_) (hK _ _ (Ext.refl _) (rfl))
   have r16 := (hρ (.tmp 16)).trans x16
   simp [execOp, go_sem, r16]
  |14, _ =>
   refine so rfl ?_
   intro fb wi hx hb hd K hK
   refine sv rfl (v := .pointer (some ⟨wi.heap.size, 0, none⟩)) (w' := wi.alloc (.cells #[.bool false, .slice none 0 0, .slice none 0 0] 145)) (fun ρ hρ hc => ?_) (hK _ _ ((Ext.refl _).alloc _) (⟨wi.heap.size, rfl, hx.size, Blk.new' rfl⟩))
   simp [execOp, go_sem]
  |15, _ =>
   exact absurd rfl his
  |n + 16, hn => exact absurd hn (by omega)
 ·skip
  have t11 : (StR W2.heap.size (ptT a b c d)) (xs 14) w1 := hT 14 (by decide) (by decide)
  have t29 : Fx (.bool true) (xs 13) w1 := hT 13 (by decide) (by decide)
  simp only [frOf, putAll, List.drop_succ_cons, List.drop_zero, List.setIfInBounds_toArray, List.set_cons_succ, List.set_cons_zero, Nat.zero_add, Nat.reduceAdd]
  obtain ⟨g5, u5, d5, q5, hg5, hb5, z1, z2⟩ := t11
  obtain ⟨A31, k31, c31, rfl⟩ := z1.form
  obtain ⟨A32, k32, c32, rfl⟩ := z2.form
  have q29 : xs 13 = .bool true := t29
  rw [q5, q29]
  have HT5 : Hid (IsR (ptT a b c d) (.agg #[.bool (negI (ptT a b c d).num), .slice A31 k31 c31, .slice A32 k32 c32]) w1) := ⟨_, _, rfl, z1, z2⟩
  obtain ⟨s13, hs⟩ : ∃ b_, b_ = negI (ptT a b c d).num := ⟨_, rfl⟩
  rw [← hs] at HT5 hb5
  have HX9 := Lib.hid (HX0.out.trans hx)
  have HD1 := Lib.hid (HC1.out.ext hx); have HD2 := Lib.hid (HC2.out.ext hx); have HDR := Lib.hid (HR2.out.ext hx)
  obtain ⟨c0, c1, c2, c3, c4, c5⟩ := blk6c HD1.out
  obtain ⟨e0, e1, e2, e3, e4, e5⟩ := blk6c HD2.out
  obtain ⟨t0, t1, t2⟩ := blk3c hb5
  clear hT t29 q29 q5 hs z1 z2 hg5 hx
  go_wp2_with fail
  refine (ponI_any a b c d _ _ _ _ (HV1.out.ext HX9.out) (HV2.out.ext HX9.out) HT5.out HIA.out HIB.out HIC.out HID.out HBN0.out).mono ?_
  rintro e w5 ⟨v5, rfl, ⟨u9, u10, u11, u12, rfl, h9, h10, h11, h12⟩, he5⟩
  have HU := Lib.hid h9; have HD := Lib.hid h10; have HU' := Lib.hid h11; have HD' := Lib.hid h12
  obtain ⟨A9, k9, c9, rfl⟩ := h9.form
  obtain ⟨A10, k10, c10, rfl⟩ := h10.form
  obtain ⟨A11, k11, c11, rfl⟩ := h11.form
  obtain ⟨A12, k12, c12, rfl⟩ := h12.form
  have HB9 := Lib.hid (HDR.out.ext he5)
  have HX10 := Lib.hid (HX9.out.trans he5)
  clear h9 h10 h11 h12 c0 c1 c2 c3 c4 c5 e0 e1 e2 e3 e4 e5 t0 t1 t2 hb5
  obtain ⟨b0, b1, b2, b3, b4, b5⟩ := blk6c HB9.out
  obtain ⟨f0, f1, f2, f3, f4, f5⟩ := blk6f HB9.out
  obtain ⟨s9, hs⟩ : ∃ b_, b_ = negI (ptX a b c d).num := ⟨_, rfl⟩
  rw [← hs]
  have HS := Lib.hid hs
  clear hs
  obtain ⟨s10, hs⟩ : ∃ b_, b_ = negI (ptY a b c d).num := ⟨_, rfl⟩
  rw [← hs]
  have HS' := Lib.hid hs
  clear hs he5
  go_wp2_with fail
  refine bodyPost_ret (v := .tuple #[.agg #[.bool s9, .slice A9 k9 c9, .slice A10 k10 c10, .bool s10, .slice A11 k11 c11, .slice A12 k12 c12], .int .i64 0]) (by simp [results, Tryz.results84, go_sem, b0, b1, b2, b3, b4, b5]) rfl ?_
  exact ⟨_, rfl, ⟨_, rfl, ⟨_, _, _, _, by rw [HS.out, HS'.out], HU.out.other HB9.out rfl (ks6 _ _ _ _ _ _ _ _), HD.out.other HB9.out rfl (ks6 _ _ _ _ _ _ _ _), HU'.out.other HB9.out rfl (ks6 _ _ _ _ _ _ _ _), HD'.out.other HB9.out rfl (ks6 _ _ _ _ _ _ _ _)⟩⟩, kext HX10.out (by omega) (ks6 _ _ _ _ _ _ _ _)⟩
theorem retFx {P : Program} {f : FuncId} {args : Array Value} {w : World} {V : Value} (h : Calls P f args w fun e w' => e = .returned V ∧ Ext w w') : Calls P f args w (Ret (Fx V) w) := h.mono fun _ _ h => ⟨V, h.1, rfl, h.2⟩
set_option maxRecDepth 100000 in
set_option maxHeartbeats 6400000 in
theorem pmeet0_any (a b c d : Int × Int) (v1 v2 v3 v4 : Value) (w : World) (h1 : IsP (a.1 : Rat) (a.2 : Rat) v1 w) (h2 : IsP (b.1 : Rat) (b.2 : Rat) v2 w) (h3 : IsP (c.1 : Rat) (c.2 : Rat) v3 w) (h4 : IsP (d.1 : Rat) (d.2 : Rat) v4 w) (ia : inC a) (ib : inC b) (ic : inC c) (id' : inC d) (hB : ptB a b c d = 0) : Calls Tryz.prog 84 #[v1, v2, v3, v4] w (fun e w' => e = .returned (.tuple #[.agg #[.bool false, .slice none 0 0, .slice none 0 0, .bool false, .slice none 0 0, .slice none 0 0], .int .i64 10]) ∧ Ext w w') := by
 have HBN0 := Lib.hid hB
 clear hB
 have HV1 := Lib.hid h1; have HV2 := Lib.hid h2; have HV3 := Lib.hid h3; have HV4 := Lib.hid h4
 have HIA := Lib.hid ia; have HIB := Lib.hid ib; have HIC := Lib.hid ic; have HID := Lib.hid id'
 clear ia ib ic id'
 obtain ⟨u1, u2, u3, u4, rfl, h1, h2, h3, h4⟩ := h1
 have HA1 := Lib.hid h1; have HA2 := Lib.hid h2; have HA3 := Lib.hid h3; have HA4 := Lib.hid h4
 obtain ⟨A1, k1, c1, rfl⟩ := h1.form
 obtain ⟨A2, k2, c2, rfl⟩ := h2.form
 obtain ⟨A3, k3, c3, rfl⟩ := h3.form
 obtain ⟨A4, k4, c4, rfl⟩ := h4.form
 clear h1 h2 h3 h4
 obtain ⟨s1, hs⟩ : ∃ b_, b_ = negI (a.1 : Rat).num := ⟨_, rfl⟩
 rw [← hs] at HV1 ⊢
 have HE1 := Lib.hid hs
 clear hs
 obtain ⟨s2, hs⟩ : ∃ b_, b_ = negI (a.2 : Rat).num := ⟨_, rfl⟩
 rw [← hs] at HV1 ⊢
 have HE2 := Lib.hid hs
 clear hs
 obtain ⟨u5, u6, u7, u8, rfl, h5, h6, h7, h8⟩ := h2
 have HA5 := Lib.hid h5; have HA6 := Lib.hid h6; have HA7 := Lib.hid h7; have HA8 := Lib.hid h8
 obtain ⟨A5, k5, c5, rfl⟩ := h5.form
 obtain ⟨A6, k6, c6, rfl⟩ := h6.form
 obtain ⟨A7, k7, c7, rfl⟩ := h7.form
 obtain ⟨A8, k8, c8, rfl⟩ := h8.form
 clear h5 h6 h7 h8
 obtain ⟨s3, hs⟩ : ∃ b_, b_ = negI (b.1 : Rat).num := ⟨_, rfl⟩
 rw [← hs] at HV2 ⊢
 have HE5 := Lib.hid hs
 clear hs
 obtain ⟨s4, hs⟩ : ∃ b_, b_ = negI (b.2 : Rat).num := ⟨_, rfl⟩
 rw [← hs] at HV2 ⊢
 have HE6 := Lib.hid hs
 clear hs
 obtain ⟨u9, u10, u11, u12, rfl, h9, h10, h11, h12⟩ := h3
 have HA9 := Lib.hid h9; have HA10 := Lib.hid h10; have HA11 := Lib.hid h11; have HA12 := Lib.hid h12
 obtain ⟨A9, k9, c9, rfl⟩ := h9.form
 obtain ⟨A10, k10, c10, rfl⟩ := h10.form
 obtain ⟨A11, k11, c11, rfl⟩ := h11.form
 obtain ⟨A12, k12, c12, rfl⟩ := h12.form
 clear h9 h10 h11 h12
 obtain ⟨s5, hs⟩ : ∃ b_, b_ = negI (c.1 : Rat).num := ⟨_, rfl⟩
 rw [← hs] at HV3 ⊢
 have HE9 := Lib.hid hs
 clear hs
 obtain ⟨s6, hs⟩ : ∃ b_, b_ = negI (c.2 : Rat).num := ⟨_, rfl⟩
 rw [← hs] at HV3 ⊢
 have HE10 := Lib.hid hs
 clear hs
 obtain ⟨u13, u14, u15, u16, rfl, h13, h14, h15, h16⟩ := h4
 have HA13 := Lib.hid h13; have HA14 := Lib.hid h14; have HA15 := Lib.hid h15; have HA16 := Lib.hid h16
 obtain ⟨A13, k13, c13, rfl⟩ := h13.form
 obtain ⟨A14, k14, c14, rfl⟩ := h14.form
 obtain ⟨A15, k15, c15, rfl⟩ := h15.form
 obtain ⟨A16, k16, c16, rfl⟩ := h16.form
 clear h13 h14 h15 h16
 obtain ⟨s7, hs⟩ : ∃ b_, b_ = negI (d.1 : Rat).num := ⟨_, rfl⟩
 rw [← hs] at HV4 ⊢
 have HE13 := Lib.hid hs
 clear hs
 obtain ⟨s8, hs⟩ : ∃ b_, b_ = negI (d.2 : Rat).num := ⟨_, rfl⟩
 rw [← hs] at HV4 ⊢
 have HE14 := Lib.hid hs
 clear hs
 go_enter Tryz.func84, Tryz.ntmps84
 go_upto_region 1 with fail
 refine wp_at fun W0 hW0 => ?_
 have HX0 : Hid (Ext w W0) := by show Ext _ _; rw [hW0]; exact (((((Ext.refl _).alloc _).alloc _).alloc _).alloc _).alloc _
 have HB1 : Hid (Blk 155 W0 (w.heap.size) [.bool s1, .slice A1 k1 c1, .slice A2 k2 c2, .bool s2, .slice A3 k3 c3, .slice A4 k4 c4]) := by show Blk _ _ _ _; rw [hW0]; exact ((((Blk.new' rfl).ext ((Ext.refl _).alloc _)).ext ((Ext.refl _).alloc _)).ext ((Ext.refl _).alloc _)).ext ((Ext.refl _).alloc _)
 have HB2 : Hid (Blk 155 W0 (w.heap.size + 1) [.bool s3, .slice A5 k5 c5, .slice A6 k6 c6, .bool s4, .slice A7 k7 c7, .slice A8 k8 c8]) := by show Blk _ _ _ _; rw [hW0]; exact (((Blk.new' (by simp)).ext ((Ext.refl _).alloc _)).ext ((Ext.refl _).alloc _)).ext ((Ext.refl _).alloc _)
 have HB3 : Hid (Blk 155 W0 (w.heap.size + 1 + 1) [.bool s5, .slice A9 k9 c9, .slice A10 k10 c10, .bool s6, .slice A11 k11 c11, .slice A12 k12 c12]) := by show Blk _ _ _ _; rw [hW0]; exact ((Blk.new' (by simp)).ext ((Ext.refl _).alloc _)).ext ((Ext.refl _).alloc _)
 have HB4 : Hid (Blk 155 W0 (w.heap.size + 1 + 1 + 1) [.bool s7, .slice A13 k13 c13, .slice A14 k14 c14, .bool s8, .slice A15 k15 c15, .slice A16 k16 c16]) := by show Blk _ _ _ _; rw [hW0]; exact (Blk.new' (by simp)).ext ((Ext.refl _).alloc _)
 have HR0 : Hid (Blk 155 W0 (w.heap.size + 1 + 1 + 1 + 1) [.bool false, .slice none 0 0, .slice none 0 0, .bool false, .slice none 0 0, .slice none 0 0]) := by show Blk _ _ _ _; rw [hW0]; exact Blk.new' (by simp)
 clear hW0
 obtain ⟨c0, c1, c2, c3, c4, c5⟩ := blk6c HB4.out
 obtain ⟨e0, e1, e2, e3, e4, e5⟩ := blk6c HB3.out
 go_wp2_with fail
 refine (psubI_any d c _ _ _ (HV4.out.ext HX0.out) (HV3.out.ext HX0.out) HID.out HIC.out).mono ?_
 rintro e w1 ⟨v1, rfl, hv1, he1⟩
 have HW := Lib.hid hv1
 obtain ⟨u21, u22, u23, u24, rfl, h21, h22, h23, h24⟩ := hv1
 have HA21 := Lib.hid h21; have HA22 := Lib.hid h22; have HA23 := Lib.hid h23; have HA24 := Lib.hid h24
 obtain ⟨A21, k21, c21, rfl⟩ := h21.form
 obtain ⟨A22, k22, c22, rfl⟩ := h22.form
 obtain ⟨A23, k23, c23, rfl⟩ := h23.form
 obtain ⟨A24, k24, c24, rfl⟩ := h24.form
 clear h21 h22 h23 h24
 obtain ⟨s11, hs⟩ : ∃ b_, b_ = negI ((d.1 - c.1 : Int) : Rat).num := ⟨_, rfl⟩
 rw [← hs] at HW ⊢
 have HE21 := Lib.hid hs
 clear hs
 obtain ⟨s12, hs⟩ : ∃ b_, b_ = negI ((d.2 - c.2 : Int) : Rat).num := ⟨_, rfl⟩
 rw [← hs] at HW ⊢
 have HE22 := Lib.hid hs
 clear hs
 clear c0 c1 c2 c3 c4 c5 e0 e1 e2 e3 e4 e5
 have HE1 := Lib.hid he1
 clear he1
 go_upto_region 2 with fail
 refine wp_at fun W2 hW2 => ?_
 have he2 : Ext w1 W2 := by rw [hW2]; exact (Ext.refl _).alloc _
 have HBN : Hid (Blk 155 W2 w1.heap.size [.bool s11, .slice A21 k21 c21, .slice A22 k22 c22, .bool s12, .slice A23 k23 c23, .slice A24 k24 c24]) := by show Blk _ _ _ _; rw [hW2]; exact Blk.new' rfl
 have HX2 : Hid (Ext w W2) := HX0.out.trans (HE1.out.trans he2)
 have hx02 := HE1.out.trans he2
 have HWW := Lib.hid (HW.out.ext he2)
 have HC1 := Lib.hid (HB1.out.ext hx02); have HC2 := Lib.hid (HB2.out.ext hx02); have HC3 := Lib.hid (HB3.out.ext hx02); have HR2 := Lib.hid (HR0.out.ext hx02)
 clear hW2 he2 hx02 HB1 HB2 HB3 HB4 HR0 HX0 HE1 HW
 have HX0 := HX2
 refine region_slotsP (l := 16) (m := 1) (N := 37) (ai := 14) (si := 15) (da := 11) (W0 := W2) [17, 18, 19, 20, 21, 22, 23, 24, 25, 26, 27, 16, 28, 29, 11, 1037] [IsP (c.1 : Rat) (c.2 : Rat), IsP (a.1 : Rat) (a.2 : Rat), IsP ((c.1 - a.1 : Int) : Rat) ((c.2 - a.2 : Int) : Rat), IsP ((d.1 - c.1 : Int) : Rat) ((d.2 - c.2 : Int) : Rat), IsR ((ptA a b c d : Int) : Rat), IsP (b.1 : Rat) (b.2 : Rat), IsP (a.1 : Rat) (a.2 : Rat), IsP ((b.1 - a.1 : Int) : Rat) ((b.2 - a.2 : Int) : Rat), IsP ((d.1 - c.1 : Int) : Rat) ((d.2 - c.2 : Int) : Rat), IsR ((ptB a b c d : Int) : Rat), Fx (.tuple #[.agg #[.bool false, .slice none 0 0, .slice none 0 0], .bool false]), Fx (.tuple #[.agg #[.bool false, .slice none 0 0, .slice none 0 0], .bool false]), Fx (.agg #[.bool false, .slice none 0 0, .slice none 0 0]), Fx (.bool false), IsNew 145 W2.heap.size [.bool false, .slice none 0 0, .slice none 0 0], Any] (IsNew 145 W2.heap.size [.bool false, .slice none 0 0, .slice none 0 0]) (by kernel_rfl) (by omega) (by kernel_rfl) (by kernel_rfl) (Ext.refl _) ?kp (IsNew.kp _ _ _) (fun i hi his => ?_) ?st (fun xs w1 hx hT => ?_)
 case kp => exact ⟨IsP.kp _ _, IsP.kp _ _, IsP.kp _ _, IsP.kp _ _, IsR.kp _, IsP.kp _ _, IsP.kp _ _, IsP.kp _ _, IsP.kp _ _, IsR.kp _, Fx.kp _, Fx.kp _, Fx.kp _, Fx.kp _, IsNew.kp _ _ _, Any.kp, trivial⟩
 case st =>
  refine so rfl ?_
  intro fb wi hx hb hd K hK
  have y11 : IsNew 145 W2.heap.size [.bool false, .slice none 0 0, .slice none 0 0] (fb.eval (.tmp 11)) wi := hd 14 11 rfl (by kernel_rfl)
  have x28 : fb.eval (.tmp 28) = .agg #[.bool false, .slice none 0 0, .slice none 0 0] := hd 12 28 rfl (by kernel_rfl)
  obtain ⟨g, x11, hg, hb5⟩ := y11
  obtain ⟨c0, c1, c2⟩ := blk3c hb5
  obtain ⟨f0, f1, f2⟩ := blk3f hb5
  refine step_skipR (wanted_all rfl) (w' := ((wi.setCell ⟨g, 0, none⟩ (.bool false)).setCell ⟨g, 1, none⟩ (.slice none 0 0)).setCell ⟨g, 2, none⟩ (.slice none 0 0)) (fun ρ hρ hc => ?_) (hK _ (kext hx hg (ks3 wi g (.bool false) (.slice none 0 0) (.slice none 0 0))) (fun j hj hja hjs => ?_) (⟨g, x11, hg, ((hb5.set 0 _).set 1 _).set 2 _⟩))
  ·have r11 := (hρ (.tmp 11)).trans x11; have r28 := (hρ (.tmp 28)).trans x28
   simp [execOp, go_sem, r11, r28, c0, c1, c2, f0, f1, f2]
  ·match j, hj with
   |0, _ => exact fun v_ (h : IsP (c.1 : Rat) (c.2 : Rat) v_ wi) => (show IsP (c.1 : Rat) (c.2 : Rat) v_ _ from IsP.oth hb5 rfl (ks3 wi g (.bool false) (.slice none 0 0) (.slice none 0 0)) h)
   |1, _ => exact fun v_ (h : IsP (a.1 : Rat) (a.2 : Rat) v_ wi) => (show IsP (a.1 : Rat) (a.2 : Rat) v_ _ from IsP.oth hb5 rfl (ks3 wi g (.bool false) (.slice none 0 0) (.slice none 0 0)) h)
   |2, _ => exact fun v_ (h : IsP ((c.1 - a.1 : Int) : Rat) ((c.2 - a.2 : Int) : Rat) v_ wi) => (show IsP ((c.1 - a.1 : Int) : Rat) ((c.2 - a.2 : Int) : Rat) v_ _ from IsP.oth hb5 rfl (ks3 wi g (.bool false) (.slice none 0 0) (.slice none 0 0)) h)
   |3, _ => exact fun v_ (h : IsP ((d.1 - c.1 : Int) : Rat) ((d.2 - c.2 : Int) : Rat) v_ wi) => (show IsP ((d.1 - c.1 : Int) : Rat) ((d.2 - c.2 : Int) : Rat) v_ _ from IsP.oth hb5 rfl (ks3 wi g (.bool false) (.slice none 0 0) (.slice none 0 0)) h)
   |4, _ => exact fun v_ (h : IsR ((ptA a b c d : Int) : Rat) v_ wi) => (show IsR ((ptA a b c d : Int) : Rat) v_ _ from IsR.oth hb5 rfl (ks3 wi g (.bool false) (.slice none 0 0) (.slice none 0 0)) h)
   |5, _ => exact fun v_ (h : IsP (b.1 : Rat) (b.2 : Rat) v_ wi) => (show IsP (b.1 : Rat) (b.2 : Rat) v_ _ from IsP.oth hb5 rfl (ks3 wi g (.bool false) (.slice none 0 0) (.slice none 0 0)) h)
   |6, _ => exact fun v_ (h : IsP (a.1 : Rat) (a.2 : Rat) v_ wi) => (show IsP (a.1 : Rat) (a.2 : Rat) v_ _ from IsP.oth hb5 rfl (ks3 wi g (.bool false) (.slice none 0 0) (.slice none 0 0)) h)
   |7, _ => exact fun v_ (h : IsP ((b.1 - a.1 : Int) : Rat) ((b.2 - a.2 : Int) : Rat) v_ wi) => (show IsP ((b.1 - a.1 : Int) : Rat) ((b.2 - a.2 : Int) : Rat) v_ _ from IsP.oth hb5 rfl (ks3 wi g (.bool false) (.slice none 0 0) (.slice none 0 0)) h)
   |8, _ => exact fun v_ (h : IsP ((d.1 - c.1 : Int) : Rat) ((d.2 - c.2 : Int) : Rat) v_ wi) => (show IsP ((d.1 - c.1 : Int) : Rat) ((d.2 - c.2 : Int) : Rat) v_ _ from IsP.oth hb5 rfl (ks3 wi g (.bool false) (.slice none 0 0) (.slice none 0 0)) h)
   |9, _ => exact fun v_ (h : IsR ((ptB a b c d : Int) : Rat) v_ wi) => (show IsR ((ptB a b c d : Int) : Rat) v_ _ from IsR.oth hb5 rfl (ks3 wi g (.bool false) (.slice none 0 0) (.slice none 0 0)) h)
   |10, _ => exact fun v_ (h : v_ = (.tuple #[.agg #[.bool false, .slice none 0 0, .slice none 0 0], .bool false])) => (show v_ = (.tuple #[.agg #[.bool false, .slice none 0 0, .slice none 0 0], .bool false]) from h)
   |11, _ => exact fun v_ (h : v_ = (.tuple #[.agg #[.bool false, .slice none 0 0, .slice none 0 0], .bool false])) => (show v_ = (.tuple #[.agg #[.bool false, .slice none 0 0, .slice none 0 0], .bool false]) from h)
   |12, _ => exact fun v_ (h : v_ = (.agg #[.bool false, .slice none 0 0, .slice none 0 0])) => (show v_ = (.agg #[.bool false, .slice none 0 0, .slice none 0 0]) from h)
   |13, _ => exact fun v_ (h : v_ = (.bool false)) => (show v_ = (.bool false) from h)
   |14, _ => exact absurd rfl hja
   |15, _ => exact absurd rfl hjs
   |n + 16, hn => exact absurd hn (by omega)
 ·match i, hi with
  |0, _ =>
   refine so rfl ?_
   intro fb wi hx hb hd K hK
   have x6 : fb.eval (.tmp 6) = .pointer (some ⟨w.heap.size + 1 + 1, 0, none⟩) := hb 6 rfl
   have cf0 := (HC3.out.ext hx).cell 0
   have cf1 := (HC3.out.ext hx).cell 1
   have cf2 := (HC3.out.ext hx).cell 2
   have cf3 := (HC3.out.ext hx).cell 3
   have cf4 := (HC3.out.ext hx).cell 4
   have cf5 := (HC3.out.ext hx).cell 5
   simp only [List.getElem?_cons_zero, List.getElem?_cons_succ] at cf0 cf1 cf2 cf3 cf4 cf5
   refine sv rfl (v := .agg #[.bool s5, .slice A9 k9 c9, .slice A10 k10 c10, .bool s6, .slice A11 k11 c11, .slice A12 k12 c12]) (w' := wi) (fun ρ hρ hc => ?_) (hK _ _ (Ext.refl _) (HV3.out.ext (HX0.out.trans hx)))
   have r6 := (hρ (.tmp 6)).trans x6
   simp [execOp, go_sem, r6, cf0, cf1, cf2, cf3, cf4, cf5]
  |1, _ =>
   refine so rfl ?_
   intro fb wi hx hb hd K hK
   have x4 : fb.eval (.tmp 4) = .pointer (some ⟨w.heap.size, 0, none⟩) := hb 4 rfl
   have cf0 := (HC1.out.ext hx).cell 0
   have cf1 := (HC1.out.ext hx).cell 1
   have cf2 := (HC1.out.ext hx).cell 2
   have cf3 := (HC1.out.ext hx).cell 3
   have cf4 := (HC1.out.ext hx).cell 4
   have cf5 := (HC1.out.ext hx).cell 5
   simp only [List.getElem?_cons_zero, List.getElem?_cons_succ] at cf0 cf1 cf2 cf3 cf4 cf5
   refine sv rfl (v := .agg #[.bool s1, .slice A1 k1 c1, .slice A2 k2 c2, .bool s2, .slice A3 k3 c3, .slice A4 k4 c4]) (w' := wi) (fun ρ hρ hc => ?_) (hK _ _ (Ext.refl _) (HV1.out.ext (HX0.out.trans hx)))
   have r4 := (hρ (.tmp 4)).trans x4
   simp [execOp, go_sem, r4, cf0, cf1, cf2, cf3, cf4, cf5]
  |2, _ =>
   refine so rfl ?_
   intro fb wi hx hb hd K hK
   have y17 : IsP (c.1 : Rat) (c.2 : Rat) (fb.eval (.tmp 17)) wi := hd 0 17 rfl (by kernel_rfl)
   have y18 : IsP (a.1 : Rat) (a.2 : Rat) (fb.eval (.tmp 18)) wi := hd 1 18 rfl (by kernel_rfl)
   refine sc rfl 87 [.tmp 17, .tmp 18] #[155, 155] rfl _ Tryz.func87 rfl (by decide +kernel) [fb.eval (.tmp 17), fb.eval (.tmp 18)] rfl (psubI_any c a _ _ wi y17 y18 HIC.out HIA.out) (fun e w' h => rk hK h)
  |3, _ =>
   refine so rfl ?_
   intro fb wi hx hb hd K hK
   have x10 : fb.eval (.tmp 10) = .pointer (some ⟨w1.heap.size, 0, none⟩) := hb 10 rfl
   have cf0 := (HBN.out.ext hx).cell 0
   have cf1 := (HBN.out.ext hx).cell 1
   have cf2 := (HBN.out.ext hx).cell 2
   have cf3 := (HBN.out.ext hx).cell 3
   have cf4 := (HBN.out.ext hx).cell 4
   have cf5 := (HBN.out.ext hx).cell 5
   simp only [List.getElem?_cons_zero, List.getElem?_cons_succ] at cf0 cf1 cf2 cf3 cf4 cf5
   refine sv rfl (v := .agg #[.bool s11, .slice A21 k21 c21, .slice A22 k22 c22, .bool s12, .slice A23 k23 c23, .slice A24 k24 c24]) (w' := wi) (fun ρ hρ hc => ?_) (hK _ _ (Ext.refl _) (HWW.out.ext hx))
   have r10 := (hρ (.tmp 10)).trans x10
   simp [execOp, go_sem, r10, cf0, cf1, cf2, cf3, cf4, cf5]
  |4, _ =>
   refine so rfl ?_
   intro fb wi hx hb hd K hK
   have y19 : IsP ((c.1 - a.1 : Int) : Rat) ((c.2 - a.2 : Int) : Rat) (fb.eval (.tmp 19)) wi := hd 2 19 rfl (by kernel_rfl)
   have y20 : IsP ((d.1 - c.1 : Int) : Rat) ((d.2 - c.2 : Int) : Rat) (fb.eval (.tmp 20)) wi := hd 3 20 rfl (by kernel_rfl)
   refine sc rfl 107 [.tmp 19, .tmp 20] #[155, 155] rfl _ Tryz.func107 rfl (by decide +kernel) [fb.eval (.tmp 19), fb.eval (.tmp 20)] rfl (pcrossI_any _ _ _ _ _ _ wi y19 y20 (abs_sub HIC.out.1 HIA.out.1) (abs_sub HIC.out.2 HIA.out.2) (abs_sub HID.out.1 HIC.out.1) (abs_sub HID.out.2 HIC.out.2)) (fun e w' h => rk hK h)
  |5, _ =>
   refine so rfl ?_
   intro fb wi hx hb hd K hK
   have x5 : fb.eval (.tmp 5) = .pointer (some ⟨w.heap.size + 1, 0, none⟩) := hb 5 rfl
   have cf0 := (HC2.out.ext hx).cell 0
   have cf1 := (HC2.out.ext hx).cell 1
   have cf2 := (HC2.out.ext hx).cell 2
   have cf3 := (HC2.out.ext hx).cell 3
   have cf4 := (HC2.out.ext hx).cell 4
   have cf5 := (HC2.out.ext hx).cell 5
   simp only [List.getElem?_cons_zero, List.getElem?_cons_succ] at cf0 cf1 cf2 cf3 cf4 cf5
   refine sv rfl (v := .agg #[.bool s3, .slice A5 k5 c5, .slice A6 k6 c6, .bool s4, .slice A7 k7 c7, .slice A8 k8 c8]) (w' := wi) (fun ρ hρ hc => ?_) (hK _ _ (Ext.refl _) (HV2.out.ext (HX0.out.trans hx)))
   have r5 := (hρ (.tmp 5)).trans x5
   simp [execOp, go_sem, r5, cf0, cf1, cf2, cf3, cf4, cf5]
  |6, _ =>
   refine so rfl ?_
   intro fb wi hx hb hd K hK
   have x4 : fb.eval (.tmp 4) = .pointer (some ⟨w.heap.size, 0, none⟩) := hb 4 rfl
   have cf0 := (HC1.out.ext hx).cell 0
   have cf1 := (HC1.out.ext hx).cell 1
   have cf2 := (HC1.out.ext hx).cell 2
   have cf3 := (HC1.out.ext hx).cell 3
   have cf4 := (HC1.out.ext hx).cell 4
   have cf5 := (HC1.out.ext hx).cell 5
   simp only [List.getElem?_cons_zero, List.getElem?_cons_succ] at cf0 cf1 cf2 cf3 cf4 cf5
   refine sv rfl (v := .agg #[.bool s1, .slice A1 k1 c1, .slice A2 k2 c2, .bool s2, .slice A3 k3 c3, .slice A4 k4 c4]) (w' := wi) (fun ρ hρ hc => ?_) (hK _ _ (Ext.refl _) (HV1.out.ext (HX0.out.trans hx)))
   have r4 := (hρ (.tmp 4)).trans x4
   simp [execOp, go_sem, r4, cf0, cf1, cf2, cf3, cf4, cf5]
  |7, _ =>
   refine so rfl ?_
   intro fb wi hx hb hd K hK
   have y22 : IsP (b.1 : Rat) (b.2 : Rat) (fb.eval (.tmp 22)) wi := hd 5 22 rfl (by kernel_rfl)
   have y23 : IsP (a.1 : Rat) (a.2 : Rat) (fb.eval (.tmp 23)) wi := hd 6 23 rfl (by kernel_rfl)
   refine sc rfl 87 [.tmp 22, .tmp 23] #[155, 155] rfl _ Tryz.func87 rfl (by decide +kernel) [fb.eval (.tmp 22), fb.eval (.tmp 23)] rfl (psubI_any b a _ _ wi y22 y23 HIB.out HIA.out) (fun e w' h => rk hK h)
  |8, _ =>
   refine so rfl ?_
   intro fb wi hx hb hd K hK
   have x10 : fb.eval (.tmp 10) = .pointer (some ⟨w1.heap.size, 0, none⟩) := hb 10 rfl
   have cf0 := (HBN.out.ext hx).cell 0
   have cf1 := (HBN.out.ext hx).cell 1
   have cf2 := (HBN.out.ext hx).cell 2
   have cf3 := (HBN.out.ext hx).cell 3
   have cf4 := (HBN.out.ext hx).cell 4
   have cf5 := (HBN.out.ext hx).cell 5
   simp only [List.getElem?_cons_zero, List.getElem?_cons_succ] at cf0 cf1 cf2 cf3 cf4 cf5
   refine sv rfl (v := .agg #[.bool s11, .slice A21 k21 c21, .slice A22 k22 c22, .bool s12, .slice A23 k23 c23, .slice A24 k24 c24]) (w' := wi) (fun ρ hρ hc => ?_) (hK _ _ (Ext.refl _) (HWW.out.ext hx))
   have r10 := (hρ (.tmp 10)).trans x10
   simp [execOp, go_sem, r10, cf0, cf1, cf2, cf3, cf4, cf5]
  |9, _ =>
   refine so rfl ?_
   intro fb wi hx hb hd K hK
   have y24 : IsP ((b.1 - a.1 : Int) : Rat) ((b.2 - a.2 : Int) : Rat) (fb.eval (.tmp 24)) wi := hd 7 24 rfl (by kernel_rfl)
   have y25 : IsP ((d.1 - c.1 : Int) : Rat) ((d.2 - c.2 : Int) : Rat) (fb.eval (.tmp 25)) wi := hd 8 25 rfl (by kernel_rfl)
   refine sc rfl 107 [.tmp 24, .tmp 25] #[155, 155] rfl _ Tryz.func107 rfl (by decide +kernel) [fb.eval (.tmp 24), fb.eval (.tmp 25)] rfl (pcrossI_any _ _ _ _ _ _ wi y24 y25 (abs_sub HIB.out.1 HIA.out.1) (abs_sub HIB.out.2 HIA.out.2) (abs_sub HID.out.1 HIC.out.1) (abs_sub HID.out.2 HIC.out.2)) (fun e w' h => rk hK h)
  |10, _ =>
   refine so rfl ?_
   intro fb wi hx hb hd K hK
   have y21 : IsR ((ptA a b c d : Int) : Rat) (fb.eval (.tmp 21)) wi := hd 4 21 rfl (by kernel_rfl)
   have y26 : IsR ((ptB a b c d : Int) : Rat) (fb.eval (.tmp 26)) wi := hd 9 26 rfl (by kernel_rfl)
   refine sc rfl 106 [.tmp 21, .tmp 26] #[145, 145] rfl _ Tryz.func106 rfl (by decide +kernel) [fb.eval (.tmp 21), fb.eval (.tmp 26)] rfl (retFx (rdiv0_any _ _ _ _ wi y21 y26 (rbA HIA.out HIC.out HID.out) (rbB HIA.out HIB.out HIC.out HID.out) (by rw [num_int]; exact HBN0.out))) (fun e w' h => rk hK h)
  |11, _ =>
   refine so rfl ?_
   intro fb wi hx hb hd K hK
   have y27 : Fx (.tuple #[.agg #[.bool false, .slice none 0 0, .slice none 0 0], .bool false]) (fb.eval (.tmp 27)) wi := hd 10 27 rfl (by kernel_rfl)
   refine sv rfl (v := fb.eval (.tmp 27)) (w' := wi) (fun ρ hρ hc => ?_) (hK _ _ (Ext.refl _) y27)
   simp [execOp, go_sem, hρ (.tmp 27)]
  |12, _ =>
   refine so rfl ?_
   intro fb wi hx hb hd K hK
   have y16 : Fx (.tuple #[.agg #[.bool false, .slice none 0 0, .slice none 0 0], .bool false]) (fb.eval (.tmp 16)) wi := hd 11 16 rfl (by kernel_rfl)
   have x16 : fb.eval (.tmp 16) = .tuple #[.agg #[.bool false, .slice none 0 0, .slice none 0 0], .bool false] := y16
   refine sv rfl (v := .agg #[.bool false, .slice none 0 0, .slice none 0 0]) (w' := wi) (fun ρ hρ hc => ?_) (hK _ _ (Ext.refl _) (rfl))
   have r16 := (hρ (.tmp 16)).trans x16
   simp [execOp, go_sem, r16]
  |13, _ =>
   refine so rfl ?_
   intro fb wi hx hb hd K hK
   have y16 : Fx (.tuple #[.agg #[.bool false, .slice none 0 0, .slice none 0 0], .bool false]) (fb.eval (.tmp 16)) wi := hd 11 16 rfl (by kernel_rfl)
   have x16 : fb.eval (.tmp 16) = .tuple #[.agg #[.bool false, .slice none 0 0, .slice none 0 0], .bool false] := y16
   refine sv rfl (v := .bool false) (w' := wi) (fun ρ hρ hc => ?_) (hK _ _ (Ext.refl _) (rfl))
   have r16 := (hρ (.tmp 16)).trans x16
   simp [execOp, go_sem, r16]
  |14, _ =>
   refine so rfl ?_
   intro fb wi hx hb hd K hK
   refine sv rfl (v := .pointer (some ⟨wi.heap.size, 0, none⟩)) (w' := wi.alloc (.cells #[.bool false, .slice none 0 0, .slice none 0 0] 145)) (fun ρ hρ hc => ?_) (hK _ _ ((Ext.refl _).alloc _) (⟨wi.heap.size, rfl, hx.size, Blk.new' rfl⟩))
   simp [execOp, go_sem]
  |15, _ =>
   exact absurd rfl his
  |n + 16, hn => exact absurd hn (by omega)
 ·skip
  have t11 : (IsNew 145 W2.heap.size [.bool false, .slice none 0 0, .slice none 0 0]) (xs 14) w1 := hT 14 (by decide) (by decide)
  have t29 : Fx (.bool false) (xs 13) w1 := hT 13 (by decide) (by decide)
  simp only [frOf, putAll, List.drop_succ_cons, List.drop_zero, List.setIfInBounds_toArray, List.set_cons_succ, List.set_cons_zero, Nat.zero_add, Nat.reduceAdd]
  have q29 : xs 13 = .bool false := t29
  obtain ⟨g5, q5, hg5, hb5⟩ := t11
  rw [q29, q5]
  have HX9 := Lib.hid (HX0.out.trans hx)
  have HDR := Lib.hid (HR2.out.ext hx)
  clear hT t29 q29 q5 hb5 hg5 hx
  obtain ⟨b0, b1, b2, b3, b4, b5⟩ := blk6c HDR.out
  obtain ⟨f0, f1, f2, f3, f4, f5⟩ := blk6f HDR.out
  go_wp2_with fail
  refine bodyPost_ret (v := .tuple #[.agg #[.bool false, .slice none 0 0, .slice none 0 0, .bool false, .slice none 0 0, .slice none 0 0], .int .i64 10]) (by simp [results, Tryz.results84, go_sem, b0, b1, b2, b3, b4, b5]) rfl ?_
  exact ⟨rfl, kext HX9.out (by omega) (ks6 _ _ _ _ _ _ _ _)⟩
end Go.Proofs.YtfegbaokcbjllaaGreat
