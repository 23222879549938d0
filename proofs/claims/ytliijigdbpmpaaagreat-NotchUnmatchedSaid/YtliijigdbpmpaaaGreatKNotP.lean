/- plain: notches: places, points, counterparts. No program in sight. -/
import Derived.Test.YtliijigdbpmpaaaGreatKAlongP
import Derived.Test.YtliijigdbpmpaaaGreatKLens
import Derived.Test.YtliijigdbpmpaaaGreatKPart
/- plain: bounds of lengths; the gap of two lengths -/
namespace Go.Proofs.YtliijigdbpmpaaaGreat
open Go.RowKit
theorem lengthN_bd (l : List Spot) : lengthN l ≤ 1000000000000 := by
  unfold lengthN
  split
  · omega
  · rename_i h
    obtain ⟨h2, h40, hin⟩ := lcheck_zero (l := l) (by omega)
    have := lenTo_le hin (l.length - 1) (by omega)
    have : (l.length - 1) * 4294967296 ≤ 39 * 4294967296 := Nat.mul_le_mul (by omega) (by omega)
    omega
theorem lnN_bd (p : Pc) (m : Int) (e : Nat) : lnN p m e ≤ 1000000000000 := by
  unfold lnN
  split
  · omega
  · exact lengthN_bd _
theorem lensV_bd (s : Sty) (z k : Int) : 0 ≤ (lensV s z k).1 ∧ (lensV s z k).1 ≤ 1000000000000 ∧ 0 ≤ (lensV s z k).2.1 ∧ (lensV s z k).2.1 ≤ 1000000000000 := by
  unfold lensV
  split
  · simp only; omega
  · have := lnN_bd (gPc s.ps (gSm s.ss k.toNat).pa.toNat) (gI s.ms z.toNat) (gSm s.ss k.toNat).ea.toNat
    have := lnN_bd (gPc s.ps (gSm s.ss k.toNat).pb.toNat) (gI s.ms z.toNat) (gSm s.ss k.toNat).eb.toNat
    unfold lensA lensB
    simp only; omega
def gapN (a b : Int) : Int := if a - b < b - a then b - a else a - b
end Go.Proofs.YtliijigdbpmpaaaGreat
namespace Go.Proofs.YtliijigdbpmpaaaGreat
open Go.RowKit
def baseN (p : Pc) (k : Nat) : Nat := lengthN (gE p.es k).2
def grdN (p : Pc) (m : Int) (k : Nat) : Nat := lengthN (gE (gradedE p.es p.cs m) k).2
/- the error and the place of a notch -/
def ntE (p : Pc) (m : Int) (i : Nat) : Int := if (gS p.ns i).1 < 0 ∨ (p.es.length : Int) ≤ (gS p.ns i).1 then 3 else partE (baseN p (gS p.ns i).1.toNat) (grdN p m (gS p.ns i).1.toNat) (gS p.ns i).2
def plV (p : Pc) (m : Int) (i : Nat) : Int := partV (baseN p (gS p.ns i).1.toNat) (grdN p m (gS p.ns i).1.toNat) false (gS p.ns i).2
def plTo (p : Pc) (m : Int) (k : Nat) : List Int := (List.range k).map (plV p m)
def plL (p : Pc) (m : Int) : List Int := plTo p m p.ns.length
def plE (p : Pc) (m : Int) : Int := if gradedR p.es p.cs m ≠ 0 then gradedR p.es p.cs m else if 16 < p.ns.length then 5 else firstE (ntE p m) p.ns.length
theorem plTo_succ (p : Pc) (m : Int) (k : Nat) : plTo p m (k + 1) = plTo p m k ++ [plV p m k] := by unfold plTo; rw [List.range_succ, List.map_append]; rfl
theorem plTo_len (p : Pc) (m : Int) (k : Nat) : (plTo p m k).length = k := by simp [plTo]
theorem plL_len (p : Pc) (m : Int) : (plL p m).length = p.ns.length := plTo_len _ _ _
theorem plL_get {p : Pc} {m : Int} {i : Nat} (h : i < p.ns.length) : gI (plL p m) i = plV p m i := by
  rw [gI_eq (by rw [plL_len]; exact h)]; simp [plL, plTo]
/- when a notch has a place -/
structure NtOk (p : Pc) (m : Int) (i : Nat) : Prop where
  e0 : 0 ≤ (gS p.ns i).1
  e1 : (gS p.ns i).1 < p.es.length
  b1 : 1 ≤ baseN p (gS p.ns i).1.toNat
  a0 : 0 ≤ (gS p.ns i).2
  a1 : (gS p.ns i).2 ≤ baseN p (gS p.ns i).1.toNat
theorem prtB_iff {f t a : Int} : prtB f t a = true ↔ 1 ≤ f ∧ f ≤ 1099511627776 ∧ 0 ≤ t ∧ t ≤ 1099511627776 ∧ 0 ≤ a ∧ a ≤ f := by unfold prtB; exact decide_eq_true_iff
theorem partE_zero {f t a : Int} : partE f t a = 0 ↔ prtB f t a = true := by
  unfold partE
  split
  · rename_i h; simp [h]
  · rename_i h; simp [h]
theorem ntE_zero {p : Pc} {m : Int} {i : Nat} : ntE p m i = 0 ↔ NtOk p m i := by
  unfold ntE
  split
  · rename_i h
    constructor
    · intro h; cases h
    · intro h'; have := h'.e0; have := h'.e1; omega
  · rename_i h
    rw [partE_zero, prtB_iff]
    constructor
    · intro h'; exact ⟨by omega, by omega, by omega, by omega, by omega⟩
    · intro h'
      have h1 := lengthN_bd (gE p.es (gS p.ns i).1.toNat).2
      have h2 := lengthN_bd (gE (gradedE p.es p.cs m) (gS p.ns i).1.toNat).2
      have := h'.b1; have := h'.a0; have := h'.a1
      unfold baseN grdN at *
      omega
structure PlOk (p : Pc) (m : Int) : Prop where
  g : gradedR p.es p.cs m = 0
  n : p.ns.length ≤ 16
  i : ∀ i, i < p.ns.length → NtOk p m i
theorem plE_zero {p : Pc} {m : Int} : plE p m = 0 ↔ PlOk p m := by
  unfold plE
  constructor
  · intro h
    split at h
    · rename_i h1; exact absurd h h1
    split at h
    · cases h
    · rename_i h1 h2
      exact ⟨Classical.not_not.1 h1, by omega, fun i hi => ntE_zero.1 ((firstE_zero _ _).1 h i hi)⟩
  · rintro ⟨h1, h2, h3⟩
    rw [if_neg (fun h => h h1), if_neg (by omega)]
    exact (firstE_zero _ _).2 fun i hi => ntE_zero.2 (h3 i hi)
/- the value of a place -/
theorem plV_eq {p : Pc} {m : Int} {i : Nat} (h : NtOk p m i) : plV p m i = (partQ (gS p.ns i).2.toNat (grdN p m (gS p.ns i).1.toNat) (baseN p (gS p.ns i).1.toNat) : Int) := by
  have hz := ntE_zero.2 h
  unfold ntE at hz
  rw [if_neg (by have := h.e0; have := h.e1; omega), partE_zero] at hz
  unfold plV partV partN
  rw [hz]
  simp
theorem plV_bd {p : Pc} {m : Int} {i : Nat} (h : NtOk p m i) : 0 ≤ plV p m i ∧ plV p m i ≤ grdN p m (gS p.ns i).1.toNat := by
  rw [plV_eq h]
  have := part_le (t := grdN p m (gS p.ns i).1.toNat) h.b1 (show (gS p.ns i).2.toNat ≤ _ by have := h.a1; have := h.a0; omega)
  omega
/- points -/
def spS (p : Pc) (m : Int) (i : Nat) : Spot := alongS (gE (gradedE p.es p.cs m) (gS p.ns i).1.toNat).2 (plV p m i)
def spTo (p : Pc) (m : Int) (k : Nat) : List Spot := (List.range k).map (spS p m)
def spL (p : Pc) (m : Int) : List Spot := spTo p m p.ns.length
theorem spTo_succ (p : Pc) (m : Int) (k : Nat) : spTo p m (k + 1) = spTo p m k ++ [spS p m k] := by unfold spTo; rw [List.range_succ, List.map_append]; rfl
theorem spTo_len (p : Pc) (m : Int) (k : Nat) : (spTo p m k).length = k := by simp [spTo]
theorem spL_len (p : Pc) (m : Int) : (spL p m).length = p.ns.length := spTo_len _ _ _
theorem spL_get {p : Pc} {m : Int} {i : Nat} (h : i < p.ns.length) : gS (spL p m) i = spS p m i := by
  rw [gS_eq (by rw [spL_len]; exact h)]; simp [spL, spTo]
theorem sp_ok {p : Pc} {m : Int} (h : PlOk p m) {i : Nat} (hi : i < p.ns.length) : alongE (gE (gradedE p.es p.cs m) (gS p.ns i).1.toNat).2 (plV p m i) = 0 ∧ lcheck (gE (gradedE p.es p.cs m) (gS p.ns i).1.toNat).2 = 0 ∧ lcheck (gE p.es (gS p.ns i).1.toNat).2 = 0 := by
  have hn := h.i i hi
  have hb := plV_bd hn
  have hk : (gS p.ns i).1.toNat < p.es.length := by have := hn.e0; have := hn.e1; omega
  have hl := graded_lines h.g hk
  refine ⟨?_, hl, ocheck_line ((gradedR_iff _ _ _).1 h.g).ok hk⟩
  unfold alongE
  rw [if_neg (fun h => h hl), if_neg (by unfold grdN at hb; omega)]
theorem part_self {a t : Nat} (h : 1 ≤ t) : partQ a t t = a := by
  rw [← part_code h, Nat.mul_div_cancel _ (by omega), Nat.mul_mod_left, if_neg (by omega)]; rfl
/- in the base size a notch stays where it is -/
theorem plV_zero {p : Pc} {m : Int} (h : PlOk p m) : PlOk p 0 ∧ ∀ i, i < p.ns.length → plV p 0 i = (gS p.ns i).2 := by
  have hg := (gradedR_iff _ _ _).1 h.g
  obtain ⟨h0, h1⟩ := graded_zero hg
  have hN : ∀ i, i < p.ns.length → NtOk p 0 i := fun i hi => ⟨(h.i i hi).e0, (h.i i hi).e1, (h.i i hi).b1, (h.i i hi).a0, (h.i i hi).a1⟩
  refine ⟨⟨h0, h.n, hN⟩, fun i hi => ?_⟩
  rw [plV_eq (hN i hi)]
  have e : grdN p 0 (gS p.ns i).1.toNat = baseN p (gS p.ns i).1.toNat := by unfold grdN baseN; rw [h1]
  rw [e, part_self (hN i hi).b1]
  have := (hN i hi).a0
  omega
theorem plV_ends {p : Pc} {m : Int} {i : Nat} (h : NtOk p m i) : ((gS p.ns i).2 = 0 → plV p m i = 0) ∧ ((gS p.ns i).2 = baseN p (gS p.ns i).1.toNat → plV p m i = grdN p m (gS p.ns i).1.toNat) := by
  refine ⟨fun e => ?_, fun e => ?_⟩
  · rw [plV_eq h, e]
    have := part_zero (t := grdN p m (gS p.ns i).1.toNat) h.b1
    simp [this]
  · rw [plV_eq h, e]
    have := part_full (t := grdN p m (gS p.ns i).1.toNat) h.b1
    simp [this]
theorem plV_mono {p : Pc} {m : Int} {i j : Nat} (hi : NtOk p m i) (hj : NtOk p m j) (he : (gS p.ns i).1 = (gS p.ns j).1) (hle : (gS p.ns i).2 ≤ (gS p.ns j).2) : plV p m i ≤ plV p m j := by
  rw [plV_eq hi, plV_eq hj, he]
  have := hi.a0
  have := part_mono (t := grdN p m (gS p.ns j).1.toNat) (f := baseN p (gS p.ns j).1.toNat) (show (gS p.ns i).2.toNat ≤ (gS p.ns j).2.toNat by omega)
  omega
end Go.Proofs.YtliijigdbpmpaaaGreat
