/- plain: judgements and targets: what the laws of chapter 52 ask. No program in sight. -/
import Derived.Test.YtkigmpholnfkbaaGreatKSpP
/- plain: notches without a counterpart. No program in sight. -/
namespace Go.Proofs.YtkigmpholnfkbaaGreat
open Go.RowKit
/- is a notch on the edge near a place -/
def nearF (ns : List Spot) (pl : List Int) (edge place : Int) (i : Nat) : Bool := decide ((gS ns i).1 = edge ∧ gapN (gI pl i) place ≤ 1000)
def hasB (ns : List Spot) (pl : List Int) (edge place : Int) : Bool := (List.range ns.length).any (nearF ns pl edge place)
/- a side of a seam -/
structure Sd where
  ns : List Spot
  pl : List Int
  edge : Int
  len : Int
def alnB (a b : Sd) (rev : Bool) (i : Nat) : Bool := decide ((gS a.ns i).1 = a.edge) && (decide (partE a.len b.len (gI a.pl i) ≠ 0) || !hasB b.ns b.pl b.edge (partV a.len b.len rev (gI a.pl i)))
def alnTo (a b : Sd) (rev : Bool) (k : Nat) : List Nat := (List.range k).filter (alnB a b rev)
def alnL (a b : Sd) (rev : Bool) : List Nat := alnTo a b rev a.ns.length
theorem alnTo_yes {a b : Sd} {rev : Bool} {k : Nat} (h : alnB a b rev k = true) : alnTo a b rev (k + 1) = alnTo a b rev k ++ [k] := by
  unfold alnTo; rw [List.range_succ, List.filter_append]; simp [h]
theorem alnTo_no {a b : Sd} {rev : Bool} {k : Nat} (h : alnB a b rev k = false) : alnTo a b rev (k + 1) = alnTo a b rev k := by
  unfold alnTo; rw [List.range_succ, List.filter_append]; simp [h]
theorem alnTo_len (a b : Sd) (rev : Bool) (k : Nat) : (alnTo a b rev k).length ≤ k := by
  unfold alnTo; exact Nat.le_trans (List.length_filter_le _ _) (by simp)
/- issues: kind, seam, notch -/
abbrev Iss := Int × Int × Int
def sdA (s : Sty) (z : Int) (k : Nat) : Sd := ⟨(gPc s.ps (gSm s.ss k).pa.toNat).ns, plL (gPc s.ps (gSm s.ss k).pa.toNat) (gI s.ms z.toNat), (gSm s.ss k).ea, (lensV s z k).1⟩
def sdB (s : Sty) (z : Int) (k : Nat) : Sd := ⟨(gPc s.ps (gSm s.ss k).pb.toNat).ns, plL (gPc s.ps (gSm s.ss k).pb.toNat) (gI s.ms z.toNat), (gSm s.ss k).eb, (lensV s z k).2.1⟩
def issK (kind : Int) (k : Nat) (l : List Nat) : List Iss := l.map fun (i : Nat) => (kind, (k : Int), (i : Int))
def seamIss (s : Sty) (z : Int) (k : Nat) : List Iss := issK 1 k (alnL (sdA s z k) (sdB s z k) (gSm s.ss k).rev) ++ issK 2 k (alnL (sdB s z k) (sdA s z k) (gSm s.ss k).rev)
def unmTo (s : Sty) (z : Int) (k : Nat) : List Iss := (List.range k).flatMap (seamIss s z)
def unmL (s : Sty) (z : Int) : List Iss := unmTo s z s.ss.length
def seamE (s : Sty) (z : Int) (k : Nat) : Int :=
  if (lensV s z k).2.2 ≠ 0 then (lensV s z k).2.2
  else if plE (gPc s.ps (gSm s.ss k).pa.toNat) (gI s.ms z.toNat) ≠ 0 then plE (gPc s.ps (gSm s.ss k).pa.toNat) (gI s.ms z.toNat)
  else plE (gPc s.ps (gSm s.ss k).pb.toNat) (gI s.ms z.toNat)
def unmE (s : Sty) (z : Int) : Int := if sizeB s z = false then 3 else firstE (seamE s z) s.ss.length
theorem unmTo_succ (s : Sty) (z : Int) (k : Nat) : unmTo s z (k + 1) = unmTo s z k ++ seamIss s z k := by
  unfold unmTo; rw [List.range_succ, List.flatMap_append]; simp
theorem gapN_self (x : Int) : gapN x x = 0 := by unfold gapN; split <;> omega
/- a line that is valid has a length -/
theorem length_pos {l : List Spot} (h : lcheck l = 0) : 1 ≤ lengthN l := by
  obtain ⟨h2, h40, hin, hne⟩ := (lcheck_iff l).1 h
  unfold lengthN
  rw [if_neg (fun h' => h' h)]
  have h1 := seg_pos (hin 0 (by omega)) (hin 1 (by omega)) (hne 0 (by omega))
  have h3 := lenTo_mono (l := l) (show 1 ≤ l.length - 1 by omega)
  have h4 : lenTo l 1 = seg (gS l 0) (gS l 1) := by simp [lenTo]
  omega
/- an edge sewn to itself -/
theorem self_none {p : Pc} {m : Int} {edge : Int} (h : PlOk p m) (h0 : 0 ≤ edge) (h1 : edge < p.es.length) :
    alnL ⟨p.ns, plL p m, edge, (grdN p m edge.toNat : Int)⟩ ⟨p.ns, plL p m, edge, (grdN p m edge.toNat : Int)⟩ false = [] := by
  unfold alnL alnTo
  rw [List.filter_eq_nil_iff]
  intro i hi
  have hi' : i < p.ns.length := List.mem_range.1 hi
  unfold alnB
  simp only
  by_cases he : (gS p.ns i).1 = edge
  · have hn := h.i i hi'
    have hb := plV_bd hn
    rw [he] at hb
    have hL : 1 ≤ grdN p m edge.toNat := length_pos (graded_lines h.g (by omega))
    have hLb := lengthN_bd (gE (gradedE p.es p.cs m) edge.toNat).2
    rw [plL_get hi']
    obtain ⟨x, hx⟩ := Int.eq_ofNat_of_zero_le hb.1
    have hxle : x ≤ grdN p m edge.toNat := by omega
    have hok : prtB (grdN p m edge.toNat : Int) (grdN p m edge.toNat : Int) (plV p m i) = true := prtB_iff.2 (by unfold grdN at *; omega)
    have hz := partE_zero.2 hok
    have hv : partV (grdN p m edge.toNat : Int) (grdN p m edge.toNat : Int) false (plV p m i) = plV p m i := by
      unfold partV partN
      rw [hok, hx]
      simp only [if_true, Bool.false_eq_true, if_false, Int.toNat_natCast]
      rw [part_self hL]
    rw [hz, hv]
    have hh : hasB p.ns (plL p m) edge (plV p m i) = true := by
      unfold hasB
      rw [List.any_eq_true]
      refine ⟨i, List.mem_range.2 hi', ?_⟩
      unfold nearF
      rw [plL_get hi', gapN_self]
      exact decide_eq_true ⟨he, by omega⟩
    rw [hh]; simp
  · simp [he]
end Go.Proofs.YtkigmpholnfkbaaGreat
namespace Go.Proofs.YtkigmpholnfkbaaGreat
open Go.RowKit
theorem jud_zero {p : PomX} {t v : Int} (h0 : 0 ≤ p.pl) (h1 : 0 ≤ p.mi) : judV p t v = 0 ↔ v - t ≤ p.pl ∧ -p.mi ≤ v - t := by
  unfold judV
  split
  · omega
  · split <;> omega
theorem jud_pos {p : PomX} {t v : Int} (h : 0 < judV p t v) : v - t - judV p t v = p.pl := by
  unfold judV at h ⊢
  by_cases h1 : v - (t - p.mi) < 0
  · rw [if_pos h1] at h; omega
  · rw [if_neg h1] at h ⊢
    by_cases h2 : 0 < v - (t + p.pl)
    · rw [if_pos h2]; omega
    · rw [if_neg h2] at h; omega
theorem jud_neg {p : PomX} {t v : Int} (h : judV p t v < 0) : v - t - judV p t v = -p.mi := by
  unfold judV at h ⊢
  by_cases h1 : v - (t - p.mi) < 0
  · rw [if_pos h1]; omega
  · rw [if_neg h1] at h
    by_cases h2 : 0 < v - (t + p.pl)
    · rw [if_pos h2] at h; omega
    · rw [if_neg h2] at h; omega
theorem jud_wide {p q : PomX} {t v : Int} (h0 : 0 ≤ p.pl) (h1 : 0 ≤ p.mi) (h2 : p.pl ≤ q.pl) (h3 : p.mi ≤ q.mi) : max (judV q t v) (-judV q t v) ≤ max (judV p t v) (-judV p t v) := by
  unfold judV
  split <;> split <;> (try split) <;> (try split) <;> omega
theorem jud_more {p : PomX} {t v v' : Int} (h0 : 0 ≤ p.pl) (h1 : 0 ≤ p.mi) (h : v ≤ v') : judV p t v ≤ judV p t v' := by
  unfold judV
  split <;> split <;> (try split) <;> (try split) <;> omega
/- a point of measure that is in order -/
structure PomOk (x : StyX) (p : PomX) : Prop where
  nm : nameB p.nm = true
  le : p.es.length = p.ps.length
  n0 : p.ps.length ≠ 0
  n1 : p.ps.length ≤ 16
  rf : ∀ k, k < p.ps.length → edgeB x.s (gI p.ps k) (gI p.es k) = true
  p0 : 0 ≤ p.pl
  p1 : p.pl ≤ 1073741824
  m0 : 0 ≤ p.mi
  m1 : p.mi ≤ 1073741824
theorem pomE_zero {x : StyX} {l : List PomX} {i : Nat} : pomE x l i = 0 ↔ PomOk x (gPm l i) ∧ ∀ j, j < i → (gPm l j).nm.data.toList ≠ (gPm l i).nm.data.toList := by
  unfold pomE
  constructor
  · intro h
    split at h
    · cases h
    rename_i h1
    split at h
    · cases h
    rename_i h2
    split at h
    · cases h
    rename_i h3
    split at h
    · cases h
    rename_i h4
    have h3' : allB (pomRef x (gPm l i)) (gPm l i).ps.length = true := by simpa using h3
    refine ⟨⟨by simpa using fun h => h1 (Or.inl h), by omega, by omega, by omega, fun k hk => (allB_iff _ _).1 h3' k hk, by omega, by omega, by omega, by omega⟩, fun j hj he => h2 ?_⟩
    exact List.any_eq_true.2 ⟨j, List.mem_range.2 hj, decide_eq_true he⟩
  · rintro ⟨h, h'⟩
    rw [if_neg, if_neg, if_neg, if_neg]
    · have := h.p0; have := h.p1; have := h.m0; have := h.m1; omega
    · rw [(allB_iff (pomRef x (gPm l i)) _).2 h.rf]; simp
    · intro hc
      obtain ⟨j, hj, he⟩ := List.any_eq_true.1 hc
      exact h' j (List.mem_range.1 hj) (of_decide_eq_true he)
    · have e0 := h.nm; have e1 := h.le; have e2 := h.n0; have e3 := h.n1
      intro hc
      rcases hc with hc | hc | hc | hc
      · rw [e0] at hc; cases hc
      all_goals omega
theorem spcE_zero {x : StyX} {l : List PomX} : spcE x l = 0 ↔ styE x = 0 ∧ l.length ≤ 16 ∧ ∀ i, i < l.length → PomOk x (gPm l i) ∧ ∀ j, j < i → (gPm l j).nm.data.toList ≠ (gPm l i).nm.data.toList := by
  unfold spcE
  constructor
  · intro h
    split at h
    · rename_i h1; exact absurd h h1
    rename_i h1
    split at h
    · cases h
    rename_i h2
    exact ⟨Classical.not_not.1 h1, by omega, fun i hi => pomE_zero.1 ((firstE_zero _ _).1 h i hi)⟩
  · rintro ⟨h1, h2, h3⟩
    rw [if_neg (fun h => h h1), if_neg (by omega)]
    exact (firstE_zero _ _).2 fun i hi => pomE_zero.2 (h3 i hi)
theorem spcE_one {x : StyX} {p : PomX} : spcE x [p] = 0 ↔ styE x = 0 ∧ PomOk x p := by
  rw [spcE_zero]
  constructor
  · rintro ⟨h1, _, h3⟩; exact ⟨h1, (h3 0 (by simp)).1⟩
  · rintro ⟨h1, h2⟩
    refine ⟨h1, by simp, fun i hi => ?_⟩
    obtain rfl : i = 0 := by simpa using hi
    exact ⟨h2, fun j hj => absurd hj (Nat.not_lt_zero _)⟩
theorem targE_zero {x : StyX} {p : PomX} {z : Int} : targE x p z = 0 ↔ spcE x [p] = 0 ∧ (0 ≤ z ∧ z < x.sz.length) ∧ ∀ k, k < p.ps.length → tgR x p (gI x.ms z.toNat) k = 0 := by
  unfold targE
  constructor
  · intro h
    split at h
    · rename_i h1; exact absurd h h1
    rename_i h1
    split at h
    · cases h
    rename_i h2
    exact ⟨Classical.not_not.1 h1, by omega, fun k hk => (firstE_zero _ _).1 h k hk⟩
  · rintro ⟨h1, h2, h3⟩
    rw [if_neg (fun h => h h1), if_neg (by omega)]
    exact (firstE_zero _ _).2 h3
/- sums -/
theorem tgTo_sum (x : StyX) (p : PomX) (m : Int) : ∀ k, tgTo x p m k = sumN (tgN x p m) k
  | 0 => rfl
  | k + 1 => by unfold tgTo sumN; rw [tgTo_sum x p m k]
def oneP (p : PomX) (i : Nat) : PomX := ⟨p.nm, [gI p.ps i], [gI p.es i], p.pl, p.mi⟩
def backP (p : PomX) : PomX := ⟨p.nm, p.ps.reverse, p.es.reverse, p.pl, p.mi⟩
theorem oneP_ok {x : StyX} {p : PomX} (h : PomOk x p) {i : Nat} (hi : i < p.ps.length) : PomOk x (oneP p i) :=
  ⟨h.nm, rfl, by simp [oneP], by simp [oneP], fun k hk => by
    obtain rfl : k = 0 := by simpa [oneP] using hk
    exact h.rf i hi, h.p0, h.p1, h.m0, h.m1⟩
theorem gI_rev {l : List Int} {k : Nat} (h : k < l.length) : gI l.reverse k = gI l (l.length - 1 - k) := by
  rw [gI_eq (by simpa using h), gI_eq (by omega)]; simp [List.getElem_reverse]
theorem backP_ok {x : StyX} {p : PomX} (h : PomOk x p) : PomOk x (backP p) :=
  ⟨h.nm, by simp [backP, h.le], by simpa [backP] using h.n0, by simpa [backP] using h.n1, fun k hk => by
    have hk' : k < p.ps.length := by simpa [backP] using hk
    show edgeB x.s (gI p.ps.reverse k) (gI p.es.reverse k) = true
    rw [gI_rev hk', gI_rev (by rw [h.le]; exact hk'), h.le]
    exact h.rf _ (by omega), h.p0, h.p1, h.m0, h.m1⟩
theorem one_targ {x : StyX} {p : PomX} {z : Int} (h : targE x p z = 0) {i : Nat} (hi : i < p.ps.length) : targE x (oneP p i) z = 0 ∧ targV x (oneP p i) z = (tgN x p (gI x.ms z.toNat) i : Int) := by
  obtain ⟨h1, h2, h3⟩ := targE_zero.1 h
  obtain ⟨s0, s1⟩ := spcE_one.1 h1
  have hz : targE x (oneP p i) z = 0 := targE_zero.2 ⟨spcE_one.2 ⟨s0, oneP_ok s1 hi⟩, h2, fun k hk => by
    obtain rfl : k = 0 := by simpa [oneP] using hk
    exact h3 i hi⟩
  refine ⟨hz, ?_⟩
  unfold targV
  rw [if_neg (fun h => h hz)]
  show ((tgTo x (oneP p i) (gI x.ms z.toNat) (0 + 1) : Nat) : Int) = _
  unfold tgTo tgTo
  simp only [Nat.zero_add]
  rfl
theorem back_targ {x : StyX} {p : PomX} {z : Int} (h : targE x p z = 0) : targE x (backP p) z = 0 ∧ targV x (backP p) z = targV x p z := by
  obtain ⟨h1, h2, h3⟩ := targE_zero.1 h
  obtain ⟨s0, s1⟩ := spcE_one.1 h1
  have hl : (backP p).ps.length = p.ps.length := by simp [backP]
  have hR : ∀ k, k < p.ps.length → tgR x (backP p) (gI x.ms z.toNat) k = tgR x p (gI x.ms z.toNat) (p.ps.length - 1 - k) := fun k hk => by
    unfold tgR
    show gradedR (gPx x.ps (gI p.ps.reverse k).toNat).p.es _ _ = _
    rw [show gI (backP p).ps k = gI p.ps.reverse k from rfl, gI_rev hk]
  have hN : ∀ k, k < p.ps.length → tgN x (backP p) (gI x.ms z.toNat) k = tgN x p (gI x.ms z.toNat) (p.ps.length - 1 - k) := fun k hk => by
    unfold tgN
    rw [show gI (backP p).ps k = gI p.ps.reverse k from rfl, show gI (backP p).es k = gI p.es.reverse k from rfl, gI_rev hk, gI_rev (by rw [s1.le]; exact hk), s1.le]
  have hz : targE x (backP p) z = 0 := targE_zero.2 ⟨spcE_one.2 ⟨s0, backP_ok s1⟩, h2, fun k hk => by
    rw [hl] at hk
    rw [hR k hk]
    exact h3 _ (by omega)⟩
  refine ⟨hz, ?_⟩
  unfold targV
  rw [if_neg (fun h => h hz), if_neg (fun h' => h' h), hl, tgTo_sum, tgTo_sum, ← sumN_rev p.ps.length (tgN x p (gI x.ms z.toNat))]
  rw [sumN_congr (n := p.ps.length) hN _ (Nat.le_refl _)]
/- a line that is valid is at least 1000 long -/
theorem rootN_ge {n : Nat} (h : 1000000 ≤ n) (hn : n < 9223372036854775808) : 1000 ≤ rootN n := by
  have h1 := (rootN_is n (by omega)).2
  rcases Nat.lt_or_ge (rootN n) 1000 with h2 | h2
  · have h3 : (rootN n + 1) * (rootN n + 1) ≤ 1000 * 1000 := Nat.mul_le_mul (by omega) (by omega)
    omega
  · exact h2
theorem length_1000 {l : List Spot} (h : lcheck l = 0) : 1000 ≤ lengthN l := by
  obtain ⟨h2, h40, hin, hne⟩ := (lcheck_iff l).1 h
  unfold lengthN
  rw [if_neg (fun h' => h' h)]
  have hs : 1 ≤ sqN (gS l 0) (gS l 1) := by
    have h1 := seg_pos (hin 0 (by omega)) (hin 1 (by omega)) (hne 0 (by omega))
    rcases Nat.eq_zero_or_pos (sqN (gS l 0) (gS l 1)) with h0 | h0
    · exfalso
      unfold seg at h1
      rw [h0] at h1
      have := (rootN_is 0 (by omega)).1
      have h3 : 1 * 1 ≤ rootN (1000000 * 0) * rootN (1000000 * 0) := Nat.mul_le_mul h1 h1
      simp only [Nat.mul_zero] at h3
      omega
    · exact h0
  have hb := sqN_le (hin 0 (by omega)) (hin 1 (by omega))
  have h1 : 1000 ≤ seg (gS l 0) (gS l 1) := rootN_ge (by omega) (by omega)
  have h3 := lenTo_mono (l := l) (show 1 ≤ l.length - 1 by omega)
  have h4 : lenTo l 1 = seg (gS l 0) (gS l 1) := by simp [lenTo]
  omega
end Go.Proofs.YtkigmpholnfkbaaGreat
