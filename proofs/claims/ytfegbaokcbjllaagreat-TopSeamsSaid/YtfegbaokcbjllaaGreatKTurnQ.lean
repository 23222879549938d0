/- Plain: an outline and its turned image pass the check together (the second part: joins, polygons, names). -/
import Derived.Test.YtfegbaokcbjllaaGreatKTurnP
namespace Go.Proofs.YtfegbaokcbjllaaGreat
open Go.RowKit
theorem turnI_lt {f : Bool} {n i : Nat} (h : i < n) : turnI f n i < n := by
 unfold turnI; split
 ·exact Nat.mod_lt _ (by omega)
 ·exact h
theorem turnI_inj {f : Bool} {n i j : Nat} (hi : i < n) (hj : j < n) (h : turnI f n i = turnI f n j) : i = j := by
 unfold turnI at h
 split at h
 ·rcases Nat.eq_zero_or_pos i with h0 | h0 <;> rcases Nat.eq_zero_or_pos j with h1 | h1
  ·omega
  ·subst h0; rw [Nat.sub_zero, Nat.mod_self, Nat.mod_eq_of_lt (by omega)] at h; omega
  ·subst h1; rw [Nat.sub_zero, Nat.mod_self, Nat.mod_eq_of_lt (by omega)] at h; omega
  ·rw [Nat.mod_eq_of_lt (by omega), Nat.mod_eq_of_lt (by omega)] at h; omega
 ·exact h
theorem turnI_turnI {f : Bool} {n i : Nat} (hi : i < n) : turnI f n (turnI f n i) = i := by
 unfold turnI
 split
 ·rcases Nat.eq_zero_or_pos i with h0 | h0
  ·subst h0; simp
  ·rw [Nat.mod_eq_of_lt (show n - i < n by omega), Nat.mod_eq_of_lt (by omega)]; omega
 ·rfl
theorem turnE_get {f : Bool} {q : Int} {es : List Edge} {i : Nat} (h : i < es.length) : gE (turnE f q es) i = ((gE es (turnI f es.length i)).1, turnL f q (gE es (turnI f es.length i)).2) := by
 rw [gE_eq (by rw [turnE_len]; exact h)]; simp [turnE, turnAt]
structure OCk (es : List Edge) : Prop where
 l2 : 2 ≤ es.length
 l16 : es.length ≤ 16
 nm : ∀ i, i < es.length → nameB (gE es i).1 = true
 ds : ∀ i j, i < es.length → j < es.length → i ≠ j → (gE es i).1.toList ≠ (gE es j).1.toList
 lc : ∀ i, i < es.length → lcheck (gE es i).2 = 0
 jn : ∀ i, i < es.length → gS (gE es i).2 ((gE es i).2.length - 1) = gS (gE es ((i + 1) % es.length)).2 0
 pc : pcheck (verts es) = 0
theorem edgeE_iff (es : List Edge) (i : Nat) : edgeE es i = 0 ↔ nameB (gE es i).1 = true ∧ (∀ j, j < i → (gE es j).1.toList ≠ (gE es i).1.toList) ∧ lcheck (gE es i).2 = 0 := by
 unfold edgeE
 constructor
 ·intro h
  split at h
  ·cases h
  split at h
  ·cases h
  ·rename_i h1 h2
   refine ⟨by simpa using h1, fun j hj => ?_, h⟩
   have h3 := (allB_iff _ _).1 (by simpa using h2) j hj
   unfold sameN at h3
   simpa using h3
 ·rintro ⟨h1, h2, h3⟩
  rw [if_neg (by rw [h1]; decide), if_neg, h3]
  rw [Bool.not_eq_false, allB_iff]
  intro j hj
  unfold sameN
  simpa using h2 j hj
theorem ocheck_iff (es : List Edge) : ocheck es = 0 ↔ OCk es := by
 constructor
 ·intro h
  obtain ⟨h2, h16, hf⟩ := ocheck_ok h
  have hE := fun i hi => (edgeE_iff es i).1 ((firstE_zero _ _).1 hf i hi)
  unfold ocheck at h
  rw [if_neg (by omega), if_neg (by omega), if_neg (by rw [hf]; decide)] at h
  split at h
  ·cases h
  ·rename_i hj
   refine ⟨h2, h16, fun i hi => (hE i hi).1, fun i j hi hj' hne => ?_, fun i hi => (hE i hi).2.2, fun i hi => ?_, h⟩
   ·rcases Nat.lt_or_ge i j with hl | hl
    ·exact (hE j hj').2.1 i hl
    ·exact ((hE i hi).2.1 j (by omega)).symm
   ·have := (allB_iff _ _).1 (by simpa using hj) i hi
    unfold joinF at this
    simpa using this
 ·rintro ⟨h2, h16, h3, h4, h5, h6, h7⟩
  have hf : firstE (edgeE es) es.length = 0 := (firstE_zero _ _).2 fun i hi => (edgeE_iff es i).2 ⟨h3 i hi, fun j hj => h4 j i (by omega) hi (by omega), h5 i hi⟩
  unfold ocheck
  rw [if_neg (by omega), if_neg (by omega), if_neg (by rw [hf]; decide), if_neg, h7]
  rw [Bool.not_eq_false, allB_iff]
  intro i hi
  unfold joinF
  simpa using h6 i hi
/- the vertices of a turned outline -/
theorem verts_false (q : Int) (es : List Edge) : verts (turnE false q es) = (verts es).map (applyT false q) := by
 have e : turnE false q es = es.map fun e => (e.1, e.2.map (applyT false q)) := by
  refine list_ext_gE (by rw [turnE_len, List.length_map]) fun i hi => ?_
  rw [turnE_len] at hi
  rw [turnE_get hi, gE_eq (l := es.map _) (by simpa using hi)]
  simp [turnI, turnL, gE_eq hi]
 rw [e]
 unfold verts
 rw [List.map_flatMap, List.flatMap_map]
 congr 1
 funext x
 simp [List.map_dropLast]
theorem cy_map {l : List Spot} (T : Spot → Spot) (hl : 0 < l.length) (i : Int) : cy (l.map T) i = T (cy l i) := by
 obtain ⟨k, hk, e, c⟩ := cy_of hl i
 rw [c]
 unfold cy
 rw [List.length_map, e]
 have : ((k : Int)).toNat = k := by omega
 rw [this, gS_eq (by simpa using hk), gS_eq hk]; simp
theorem turnE_m {f : Bool} {q : Int} {es : List Edge} {i : Nat} (h : i < es.length) : (gE (turnE f q es) i).2.length = (gE es (turnI f es.length i)).2.length := by rw [turnE_get h, turnL_len]
theorem off_turn {q : Int} {es : List Edge} (hn : 0 < es.length) : ∀ i, 1 ≤ i → i ≤ es.length → offE (turnE true q es) i + offE es (es.length - i + 1) = ((gE es 0).2.length - 1) + offE es es.length
 |0, h, _ => absurd h (by omega)
 |1, _, _ => by
  rw [show es.length - 1 + 1 = es.length from by omega]
  have e : offE (turnE true q es) 1 = (gE es 0).2.length - 1 := by
   simp only [offE]
   rw [turnE_m hn, show turnI true es.length 0 = 0 from by simp [turnI]]; omega
  rw [e]
 |i + 2, _, h => by
  have ih := off_turn (q := q) hn (i + 1) (by omega) (by omega)
  have e1 : offE (turnE true q es) (i + 2) = offE (turnE true q es) (i + 1) + ((gE es (es.length - (i + 1))).2.length - 1) := by
   show offE (turnE true q es) (i + 1) + ((gE (turnE true q es) (i + 1)).2.length - 1) = _
   rw [turnE_m (by omega), show turnI true es.length (i + 1) = es.length - (i + 1) from by unfold turnI; rw [if_pos rfl, Nat.mod_eq_of_lt (by omega)]]
  have e2 : offE es (es.length - (i + 1) + 1) = offE es (es.length - (i + 1)) + ((gE es (es.length - (i + 1))).2.length - 1) := rfl
  rw [e1, show es.length - (i + 2) + 1 = es.length - (i + 1) from by omega]
  omega
theorem verts_turn_len (f : Bool) (q : Int) {es : List Edge} (hn : 0 < es.length) : (verts (turnE f q es)).length = (verts es).length := by
 cases f
 ·rw [verts_false, List.length_map]
 ·rw [verts_len', verts_len', turnE_len]
  have h := off_turn (q := q) hn es.length (by omega) (Nat.le_refl _)
  have e : offE es (es.length - es.length + 1) = (gE es 0).2.length - 1 := by rw [Nat.sub_self]; simp [offE]
  omega
theorem Joined.turn {es : List Edge} (h : Joined es) (q : Int) : ∀ i : Int, cy (verts (turnE true q es)) i = applyT true q (cy (verts es) (((gE es 0).2.length - 1 : Nat) - i)) := by
 have hN := verts_turn_len true q h.n0
 have key : ∀ x : Nat, x < (verts es).length → cy (verts (turnE true q es)) x = applyT true q (cy (verts es) (((gE es 0).2.length - 1 : Nat) - (x : Int))) := fun x hx => by
  have hx' : x < offE (turnE true q es) (turnE true q es).length := by rw [← verts_len', hN]; exact hx
  obtain ⟨i, k, hi, hk, rfl⟩ := off_find _ _ _ hx'
  rw [turnE_len] at hi
  rw [cy_nat (by rw [hN]; exact hx), verts_get (by rw [turnE_len]; exact hi) hk]
  rw [turnE_m hi] at hk
  rw [turnE_get hi]
  simp only
  rw [turnL_get (by omega), if_pos rfl]
  have hlt := turnI_lt (f := true) hi
  congr 1
  rw [← h.at hlt (k := (gE es (turnI true es.length i)).2.length - 1 - k) (by omega)]
  rcases Nat.eq_zero_or_pos i with h0 | h0
  ·subst h0
   have e : turnI true es.length 0 = 0 := by simp [turnI]
   rw [e] at hk ⊢
   congr 1
   simp only [offE]
   omega
  ·have e : turnI true es.length i = es.length - i := by unfold turnI; rw [if_pos rfl, Nat.mod_eq_of_lt (by omega)]
   rw [e] at hk ⊢
   have ho := off_turn (q := q) h.n0 i (by omega) (by omega)
   have e2 : offE es (es.length - i + 1) = offE es (es.length - i) + ((gE es (es.length - i)).2.length - 1) := rfl
   have e3 := verts_len' es
   have : ((offE es (es.length - i) + ((gE es (es.length - i)).2.length - 1 - k) : Nat) : Int) = (((gE es 0).2.length - 1 : Nat) : Int) - ((offE (turnE true q es) i + k : Nat) : Int) + 1 * ((verts es).length : Int) := by omega
   rw [this, cy_add]
 intro i
 have hp := h.pos
 obtain ⟨k, hk, e, c⟩ := cy_of (l := verts (turnE true q es)) (by rw [hN]; exact hp) i
 rw [hN] at hk e
 rw [c, ← cy_nat (by rw [hN]; exact hk), key k hk]
 congr 1
 refine cy_mod ?_
 exact (neg_mod_iff _).2 (by rw [e, Int.emod_eq_of_lt (by omega) (by omega)])
theorem ocheck_joined {es : List Edge} (h2 : 2 ≤ es.length) (hl : ∀ i, i < es.length → lcheck (gE es i).2 = 0) (hj : ∀ i, i < es.length → gS (gE es i).2 ((gE es i).2.length - 1) = gS (gE es ((i + 1) % es.length)).2 0) : Joined es ∧ AllB (verts es) := by
 have hln : ∀ i, i < es.length → 2 ≤ (gE es i).2.length := fun i hi => ((lcheck_iff _).1 (hl i hi)).1
 refine ⟨⟨by omega, hln, hj⟩, fun k hk => ?_⟩
 rw [verts_len'] at hk
 obtain ⟨j, k', hj', hk', rfl⟩ := off_find _ _ _ hk
 rw [verts_get hj' hk']
 exact ((lcheck_iff _).1 (hl j hj')).2.2.1 k' (by omega)
/- the polygon's check -/
theorem pcheck_turn {es : List Edge} (f : Bool) (q : Int) (h : Joined es) (hB : AllB (verts es)) : pcheck (verts (turnE f q es)) = 0 ↔ pcheck (verts es) = 0 := by
 have hN := verts_turn_len f q h.n0
 have hp := h.pos
 have rel : ∃ c : Int, (f = false → ∀ i, cy (verts (turnE f q es)) i = applyT f q (cy (verts es) (i + c))) ∧ (f = true → ∀ i, cy (verts (turnE f q es)) i = applyT f q (cy (verts es) (c - i))) := by
  cases f
  ·exact ⟨0, fun _ i => by rw [verts_false, cy_map _ hp, Int.add_zero], fun h => by cases h⟩
  ·exact ⟨_, fun h => (by cases h), fun _ => h.turn q⟩
 obtain ⟨c, r0, r1⟩ := rel
 have hB' : AllB (verts (turnE f q es)) := fun k hk => by
  have e := cy_nat hk
  rw [← e]
  cases f
  ·rw [r0 rfl]; exact (pres_apply _ q).b _ (hB.cy hp _)
  ·rw [r1 rfl]; exact (pres_apply _ q).b _ (hB.cy hp _)
 rw [pcheck_iff, pcheck_iff, hN]
 have key : 3 ≤ (verts es).length → (simpleB (verts (turnE f q es)) = true ↔ simpleB (verts es) = true) := fun h3 => by
  rw [simple_iff hB' (by rw [hN]; exact h3), simple_iff hB h3]
  cases f
  ·exact shift_simple (pres_apply false q) hN hB hp c (r0 rfl)
  ·exact rev_simple (pres_apply true q) hN hB h3 c (r1 rfl)
 constructor
 ·rintro ⟨a, b, _, d⟩; exact ⟨a, b, hB, (key a).1 d⟩
 ·rintro ⟨a, b, _, d⟩; exact ⟨a, b, hB', (key a).2 d⟩
theorem ocheck_turn (f : Bool) (q : Int) {es : List Edge} (hw : WfE es) : ocheck (turnE f q es) = 0 ↔ ocheck es = 0 := by
 rw [ocheck_iff, ocheck_iff]
 have hlc : (∀ i, i < es.length → lcheck (gE (turnE f q es) i).2 = 0) ↔ ∀ i, i < es.length → lcheck (gE es i).2 = 0 := by
  constructor
  ·intro h i hi
   have := h (turnI f es.length i) (turnI_lt hi)
   rw [turnE_get (turnI_lt hi), turnI_turnI hi] at this
   exact (turnL_lcheck (hw i hi)).1 this
  ·intro h i hi
   rw [turnE_get hi]
   exact (turnL_lcheck (hw _ (turnI_lt hi))).2 (h _ (turnI_lt hi))
 have hnm : (∀ i, i < es.length → nameB (gE (turnE f q es) i).1 = true) ↔ ∀ i, i < es.length → nameB (gE es i).1 = true := by
  constructor
  ·intro h i hi
   have := h (turnI f es.length i) (turnI_lt hi)
   rwa [turnE_get (turnI_lt hi), turnI_turnI hi] at this
  ·intro h i hi
   rw [turnE_get hi]; exact h _ (turnI_lt hi)
 have hds : (∀ i j, i < es.length → j < es.length → i ≠ j → (gE (turnE f q es) i).1.toList ≠ (gE (turnE f q es) j).1.toList) ↔ ∀ i j, i < es.length → j < es.length → i ≠ j → (gE es i).1.toList ≠ (gE es j).1.toList := by
  constructor
  ·intro h i j hi hj hne
   have := h (turnI f es.length i) (turnI f es.length j) (turnI_lt hi) (turnI_lt hj) (fun e => hne (turnI_inj hi hj e))
   rwa [turnE_get (turnI_lt hi), turnI_turnI hi, turnE_get (turnI_lt hj), turnI_turnI hj] at this
  ·intro h i j hi hj hne
   rw [turnE_get hi, turnE_get hj]
   exact h _ _ (turnI_lt hi) (turnI_lt hj) (fun e => hne (turnI_inj hi hj e))
 have hjn : 2 ≤ es.length → (∀ i, i < es.length → lcheck (gE es i).2 = 0) → ((∀ i, i < es.length → gS (gE (turnE f q es) i).2 ((gE (turnE f q es) i).2.length - 1) = gS (gE (turnE f q es) ((i + 1) % es.length)).2 0) ↔ ∀ i, i < es.length → gS (gE es i).2 ((gE es i).2.length - 1) = gS (gE es ((i + 1) % es.length)).2 0) := fun h2 hl => by
  have hin : ∀ i, i < es.length → 2 ≤ (gE es i).2.length ∧ AllB (gE es i).2 := fun i hi => ⟨((lcheck_iff _).1 (hl i hi)).1, ((lcheck_iff _).1 (hl i hi)).2.2.1⟩
  cases f
  ·have e : ∀ i, i < es.length → (gS (gE (turnE false q es) i).2 ((gE (turnE false q es) i).2.length - 1) = gS (gE (turnE false q es) ((i + 1) % es.length)).2 0 ↔ gS (gE es i).2 ((gE es i).2.length - 1) = gS (gE es ((i + 1) % es.length)).2 0) := fun i hi => by
    have hm := Nat.mod_lt (i + 1) (show 0 < es.length by omega)
    obtain ⟨l2, hB⟩ := hin i hi
    obtain ⟨l2', hB'⟩ := hin _ hm
    rw [turnE_get hi, turnE_get hm]
    simp only [turnI, Bool.false_eq_true, if_false, turnL_len]
    rw [turnL_get (by omega), turnL_get (by omega)]
    simp only [Bool.false_eq_true, if_false]
    exact ⟨fun h => (pres_apply false q).inj _ _ h (hB _ (by omega)) (hB' _ (by omega)), fun h => by rw [h]⟩
   exact ⟨fun h i hi => (e i hi).1 (h i hi), fun h i hi => (e i hi).2 (h i hi)⟩
  ·have e : ∀ i, i < es.length → (gS (gE (turnE true q es) i).2 ((gE (turnE true q es) i).2.length - 1) = gS (gE (turnE true q es) ((i + 1) % es.length)).2 0 ↔ gS (gE es ((es.length - i) % es.length)).2 0 = gS (gE es ((es.length - (i + 1) % es.length) % es.length)).2 ((gE es ((es.length - (i + 1) % es.length) % es.length)).2.length - 1)) := fun i hi => by
    have hm := Nat.mod_lt (i + 1) (show 0 < es.length by omega)
    have h1 := Nat.mod_lt (es.length - i) (show 0 < es.length by omega)
    have h3 := Nat.mod_lt (es.length - (i + 1) % es.length) (show 0 < es.length by omega)
    obtain ⟨l2, hB⟩ := hin _ h1
    obtain ⟨l2', hB'⟩ := hin _ h3
    rw [turnE_get hi, turnE_get hm]
    simp only [turnI, if_true, turnL_len]
    rw [turnL_get (by omega), turnL_get (by omega)]
    simp only [if_true, Nat.sub_zero, Nat.sub_self]
    exact ⟨fun h => (pres_apply true q).inj _ _ h (hB _ (by omega)) (hB' _ (by omega)), fun h => by rw [h]⟩
   have idx : ∀ i, i < es.length → ((es.length - (i + 1) % es.length) % es.length + 1) % es.length = (es.length - i) % es.length := fun i hi => by
    rcases Nat.lt_or_ge (i + 1) es.length with h | h
    ·rw [Nat.mod_eq_of_lt h, Nat.mod_eq_of_lt (show es.length - (i + 1) < es.length by omega)]; congr 1; omega
    ·have : i + 1 = es.length := by omega
     rw [this, Nat.mod_self, Nat.sub_zero, Nat.mod_self, show es.length - i = 0 + 1 from by omega]
   constructor
   ·intro h j hj
    have hi := turnI_lt (f := true) (Nat.mod_lt (j + 1) (show 0 < es.length by omega))
    have h1 := (e _ hi).1 (h _ hi)
    have k1 := idx _ hi
    have t1 := turnI_turnI (f := true) (n := es.length) (i := (j + 1) % es.length) (Nat.mod_lt _ (by omega))
    unfold turnI at t1 h1 k1
    simp only [if_true] at t1 h1 k1
    rw [t1] at h1 k1
    have hjj : (es.length - ((es.length - (j + 1) % es.length) % es.length + 1) % es.length) % es.length = j := by
     rcases Nat.lt_or_ge (j + 1) es.length with h | h
     ·rw [Nat.mod_eq_of_lt h, Nat.mod_eq_of_lt (show es.length - (j + 1) < es.length by omega)]
      rw [show es.length - (j + 1) + 1 = es.length - j from by omega]
      rcases Nat.eq_zero_or_pos j with h0 | h0
      ·subst h0; simp
      ·rw [Nat.mod_eq_of_lt (show es.length - j < es.length by omega), Nat.mod_eq_of_lt (by omega)]; omega
     ·have : j + 1 = es.length := by omega
      rw [this, Nat.mod_self, Nat.sub_zero, Nat.mod_self, Nat.zero_add]
      rcases Nat.lt_or_ge 1 es.length with h' | h'
      ·rw [Nat.mod_eq_of_lt h', Nat.mod_eq_of_lt (by omega)]; omega
      ·omega
    rw [hjj] at h1
    exact h1.symm
   ·intro h i hi
    refine (e i hi).2 ?_
    have h3 := Nat.mod_lt (es.length - (i + 1) % es.length) (show 0 < es.length by omega)
    have := h _ h3
    rw [idx i hi] at this
    exact this.symm
 constructor
 ·intro h
  have h2 := h.l2; have h16 := h.l16
  rw [turnE_len] at h2 h16
  have lc := hlc.1 (fun i hi => h.lc i (by rw [turnE_len]; exact hi))
  have jn := (hjn h2 lc).1 (fun i hi => by have := h.jn i (by rw [turnE_len]; exact hi); rwa [turnE_len] at this)
  obtain ⟨J, B⟩ := ocheck_joined h2 lc jn
  exact ⟨h2, h16, hnm.1 (fun i hi => h.nm i (by rw [turnE_len]; exact hi)), hds.1 (fun i j hi hj hne => h.ds i j (by rw [turnE_len]; exact hi) (by rw [turnE_len]; exact hj) hne), lc, jn, (pcheck_turn f q J B).1 h.pc⟩
 ·intro h
  obtain ⟨J, B⟩ := ocheck_joined h.l2 h.lc h.jn
  refine ⟨by rw [turnE_len]; exact h.l2, by rw [turnE_len]; exact h.l16, ?_, ?_, ?_, ?_, (pcheck_turn f q J B).2 h.pc⟩
  ·intro i hi; rw [turnE_len] at hi; exact hnm.2 h.nm i hi
  ·intro i j hi hj hne; rw [turnE_len] at hi hj; exact hds.2 h.ds i j hi hj hne
  ·intro i hi; rw [turnE_len] at hi; exact hlc.2 h.lc i hi
  ·intro i hi; rw [turnE_len] at hi ⊢; exact (hjn h.l2 h.lc).2 h.jn i hi
end Go.Proofs.YtfegbaokcbjllaaGreat
