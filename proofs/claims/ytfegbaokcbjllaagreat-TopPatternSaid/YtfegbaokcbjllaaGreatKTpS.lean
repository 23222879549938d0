/- plain: the segments of an outline moved by their allowances, and the points of all corners, under a turn. No program in sight. -/
import Derived.Test.YtfegbaokcbjllaaGreatKSgW
import Derived.Test.YtfegbaokcbjllaaGreatKCompS
import Derived.Test.YtfegbaokcbjllaaGreatKTurned
/- Plain: an outline and its turned image pass the check together (the second part: joins, polygons, names). -/
namespace Go.Proofs.YtfegbaokcbjllaaGreat
open Go.RowKit
theorem turnI_lt {f : Bool} {n i : Nat} (h : i < n) : turnI f n i < n := by
 unfold turnI; split
 ·exact Nat.mod_lt _ (by omega)
 ·exact h
theorem turnI_inj {f : Bool} {n i j : Nat} (hi : i < n) (hj : j < n) (h : turnI f n i = turnI f n j) : i = j := by
 unfold turnI at h
 split at h
 ·rcases Nat.eq_zero_or_pos i with h0 | h0 <;> rcases Nat.eq_zero_or_pos j with h1 | h1
  ·omega
  ·subst h0; rw [Nat.sub_zero, Nat.mod_self, Nat.mod_eq_of_lt (by omega)] at h; omega
  ·subst h1; rw [Nat.sub_zero, Nat.mod_self, Nat.mod_eq_of_lt (by omega)] at h; omega
  ·rw [Nat.mod_eq_of_lt (by omega), Nat.mod_eq_of_lt (by omega)] at h; omega
 ·exact h
theorem turnI_turnI {f : Bool} {n i : Nat} (hi : i < n) : turnI f n (turnI f n i) = i := by
 unfold turnI
 split
 ·rcases Nat.eq_zero_or_pos i with h0 | h0
  ·subst h0; simp
  ·rw [Nat.mod_eq_of_lt (show n - i < n by omega), Nat.mod_eq_of_lt (by omega)]; omega
 ·rfl
theorem turnE_get {f : Bool} {q : Int} {es : List Edge} {i : Nat} (h : i < es.length) : gE (turnE f q es) i = ((gE es (turnI f es.length i)).1, turnL f q (gE es (turnI f es.length i)).2) := by
 rw [gE_eq (by rw [turnE_len]; exact h)]; simp [turnE, turnAt]
structure OCk (es : List Edge) : Prop where
 l2 : 2 ≤ es.length
 l16 : es.length ≤ 16
 nm : ∀ i, i < es.length → nameB (gE es i).1 = true
 ds : ∀ i j, i < es.length → j < es.length → i ≠ j → (gE es i).1.toList ≠ (gE es j).1.toList
 lc : ∀ i, i < es.length → lcheck (gE es i).2 = 0
 jn : ∀ i, i < es.length → gS (gE es i).2 ((gE es i).2.length - 1) = gS (gE es ((i + 1) % es.length)).2 0
 pc : pcheck (verts es) = 0
theorem edgeE_iff (es : List Edge) (i : Nat) : edgeE es i = 0 ↔ nameB (gE es i).1 = true ∧ (∀ j, j < i → (gE es j).1.toList ≠ (gE es i).1.toList) ∧ lcheck (gE es i).2 = 0 := by
 unfold edgeE
 constructor
 ·intro h
  split at h
  ·cases h
  split at h
  ·cases h
  ·rename_i h1 h2
   refine ⟨by simpa using h1, fun j hj => ?_, h⟩
   have h3 := (allB_iff _ _).1 (by simpa using h2) j hj
   unfold sameN at h3
   simpa using h3
 ·rintro ⟨h1, h2, h3⟩
  rw [if_neg (by rw [h1]; decide), if_neg, h3]
  rw [Bool.not_eq_false, allB_iff]
  intro j hj
  unfold sameN
  simpa using h2 j hj
theorem ocheck_iff (es : List Edge) : ocheck es = 0 ↔ OCk es := by
 constructor
 ·intro h
  obtain ⟨h2, h16, hf⟩ := ocheck_ok h
  have hE := fun i hi => (edgeE_iff es i).1 ((firstE_zero _ _).1 hf i hi)
  unfold ocheck at h
  rw [if_neg (by omega), if_neg (by omega), if_neg (by rw [hf]; decide)] at h
  split at h
  ·cases h
  ·rename_i hj
   refine ⟨h2, h16, fun i hi => (hE i hi).1, fun i j hi hj' hne => ?_, fun i hi => (hE i hi).2.2, fun i hi => ?_, h⟩
   ·rcases Nat.lt_or_ge i j with hl | hl
    ·exact (hE j hj').2.1 i hl
    ·exact ((hE i hi).2.1 j (by omega)).symm
   ·have := (allB_iff _ _).1 (by simpa using hj) i hi
    unfold joinF at this
    simpa using this
 ·rintro ⟨h2, h16, h3, h4, h5, h6, h7⟩
  have hf : firstE (edgeE es) es.length = 0 := (firstE_zero _ _).2 fun i hi => (edgeE_iff es i).2 ⟨h3 i hi, fun j hj => h4 j i (by omega) hi (by omega), h5 i hi⟩
  unfold ocheck
  rw [if_neg (by omega), if_neg (by omega), if_neg (by rw [hf]; decide), if_neg, h7]
  rw [Bool.not_eq_false, allB_iff]
  intro i hi
  unfold joinF
  simpa using h6 i hi
/- the vertices of a turned outline -/
theorem verts_false (q : Int) (es : List Edge) : verts (turnE false q es) = (verts es).map (applyT false q) := by
 have e : turnE false q es = es.map fun e => (e.1, e.2.map (applyT false q)) := by
  refine list_ext_gE (by rw [turnE_len, List.length_map]) fun i hi => ?_
  rw [turnE_len] at hi
  rw [turnE_get hi, gE_eq (l := es.map _) (by simpa using hi)]
  simp [turnI, turnL, gE_eq hi]
 rw [e]
 unfold verts
 rw [List.map_flatMap, List.flatMap_map]
 congr 1
 funext x
 simp [List.map_dropLast]
theorem cy_map {l : List Spot} (T : Spot → Spot) (hl : 0 < l.length) (i : Int) : cy (l.map T) i = T (cy l i) := by
 obtain ⟨k, hk, e, c⟩ := cy_of hl i
 rw [c]
 unfold cy
 rw [List.length_map, e]
 have : ((k : Int)).toNat = k := by omega
 rw [this, gS_eq (by simpa using hk), gS_eq hk]; simp
theorem turnE_m {f : Bool} {q : Int} {es : List Edge} {i : Nat} (h : i < es.length) : (gE (turnE f q es) i).2.length = (gE es (turnI f es.length i)).2.length := by rw [turnE_get h, turnL_len]
theorem off_turn {q : Int} {es : List Edge} (hn : 0 < es.length) : ∀ i, 1 ≤ i → i ≤ es.length → offE (turnE true q es) i + offE es (es.length - i + 1) = ((gE es 0).2.length - 1) + offE es es.length
 |0, h, _ => absurd h (by omega)
 |1, _, _ => by
  rw [show es.length - 1 + 1 = es.length from by omega]
  have e : offE (turnE true q es) 1 = (gE es 0).2.length - 1 := by
   simp only [offE]
   rw [turnE_m hn, show turnI true es.length 0 = 0 from by simp [turnI]]; omega
  rw [e]
 |i + 2, _, h => by
  have ih := off_turn (q := q) hn (i + 1) (by omega) (by omega)
  have e1 : offE (turnE true q es) (i + 2) = offE (turnE true q es) (i + 1) + ((gE es (es.length - (i + 1))).2.length - 1) := by
   show offE (turnE true q es) (i + 1) + ((gE (turnE true q es) (i + 1)).2.length - 1) = _
   rw [turnE_m (by omega), show turnI true es.length (i + 1) = es.length - (i + 1) from by unfold turnI; rw [if_pos rfl, Nat.mod_eq_of_lt (by omega)]]
  have e2 : offE es (es.length - (i + 1) + 1) = offE es (es.length - (i + 1)) + ((gE es (es.length - (i + 1))).2.length - 1) := rfl
  rw [e1, show es.length - (i + 2) + 1 = es.length - (i + 1) from by omega]
  omega
theorem verts_turn_len (f : Bool) (q : Int) {es : List Edge} (hn : 0 < es.length) : (verts (turnE f q es)).length = (verts es).length := by
 cases f
 ·rw [verts_false, List.length_map]
 ·rw [verts_len', verts_len', turnE_len]
  have h := off_turn (q := q) hn es.length (by omega) (Nat.le_refl _)
  have e : offE es (es.length - es.length + 1) = (gE es 0).2.length - 1 := by rw [Nat.sub_self]; simp [offE]
  omega
theorem Joined.turn {es : List Edge} (h : Joined es) (q : Int) : ∀ i : Int, cy (verts (turnE true q es)) i = applyT true q (cy (verts es) (((gE es 0).2.length - 1 : Nat) - i)) := by
 have hN := verts_turn_len true q h.n0
 have key : ∀ x : Nat, x < (verts es).length → cy (verts (turnE true q es)) x = applyT true q (cy (verts es) (((gE es 0).2.length - 1 : Nat) - (x : Int))) := fun x hx => by
  have hx' : x < offE (turnE true q es) (turnE true q es).length := by rw [← verts_len', hN]; exact hx
  obtain ⟨i, k, hi, hk, rfl⟩ := off_find _ _ _ hx'
  rw [turnE_len] at hi
  rw [cy_nat (by rw [hN]; exact hx), verts_get (by rw [turnE_len]; exact hi) hk]
  rw [turnE_m hi] at hk
  rw [turnE_get hi]
  simp only
  rw [turnL_get (by omega), if_pos rfl]
  have hlt := turnI_lt (f := true) hi
  congr 1
  rw [← h.at hlt (k := (gE es (turnI true es.length i)).2.length - 1 - k) (by omega)]
  rcases Nat.eq_zero_or_pos i with h0 | h0
  ·subst h0
   have e : turnI true es.length 0 = 0 := by simp [turnI]
   rw [e] at hk ⊢
   congr 1
   simp only [offE]
   omega
  ·have e : turnI true es.length i = es.length - i := by unfold turnI; rw [if_pos rfl, Nat.mod_eq_of_lt (by omega)]
   rw [e] at hk ⊢
   have ho := off_turn (q := q) h.n0 i (by omega) (by omega)
   have e2 : offE es (es.length - i + 1) = offE es (es.length - i) + ((gE es (es.length - i)).2.length - 1) := rfl
   have e3 := verts_len' es
   have : ((offE es (es.length - i) + ((gE es (es.length - i)).2.length - 1 - k) : Nat) : Int) = (((gE es 0).2.length - 1 : Nat) : Int) - ((offE (turnE true q es) i + k : Nat) : Int) + 1 * ((verts es).length : Int) := by omega
   rw [this, cy_add]
 intro i
 have hp := h.pos
 obtain ⟨k, hk, e, c⟩ := cy_of (l := verts (turnE true q es)) (by rw [hN]; exact hp) i
 rw [hN] at hk e
 rw [c, ← cy_nat (by rw [hN]; exact hk), key k hk]
 congr 1
 refine cy_mod ?_
 exact (neg_mod_iff _).2 (by rw [e, Int.emod_eq_of_lt (by omega) (by omega)])
theorem ocheck_joined {es : List Edge} (h2 : 2 ≤ es.length) (hl : ∀ i, i < es.length → lcheck (gE es i).2 = 0) (hj : ∀ i, i < es.length → gS (gE es i).2 ((gE es i).2.length - 1) = gS (gE es ((i + 1) % es.length)).2 0) : Joined es ∧ AllB (verts es) := by
 have hln : ∀ i, i < es.length → 2 ≤ (gE es i).2.length := fun i hi => ((lcheck_iff _).1 (hl i hi)).1
 refine ⟨⟨by omega, hln, hj⟩, fun k hk => ?_⟩
 rw [verts_len'] at hk
 obtain ⟨j, k', hj', hk', rfl⟩ := off_find _ _ _ hk
 rw [verts_get hj' hk']
 exact ((lcheck_iff _).1 (hl j hj')).2.2.1 k' (by omega)
/- the polygon's check -/
theorem pcheck_turn {es : List Edge} (f : Bool) (q : Int) (h : Joined es) (hB : AllB (verts es)) : pcheck (verts (turnE f q es)) = 0 ↔ pcheck (verts es) = 0 := by
 have hN := verts_turn_len f q h.n0
 have hp := h.pos
 have rel : ∃ c : Int, (f = false → ∀ i, cy (verts (turnE f q es)) i = applyT f q (cy (verts es) (i + c))) ∧ (f = true → ∀ i, cy (verts (turnE f q es)) i = applyT f q (cy (verts es) (c - i))) := by
  cases f
  ·exact ⟨0, fun _ i => by rw [verts_false, cy_map _ hp, Int.add_zero], fun h => by cases h⟩
  ·exact ⟨_, fun h => (by cases h), fun _ => h.turn q⟩
 obtain ⟨c, r0, r1⟩ := rel
 have hB' : AllB (verts (turnE f q es)) := fun k hk => by
  have e := cy_nat hk
  rw [← e]
  cases f
  ·rw [r0 rfl]; exact (pres_apply _ q).b _ (hB.cy hp _)
  ·rw [r1 rfl]; exact (pres_apply _ q).b _ (hB.cy hp _)
 rw [pcheck_iff, pcheck_iff, hN]
 have key : 3 ≤ (verts es).length → (simpleB (verts (turnE f q es)) = true ↔ simpleB (verts es) = true) := fun h3 => by
  rw [simple_iff hB' (by rw [hN]; exact h3), simple_iff hB h3]
  cases f
  ·exact shift_simple (pres_apply false q) hN hB hp c (r0 rfl)
  ·exact rev_simple (pres_apply true q) hN hB h3 c (r1 rfl)
 constructor
 ·rintro ⟨a, b, _, d⟩; exact ⟨a, b, hB, (key a).1 d⟩
 ·rintro ⟨a, b, _, d⟩; exact ⟨a, b, hB', (key a).2 d⟩
theorem ocheck_turn (f : Bool) (q : Int) {es : List Edge} (hw : WfE es) : ocheck (turnE f q es) = 0 ↔ ocheck es = 0 := by
 rw [ocheck_iff, ocheck_iff]
 have hlc : (∀ i, i < es.length → lcheck (gE (turnE f q es) i).2 = 0) ↔ ∀ i, i < es.length → lcheck (gE es i).2 = 0 := by
  constructor
  ·intro h i hi
   have := h (turnI f es.length i) (turnI_lt hi)
   rw [turnE_get (turnI_lt hi), turnI_turnI hi] at this
   exact (turnL_lcheck (hw i hi)).1 this
  ·intro h i hi
   rw [turnE_get hi]
   exact (turnL_lcheck (hw _ (turnI_lt hi))).2 (h _ (turnI_lt hi))
 have hnm : (∀ i, i < es.length → nameB (gE (turnE f q es) i).1 = true) ↔ ∀ i, i < es.length → nameB (gE es i).1 = true := by
  constructor
  ·intro h i hi
   have := h (turnI f es.length i) (turnI_lt hi)
   rwa [turnE_get (turnI_lt hi), turnI_turnI hi] at this
  ·intro h i hi
   rw [turnE_get hi]; exact h _ (turnI_lt hi)
 have hds : (∀ i j, i < es.length → j < es.length → i ≠ j → (gE (turnE f q es) i).1.toList ≠ (gE (turnE f q es) j).1.toList) ↔ ∀ i j, i < es.length → j < es.length → i ≠ j → (gE es i).1.toList ≠ (gE es j).1.toList := by
  constructor
  ·intro h i j hi hj hne
   have := h (turnI f es.length i) (turnI f es.length j) (turnI_lt hi) (turnI_lt hj) (fun e => hne (turnI_inj hi hj e))
   rwa [turnE_get (turnI_lt hi), turnI_turnI hi, turnE_get (turnI_lt hj), turnI_turnI hj] at this
  ·intro h i j hi hj hne
   rw [turnE_get hi, turnE_get hj]
   exact h _ _ (turnI_lt hi) (turnI_lt hj) (fun e => hne (turnI_inj hi hj e))
 have hjn : 2 ≤ es.length → (∀ i, i < es.length → lcheck (gE es i).2 = 0) → ((∀ i, i < es.length → gS (gE (turnE f q es) i).2 ((gE (turnE f q es) i).2.length - 1) = gS (gE (turnE f q es) ((i + 1) % es.length)).2 0) ↔ ∀ i, i < es.length → gS (gE es i).2 ((gE es i).2.length - 1) = gS (gE es ((i + 1) % es.length)).2 0) := fun h2 hl => by
  have hin : ∀ i, i < es.length → 2 ≤ (gE es i).2.length ∧ AllB (gE es i).2 := fun i hi => ⟨((lcheck_iff _).1 (hl i hi)).1, ((lcheck_iff _).1 (hl i hi)).2.2.1⟩
  cases f
  ·have e : ∀ i, i < es.length → (gS (gE (turnE false q es) i).2 ((gE (turnE false q es) i).2.length - 1) = gS (gE (turnE false q es) ((i + 1) % es.length)).2 0 ↔ gS (gE es i).2 ((gE es i).2.length - 1) = gS (gE es ((i + 1) % es.length)).2 0) := fun i hi => by
    have hm := Nat.mod_lt (i + 1) (show 0 < es.length by omega)
    obtain ⟨l2, hB⟩ := hin i hi
    obtain ⟨l2', hB'⟩ := hin _ hm
    rw [turnE_get hi, turnE_get hm]
    simp only [turnI, Bool.false_eq_true, if_false, turnL_len]
    rw [turnL_get (by omega), turnL_get (by omega)]
    simp only [Bool.false_eq_true, if_false]
    exact ⟨fun h => (pres_apply false q).inj _ _ h (hB _ (by omega)) (hB' _ (by omega)), fun h => by rw [h]⟩
   exact ⟨fun h i hi => (e i hi).1 (h i hi), fun h i hi => (e i hi).2 (h i hi)⟩
  ·have e : ∀ i, i < es.length → (gS (gE (turnE true q es) i).2 ((gE (turnE true q es) i).2.length - 1) = gS (gE (turnE true q es) ((i + 1) % es.length)).2 0 ↔ gS (gE es ((es.length - i) % es.length)).2 0 = gS (gE es ((es.length - (i + 1) % es.length) % es.length)).2 ((gE es ((es.length - (i + 1) % es.length) % es.length)).2.length - 1)) := fun i hi => by
    have hm := Nat.mod_lt (i + 1) (show 0 < es.length by omega)
    have h1 := Nat.mod_lt (es.length - i) (show 0 < es.length by omega)
    have h3 := Nat.mod_lt (es.length - (i + 1) % es.length) (show 0 < es.length by omega)
    obtain ⟨l2, hB⟩ := hin _ h1
    obtain ⟨l2', hB'⟩ := hin _ h3
    rw [turnE_get hi, turnE_get hm]
    simp only [turnI, if_true, turnL_len]
    rw [turnL_get (by omega), turnL_get (by omega)]
    simp only [if_true, Nat.sub_zero, Nat.sub_self]
    exact ⟨fun h => (pres_apply true q).inj _ _ h (hB _ (by omega)) (hB' _ (by omega)), fun h => by rw [h]⟩
   have idx : ∀ i, i < es.length → ((es.length - (i + 1) % es.length) % es.length + 1) % es.length = (es.length - i) % es.length := fun i hi => by
    rcases Nat.lt_or_ge (i + 1) es.length with h | h
    ·rw [Nat.mod_eq_of_lt h, Nat.mod_eq_of_lt (show es.length - (i + 1) < es.length by omega)]; congr 1; omega
    ·have : i + 1 = es.length := by omega
     rw [this, Nat.mod_self, Nat.sub_zero, Nat.mod_self, show es.length - i = 0 + 1 from by omega]
   constructor
   ·intro h j hj
    have hi := turnI_lt (f := true) (Nat.mod_lt (j + 1) (show 0 < es.length by omega))
    have h1 := (e _ hi).1 (h _ hi)
    have k1 := idx _ hi
    have t1 := turnI_turnI (f := true) (n := es.length) (i := (j + 1) % es.length) (Nat.mod_lt _ (by omega))
    unfold turnI at t1 h1 k1
    simp only [if_true] at t1 h1 k1
    rw [t1] at h1 k1
    have hjj : (es.length - ((es.length - (j + 1) % es.length) % es.length + 1) % es.length) % es.length = j := by
     rcases Nat.lt_or_ge (j + 1) es.length with h | h
     ·rw [Nat.mod_eq_of_lt h, Nat.mod_eq_of_lt (show es.length - (j + 1) < es.length by omega)]
      rw [show es.length - (j + 1) + 1 = es.length - j from by omega]
      rcases Nat.eq_zero_or_pos j with h0 | h0
      ·subst h0; simp
      ·rw [Nat.mod_eq_of_lt (show es.length - j < es.length by omega), Nat.mod_eq_of_lt (by omega)]; omega
     ·have : j + 1 = es.length := by omega
      rw [this, Nat.mod_self, Nat.sub_zero, Nat.mod_self, Nat.zero_add]
      rcases Nat.lt_or_ge 1 es.length with h' | h'
      ·rw [Nat.mod_eq_of_lt h', Nat.mod_eq_of_lt (by omega)]; omega
      ·omega
    rw [hjj] at h1
    exact h1.symm
   ·intro h i hi
    refine (e i hi).2 ?_
    have h3 := Nat.mod_lt (es.length - (i + 1) % es.length) (show 0 < es.length by omega)
    have := h _ h3
    rw [idx i hi] at this
    exact this.symm
 constructor
 ·intro h
  have h2 := h.l2; have h16 := h.l16
  rw [turnE_len] at h2 h16
  have lc := hlc.1 (fun i hi => h.lc i (by rw [turnE_len]; exact hi))
  have jn := (hjn h2 lc).1 (fun i hi => by have := h.jn i (by rw [turnE_len]; exact hi); rwa [turnE_len] at this)
  obtain ⟨J, B⟩ := ocheck_joined h2 lc jn
  exact ⟨h2, h16, hnm.1 (fun i hi => h.nm i (by rw [turnE_len]; exact hi)), hds.1 (fun i j hi hj hne => h.ds i j (by rw [turnE_len]; exact hi) (by rw [turnE_len]; exact hj) hne), lc, jn, (pcheck_turn f q J B).1 h.pc⟩
 ·intro h
  obtain ⟨J, B⟩ := ocheck_joined h.l2 h.lc h.jn
  refine ⟨by rw [turnE_len]; exact h.l2, by rw [turnE_len]; exact h.l16, ?_, ?_, ?_, ?_, (pcheck_turn f q J B).2 h.pc⟩
  ·intro i hi; rw [turnE_len] at hi; exact hnm.2 h.nm i hi
  ·intro i j hi hj hne; rw [turnE_len] at hi hj; exact hds.2 h.ds i j hi hj hne
  ·intro i hi; rw [turnE_len] at hi; exact hlc.2 h.lc i hi
  ·intro i hi; rw [turnE_len] at hi ⊢; exact (hjn h.l2 h.lc).2 h.jn i hi
/- the same closed row, begun elsewhere -/
def RotC (A B : List Spot) : Prop := B.length = A.length ∧ ∃ d : Int, ∀ i, cy B i = cy A (i + d)
theorem RotC.refl (A : List Spot) : RotC A A := ⟨rfl, 0, fun i => by rw [Int.add_zero]⟩
theorem RotC.symm {A B : List Spot} (h : RotC A B) : RotC B A := by
 obtain ⟨h1, d, h2⟩ := h
 exact ⟨h1.symm, -d, fun i => by rw [h2]; congr 1; omega⟩
theorem RotC.trans {A B C : List Spot} (h : RotC A B) (k : RotC B C) : RotC A C := by
 obtain ⟨h1, d, h2⟩ := h
 obtain ⟨k1, e, k2⟩ := k
 exact ⟨k1.trans h1, e + d, fun i => by rw [k2, h2]; congr 1; omega⟩
theorem gS_append (a b : List Spot) (k : Nat) : gS (a ++ b) k = if k < a.length then gS a k else gS b (k - a.length) := by
 unfold gS
 simp only [List.getD_eq_getElem?_getD]
 split
 ·rename_i h; rw [List.getElem?_append_left h]
 ·rename_i h; rw [List.getElem?_append_right (by omega)]
theorem cy_nil (i : Int) : cy [] i = (0, 0) := rfl
theorem RotC.app (a b : List Spot) : RotC (a ++ b) (b ++ a) := by
 refine ⟨by simp [Nat.add_comm], a.length, fun i => ?_⟩
 rcases Nat.eq_zero_or_pos (a ++ b).length with h0 | h0
 ·have e : a ++ b = [] := List.eq_nil_of_length_eq_zero h0
  obtain ⟨rfl, rfl⟩ := List.append_eq_nil_iff.1 e
  rfl
 ·have hn : (b ++ a).length = (a ++ b).length := by simp [Nat.add_comm]
  have hab : (a ++ b).length = a.length + b.length := List.length_append
  obtain ⟨k, hk, hm, hc⟩ := cy_of (l := b ++ a) (by omega) i
  rw [hc]
  rw [hn] at hm hk
  unfold cy
  rw [shift_mod hm, gS_append, gS_append]
  by_cases hb : k < b.length
  ·rw [if_pos hb, Int.emod_eq_of_lt (by omega) (by omega), if_neg (by omega)]
   congr 1; omega
  ·rw [if_neg hb, ← Int.sub_emod_right, Int.emod_eq_of_lt (by omega) (by omega), if_pos (by omega)]
   congr 1; omega
theorem cy_rev (l : List Spot) (i : Int) : cy l.reverse i = cy l (-1 - i) := by
 rcases Nat.eq_zero_or_pos l.length with h0 | h0
 ·rw [List.eq_nil_of_length_eq_zero h0]; rfl
 ·obtain ⟨k, hk, hm, hc⟩ := cy_of (l := l.reverse) (by simpa using h0) i
  rw [hc]
  rw [List.length_reverse] at hk hm
  have e : (-1 - i) % (l.length : Int) = ((l.length - 1 - k : Nat) : Int) := by
   have h1 : (-1 - i) % (l.length : Int) = ((l.length - 1 - k : Nat) : Int) % (l.length : Int) := by
    rw [Int.emod_eq_emod_iff_emod_sub_eq_zero, ← Int.dvd_iff_emod_eq_zero]
    refine ⟨-(i / l.length) - 1, ?_⟩
    have h2 := Int.emod_add_mul_ediv i l.length
    rw [Int.mul_sub, Int.mul_neg, Int.mul_one]
    omega
   rw [h1, Int.emod_eq_of_lt (by omega) (by omega)]
  unfold cy
  rw [e, Int.toNat_natCast]
  unfold gS
  simp only [List.getD_eq_getElem?_getD]
  rw [List.getElem?_reverse hk]
theorem RotC.rev {A B : List Spot} (h : RotC A B) : RotC A.reverse B.reverse := by
 obtain ⟨h1, d, h2⟩ := h
 exact ⟨by simpa using h1, -d, fun i => by rw [cy_rev, cy_rev, h2]; congr 1; omega⟩
theorem RotC.map {A B : List Spot} (h : RotC A B) (T : Spot → Spot) : RotC (A.map T) (B.map T) := by
 obtain ⟨h1, d, h2⟩ := h
 refine ⟨by simpa using h1, d, fun i => ?_⟩
 rcases Nat.eq_zero_or_pos A.length with h0 | h0
 ·rw [List.eq_nil_of_length_eq_zero h0, List.eq_nil_of_length_eq_zero (h1.trans h0)]; rfl
 ·rw [cy_map T (by omega), cy_map T h0, h2]
/- where a closed row changes -/
def chg (c : Int → Spot) (i : Int) : List Spot := if c i ≠ c (i - 1) then [c i] else []
def runR (c : Int → Spot) (s : Int) : Nat → List Spot
 |0 => []
 |m + 1 => runR c s m ++ chg c (s + m)
def endA (c : Int → Spot) (i : Int) : List Spot := if c i ≠ c (i + 1) then [c i] else []
def endR (c : Int → Spot) (s : Int) : Nat → List Spot
 |0 => []
 |m + 1 => endR c s m ++ endA c (s + m)
section
variable {c : Int → Spot}
theorem runR_add (s : Int) (m : Nat) : ∀ k : Nat, runR c s (m + k) = runR c s m ++ runR c (s + m) k
 |0 => by simp [runR]
 |k + 1 => by
  rw [← Nat.add_assoc]
  show runR c s (m + k) ++ chg c (s + ((m + k : Nat) : Int)) = runR c s m ++ (runR c (s + m) k ++ chg c (s + m + k))
  rw [runR_add s m k, List.append_assoc, show s + ((m + k : Nat) : Int) = s + m + k by omega]
theorem runR_congr {c' : Int → Spot} {s s' : Int} : ∀ m : Nat, (∀ i : Int, c' (s' + i) = c (s + i)) → runR c' s' m = runR c s m
 |0, _ => rfl
 |m + 1, h => by
  show runR c' s' m ++ chg c' (s' + m) = runR c s m ++ chg c (s + m)
  rw [runR_congr m h]
  unfold chg
  rw [show s' + (m : Int) - 1 = s' + ((m : Int) - 1) by omega, show s + (m : Int) - 1 = s + ((m : Int) - 1) by omega, h, h]
theorem runR_end (s : Int) : ∀ m : Nat, endR c s m ++ [c (s + m)] = c s :: runR c (s + 1) m
 |0 => by simp [endR, runR]
 |m + 1 => by
  have ih := runR_end s m
  show endR c s m ++ endA c (s + m) ++ [c (s + ((m + 1 : Nat) : Int))] = c s :: (runR c (s + 1) m ++ chg c (s + 1 + m))
  rw [show s + ((m + 1 : Nat) : Int) = s + m + 1 by omega, show s + 1 + (m : Int) = s + m + 1 by omega]
  unfold chg endA
  rw [show s + (m : Int) + 1 - 1 = s + m by omega]
  by_cases he : c (s + m) = c (s + m + 1)
  ·rw [if_neg (by simpa using he), if_neg (by simpa using he.symm), List.append_nil, List.append_nil, ← he, ih]
  ·rw [if_pos he, if_pos (fun e => he e.symm), ih]; simp
theorem endR_first (s : Int) : ∀ m : Nat, endR c s (m + 1) = endA c s ++ endR c (s + 1) m
 |0 => by simp [endR]
 |m + 1 => by
  have ih := endR_first s m
  show endR c s (m + 1) ++ endA c (s + ((m + 1 : Nat) : Int)) = endA c s ++ (endR c (s + 1) m ++ endA c (s + 1 + m))
  rw [ih, List.append_assoc, show s + ((m + 1 : Nat) : Int) = s + 1 + m by omega]
theorem runR_first (s : Int) : ∀ m : Nat, runR c s (m + 1) = chg c s ++ runR c (s + 1) m := fun m => by
 rw [Nat.add_comm, runR_add s 1 m]
 simp [runR]
theorem end_rot {N : Nat} (hp : ∀ i : Int, c (i + N) = c i) (s : Int) : RotC (endR c s N) (runR c (s + 1) N) := by
 have h := runR_end (c := c) s N
 rw [hp] at h
 match hE : endR c s N with
 |[] =>
  rw [hE] at h
  simp at h
  rw [h]; exact RotC.refl _
 |x :: E1 =>
  rw [hE] at h
  simp at h
  obtain ⟨rfl, h⟩ := h
  rw [← h]
  exact RotC.app [c s] E1
theorem run_rot {N : Nat} (hN : 0 < N) (hp : ∀ i q : Int, c (i + q * N) = c i) (d : Int) : RotC (runR c 0 N) (runR c d N) := by
 obtain ⟨t, ht⟩ : ∃ t : Nat, (t : Int) = d % N := ⟨(d % N).toNat, by have := Int.emod_nonneg d (show (N : Int) ≠ 0 by omega); omega⟩
 have hlt : t < N := by have := Int.emod_lt_of_pos d (show (0 : Int) < N by omega); omega
 have hd : d = t + d / N * N := by have := Int.emod_add_mul_ediv d N; rw [Int.mul_comm]; omega
 have e1 : runR c d N = runR c (t : Int) N := runR_congr N fun i => by
  rw [hd, show (t : Int) + d / N * N + i = t + i + d / N * N by omega]
  exact hp _ _
 have e2 : runR c (t : Int) N = runR c (t : Int) (N - t) ++ runR c 0 t := by
  have h := runR_add (c := c) (t : Int) (N - t) t
  rw [show N - t + t = N by omega] at h
  rw [h]
  congr 1
  exact runR_congr t fun i => by
   rw [show (t : Int) + ((N - t : Nat) : Int) + i = 0 + i + 1 * N by omega, hp]
 have e3 : runR c 0 N = runR c 0 t ++ runR c (t : Int) (N - t) := by
  have h := runR_add (c := c) 0 t (N - t)
  rw [show t + (N - t) = N by omega, Int.zero_add] at h
  exact h
 rw [e1, e2, e3]
 exact RotC.app _ _
theorem run_map {c' : Int → Spot} {T : Spot → Spot} (hinj : ∀ i j, T (c i) = T (c j) → c i = c j) {d : Int} (h : ∀ i, c' i = T (c (d + i))) : ∀ m : Nat, runR c' 0 m = (runR c d m).map T
 |0 => rfl
 |m + 1 => by
  show runR c' 0 m ++ chg c' (0 + m) = (runR c d m ++ chg c (d + m)).map T
  rw [List.map_append, run_map hinj h m]
  congr 1
  unfold chg
  rw [h, h, Int.zero_add, show d + ((m : Int) - 1) = d + m - 1 by omega]
  by_cases he : c (d + m) = c (d + m - 1)
  ·rw [he]; simp
  ·rw [if_pos he, if_pos (fun e => he (hinj _ _ e))]; rfl
theorem run_rev {c' : Int → Spot} {T : Spot → Spot} (hinj : ∀ i j, T (c i) = T (c j) → c i = c j) {d : Int} (h : ∀ i, c' i = T (c (d - i))) : ∀ m : Nat, runR c' 0 m = ((endR c (d - m + 1) m).map T).reverse
 |0 => rfl
 |m + 1 => by
  have e : endR c (d - ((m + 1 : Nat) : Int) + 1) (m + 1) = endA c (d - m) ++ endR c (d - m + 1) m := by
   rw [endR_first, show d - ((m + 1 : Nat) : Int) + 1 = d - m by omega]
  show runR c' 0 m ++ chg c' (0 + m) = _
  rw [e, List.map_append, List.reverse_append, run_rev hinj h m]
  congr 1
  unfold chg endA
  rw [h, h, Int.zero_add, show d - ((m : Int) - 1) = d - m + 1 by omega]
  by_cases he : c (d - m) = c (d - m + 1)
  ·rw [he]; simp
  ·rw [if_pos he, if_pos (fun e => he (hinj _ _ e))]; rfl
end
/- the points as they are added one by one -/
def dd (L : List Spot) (k : Nat) : List Spot := (L.take k).foldl addP []
theorem dd_succ {L : List Spot} {k : Nat} (hk : k < L.length) : dd L (k + 1) = addP (dd L k) (gS L k) := by
 unfold dd
 rw [List.take_succ_eq_append_getElem hk, List.foldl_append, gS_eq hk]; rfl
structure DdI (L : List Spot) (k : Nat) (D : List Spot) : Prop where
 e : D = cy L 0 :: runR (cy L) 1 k
 z : gS D (D.length - 1) = cy L k
 n : ∀ j, j + 1 < D.length → gS D j ≠ gS D (j + 1)
theorem dd_is {L : List Spot} : ∀ k, k < L.length → DdI L k (dd L (k + 1))
 |0, h => by
  have e : dd L 1 = [cy L 0] := by
   rw [dd_succ h, show (0 : Int) = ((0 : Nat) : Int) from rfl, cy_nat h]; rfl
  rw [e]
  exact ⟨rfl, rfl, fun j hj => by simp at hj⟩
 |k + 1, h => by
  have ih := dd_is (L := L) k (by omega)
  rw [dd_succ h]
  obtain ⟨D, hD⟩ : ∃ D, D = dd L (k + 1) := ⟨_, rfl⟩
  rw [← hD] at ih ⊢
  have hne : D ≠ [] := by rw [ih.e]; simp
  have hlen : 0 < D.length := List.length_pos_iff.2 hne
  have hc : gS L (k + 1) = cy L ((k : Int) + 1) := by rw [show (k : Int) + 1 = ((k + 1 : Nat) : Int) by omega, cy_nat h]
  have hr : runR (cy L) 1 (k + 1) = runR (cy L) 1 k ++ (if cy L ((k : Int) + 1) ≠ cy L k then [cy L ((k : Int) + 1)] else []) := by
   show runR (cy L) 1 k ++ chg (cy L) (1 + k) = _
   unfold chg
   rw [show (1 : Int) + k = k + 1 by omega, show (k : Int) + 1 - 1 = k by omega]
  unfold addP
  rw [ih.z, hc]
  by_cases he : cy L (k : Int) = cy L ((k : Int) + 1)
  ·rw [if_pos ⟨hne, he⟩]
   refine ⟨?_, ?_, ih.n⟩
   ·rw [hr, if_neg (by simpa using he.symm), List.append_nil]; exact ih.e
   ·rw [ih.z, he]; rfl
  ·rw [if_neg (fun h => he h.2)]
   refine ⟨?_, ?_, fun j hj => ?_⟩
   ·rw [hr, if_pos (fun e => he e.symm), ← List.cons_append, ← ih.e]
   ·rw [List.length_append, List.length_singleton, gS_append, if_neg (by omega), show D.length + 1 - 1 - D.length = 0 by omega]; rfl
   ·rw [List.length_append, List.length_singleton] at hj
    rw [gS_append, gS_append, if_pos (by omega)]
    by_cases hl : j + 1 < D.length
    ·rw [if_pos hl]; exact ih.n j hl
    ·obtain rfl : j = D.length - 1 := by omega
     rw [if_neg hl, ih.z, show D.length - 1 + 1 - D.length = 0 by omega]
     exact he
def ptsL (L : List Spot) : List Spot := dropP 100 (L.foldl addP [])
theorem pts_rot {L : List Spot} (h0 : 0 < L.length) : (runR (cy L) 0 L.length = [] ∧ (ptsL L).length = 1) ∨ RotC (ptsL L) (runR (cy L) 0 L.length) := by
 obtain ⟨n, hn⟩ : ∃ n, L.length = n + 1 := ⟨L.length - 1, by omega⟩
 have hI := dd_is (L := L) n (by omega)
 have hdd : dd L (n + 1) = L.foldl addP [] := by unfold dd; rw [← hn, List.take_length]
 obtain ⟨D, hD⟩ : ∃ D, D = dd L (n + 1) := ⟨_, rfl⟩
 rw [← hD] at hI
 have hP : ptsL L = dropP 100 D := by unfold ptsL; rw [hD, hdd]
 have hlast : cy L (n : Int) = cy L (-1) := by
  rw [← cy_add (l := L) (-1) 1, hn]; congr 1; omega
 have hrun : runR (cy L) 0 L.length = (if cy L 0 ≠ cy L (n : Int) then [cy L 0] else []) ++ runR (cy L) 1 n := by
  rw [hn, runR_first]
  unfold chg
  rw [hlast]; rfl
 have hlen : 0 < D.length := by rw [hI.e]; simp
 have hd0 : gS D 0 = cy L 0 := by rw [hI.e]; rfl
 have hz := hI.z
 rw [hrun]
 by_cases he : cy L 0 = cy L (n : Int)
 rotate_left
 ·have hs : dropP 100 D = D := by
   unfold dropP
   rw [if_neg]
   rintro ⟨_, e⟩
   rw [hz, hd0] at e
   exact he e.symm
  right
  rw [if_pos he, hP, hs, hI.e]
  exact RotC.refl _
 ·rw [if_neg (by simpa using he), List.nil_append]
  by_cases hR : runR (cy L) 1 n = []
  ·left
   refine ⟨hR, ?_⟩
   have e1 : D = [cy L 0] := by rw [hI.e, hR]
   rw [hP, e1]
   unfold dropP
   rw [if_neg (by simp)]; rfl
  ·right
   obtain ⟨K', z, hK⟩ : ∃ K' z, runR (cy L) 1 n = K' ++ [z] := ⟨_, _, (List.dropLast_concat_getLast hR).symm⟩
   have hDe : D = cy L 0 :: (K' ++ [z]) := by rw [hI.e, hK]
   have hl2 : D.length = K'.length + 2 := by rw [hDe]; simp
   have hzz : z = cy L 0 := by
    rw [hl2] at hz
    rw [hDe] at hz
    rw [← List.cons_append, gS_append, if_neg (by simp)] at hz
    have e : gS [z] (K'.length + 2 - 1 - (cy L 0 :: K').length) = z := by
     rw [show K'.length + 2 - 1 - (cy L 0 :: K').length = 0 by simp]; rfl
    rw [e] at hz
    rw [hz, he]
   have hdrop : dropP 100 D = cy L 0 :: K' := by
    unfold dropP
    rw [if_pos ⟨by omega, by rw [hz, hd0, he]⟩]
    have ht : D.take (D.length - 1) = cy L 0 :: K' := by
     rw [hl2, hDe]; simp
    rw [ht]
    unfold dropP
    rw [if_neg]
    rintro ⟨h1, h2⟩
    have hk : 0 < K'.length := by simp at h1; omega
    have hn' := hI.n K'.length (by omega)
    have e1 : gS D (K'.length + 1) = cy L 0 := by
     rw [show K'.length + 1 = D.length - 1 by omega, hz, he]
    have e2 : gS D K'.length = gS (cy L 0 :: K') K'.length := by
     rw [hDe, ← List.cons_append, gS_append, if_pos (by simp)]
    rw [e1, e2] at hn'
    refine hn' ?_
    have e3 : (cy L 0 :: K').length - 1 = K'.length := by simp
    rw [e3] at h2
    exact h2
   rw [hP, hdrop, hK, hzz]
   exact RotC.app [cy L 0] K'
theorem pts_turn {L L' : List Spot} {T : Spot → Spot} (hl : L'.length = L.length) (h0 : 0 < L.length) (hinj : ∀ i j, T (cy L i) = T (cy L j) → cy L i = cy L j) (f : Bool) (d : Int)
  (h : ∀ i, cy L' i = T (cy L (if f = true then d - i else d + i))) : ((ptsL L).length = 1 ∧ (ptsL L').length = 1) ∨ RotC (if f = true then ((ptsL L).map T).reverse else (ptsL L).map T) (ptsL L') := by
 have hp : ∀ i q : Int, cy L (i + q * L.length) = cy L i := fun i q => cy_add i q
 have key : RotC (if f = true then ((runR (cy L) 0 L.length).map T).reverse else (runR (cy L) 0 L.length).map T) (runR (cy L') 0 L'.length) := by
  rw [hl]
  cases f with
  |false =>
   rw [if_neg (by decide)]
   rw [run_map (c := cy L) (c' := cy L') (d := d) hinj (fun i => by rw [h i]; rfl) L.length]
   exact (run_rot h0 hp d).map T
  |true =>
   rw [if_pos rfl]
   rw [run_rev (c := cy L) (c' := cy L') (d := d) hinj (fun i => by rw [h i]; rfl) L.length]
   exact (((run_rot h0 hp _).trans (end_rot (fun i => by have := hp i 1; rwa [Int.one_mul] at this) (d - L.length + 1)).symm).map T).rev
 rcases pts_rot h0 with ⟨h1, h2⟩ | h1
 ·left
  refine ⟨h2, ?_⟩
  rw [h1] at key
  have hk : (runR (cy L') 0 L'.length).length = 0 := by
   have := key.1
   cases f <;> simpa using this
  rcases pts_rot (L := L') (by omega) with ⟨_, h4⟩ | h4
  ·exact h4
  ·exfalso
   have h5 := h4.1
   rw [hk] at h5
   have : 0 < (ptsL L').length := by
    obtain ⟨n, hn⟩ : ∃ n, L'.length = n + 1 := ⟨L'.length - 1, by omega⟩
    have hI := dd_is (L := L') n (by omega)
    have hdd : dd L' (n + 1) = L'.foldl addP [] := by unfold dd; rw [← hn, List.take_length]
    rw [hdd] at hI
    have hpos : 0 < (L'.foldl addP []).length := by rw [hI.e]; simp
    have drop_pos : ∀ (f : Nat) (M : List Spot), 0 < M.length → 0 < (dropP f M).length := by
     intro f
     induction f with
     |zero => intro M h; exact h
     |succ f ih =>
      intro M h
      unfold dropP
      split
      ·rename_i hc; exact ih _ (by rw [List.length_take]; omega)
      ·exact h
    exact drop_pos 100 _ hpos
   omega
 ·rcases pts_rot (L := L') (by omega) with ⟨h3, h4⟩ | h4
  ·exfalso
   rw [h3] at key
   have hk : (runR (cy L) 0 L.length).length = 0 := by
    have := key.1
    cases f <;> simpa using this.symm
   have h5 := h1.1
   rw [hk] at h5
   have : 0 < (ptsL L).length := by
    obtain ⟨n, hn⟩ : ∃ n, L.length = n + 1 := ⟨L.length - 1, by omega⟩
    have hI := dd_is (L := L) n (by omega)
    have hdd : dd L (n + 1) = L.foldl addP [] := by unfold dd; rw [← hn, List.take_length]
    rw [hdd] at hI
    have hpos : 0 < (L.foldl addP []).length := by rw [hI.e]; simp
    have drop_pos : ∀ (f : Nat) (M : List Spot), 0 < M.length → 0 < (dropP f M).length := by
     intro f
     induction f with
     |zero => intro M h; exact h
     |succ f ih =>
      intro M h
      unfold dropP
      split
      ·rename_i hc; exact ih _ (by rw [List.length_take]; omega)
      ·exact h
    exact drop_pos 100 _ hpos
   omega
  ·right
   cases f with
   |false =>
    rw [if_neg (by decide)] at key ⊢
    exact ((h1.map T).trans key).trans h4.symm
   |true =>
    rw [if_pos rfl] at key ⊢
    exact (((h1.map T).rev).trans key).trans h4.symm
def nX (a b c d : Int × Int) : Int := a.1 * ptB a b c d + (b.1 - a.1) * ptA a b c d
def nY (a b c d : Int × Int) : Int := a.2 * ptB a b c d + (b.2 - a.2) * ptA a b c d
theorem frac_eq (a b A B : Int) (hB : B ≠ 0) : (a : Rat) + (b : Rat) * ((A : Rat) / (B : Rat)) = ((a * B + b * A : Int) : Rat) / (B : Rat) := by
 have h : (B : Rat) ≠ 0 := by simpa using hB
 rw [Rat.intCast_add, Rat.intCast_mul, Rat.intCast_mul]
 grind
theorem ptX_eq {a b c d : Int × Int} (hB : ptB a b c d ≠ 0) : ptX a b c d = (nX a b c d : Rat) / (ptB a b c d : Rat) := frac_eq _ _ _ _ hB
theorem ptY_eq {a b c d : Int × Int} (hB : ptB a b c d ≠ 0) : ptY a b c d = (nY a b c d : Rat) / (ptB a b c d : Rat) := frac_eq _ _ _ _ hB
theorem neg_frac (n b : Int) : ((-n : Int) : Rat) / (b : Rat) = -((n : Rat) / (b : Rat)) := by rw [Rat.intCast_neg]; grind
theorem neg_neg_frac (n b : Int) (hb : b ≠ 0) : ((-n : Int) : Rat) / ((-b : Int) : Rat) = (n : Rat) / (b : Rat) := by
 have h : (b : Rat) ≠ 0 := by simpa using hb
 rw [Rat.intCast_neg, Rat.intCast_neg]; grind
theorem frac_neg (n b : Int) (hb : b ≠ 0) : (n : Rat) / ((-b : Int) : Rat) = -((n : Rat) / (b : Rat)) := by
 have h : (b : Rat) ≠ 0 := by simpa using hb
 rw [Rat.intCast_neg]; grind
/- read backwards -/
section
variable (a b c d : Int × Int)
theorem ptB_rev : ptB d c b a = - ptB a b c d := by unfold ptB; grind
theorem nX_rev : nX d c b a = - nX a b c d := by unfold nX ptA ptB; grind
theorem nY_rev : nY d c b a = - nY a b c d := by unfold nY ptA ptB; grind
/- a quarter -/
def qS (s : Int × Int) : Int × Int := (-s.2, s.1)
theorem ptB_q : ptB (qS a) (qS b) (qS c) (qS d) = ptB a b c d := by unfold ptB qS; grind
theorem nX_q : nX (qS a) (qS b) (qS c) (qS d) = - nY a b c d := by unfold nX nY ptA ptB qS; grind
theorem nY_q : nY (qS a) (qS b) (qS c) (qS d) = nX a b c d := by unfold nX nY ptA ptB qS; grind
/- a mirror image -/
def fS (s : Int × Int) : Int × Int := (-s.1, s.2)
theorem ptB_f : ptB (fS a) (fS b) (fS c) (fS d) = - ptB a b c d := by unfold ptB fS; grind
theorem nX_f : nX (fS a) (fS b) (fS c) (fS d) = nX a b c d := by unfold nX ptA ptB fS; grind
theorem nY_f : nY (fS a) (fS b) (fS c) (fS d) = - nY a b c d := by unfold nY ptA ptB fS; grind
end
theorem rndZ_neg (r : Rat) : rndZ (-r) = - rndZ r := by
 unfold rndZ
 rw [Rat.neg_num, Rat.neg_den, Int.natAbs_neg]
 have hd : 0 < r.den := Nat.pos_of_ne_zero r.den_nz
 rcases Int.lt_trichotomy r.num 0 with h | h | h
 ·have e1 : negI (-r.num) = false := decide_eq_false (by omega)
  have e2 : negI r.num = true := decide_eq_true h
  rw [e1, e2]; unfold sgI; simp
 ·rw [h]
  have e : (2 * Int.natAbs 0 + r.den) / (2 * r.den) = 0 := Nat.div_eq_of_lt (by simp; omega)
  rw [e]; unfold sgI; simp
 ·have e1 : negI (-r.num) = true := decide_eq_true (by omega)
  have e2 : negI r.num = false := decide_eq_false (by omega)
  rw [e1, e2]; unfold sgI; simp
/- a corner: the rounded way from the vertex to the common point, if that is near -/
def cdX (v : Spot) (a b : SegW) : Int := rndZ (ptX a.1 a.2.1 b.1 b.2.1 - ((v.1 : Int) : Rat))
def cdY (v : Spot) (a b : SegW) : Int := rndZ (ptY a.1 a.2.1 b.1 b.2.1 - ((v.2 : Int) : Rat))
def cdOk (v : Spot) (a b : SegW) : Prop := ptB a.1 a.2.1 b.1 b.2.1 ≠ 0 ∧ (coordB (cdX v a b) = true ∧ coordB (cdY v a b) = true) ∧ inSB (cdX v a b, cdY v a b) (4 * max a.2.2 b.2.2 + 4) = true
theorem cornC_yes {v : Spot} {a b : SegW} (h : cdOk v a b) : cornC v a b = [addS v (cdX v a b, cdY v a b)] := by
 obtain ⟨h1, h2, h3⟩ := h
 unfold cornC
 rw [if_neg h1]
 unfold cornerL gridE gridV
 unfold cdX cdY at h2 h3
 rw [if_pos h2, if_pos h2, if_pos ⟨rfl, h3⟩]
 rfl
theorem cornC_no {v : Spot} {a b : SegW} (h : ¬ cdOk v a b) : cornC v a b = [a.2.1, b.1] := by
 unfold cornC
 split
 ·rfl
 ·rename_i h1
  unfold cornerL
  rw [if_neg]
  rintro ⟨h2, h3⟩
  refine h ⟨h1, ?_⟩
  unfold cdX cdY
  unfold gridE at h2
  unfold gridV at h3
  split at h2
  ·rename_i hc
   rw [if_pos hc] at h3
   exact ⟨hc, h3⟩
  ·cases h2
theorem coordB_neg (z : Int) : coordB (-z) = coordB z := by unfold coordB; rw [decide_eq_decide]; omega
def revG (s : SegW) : SegW := (s.2.1, s.1, s.2.2)
def mapG (T : Spot → Spot) (s : SegW) : SegW := (T s.1, T s.2.1, s.2.2)
theorem corn_rev (v : Spot) (a b : SegW) : cornC v (revG b) (revG a) = (cornC v a b).reverse := by
 have hB : ptB (revG b).1 (revG b).2.1 (revG a).1 (revG a).2.1 = - ptB a.1 a.2.1 b.1 b.2.1 := ptB_rev _ _ _ _
 have hiff : cdOk v (revG b) (revG a) ↔ cdOk v a b := by
  unfold cdOk
  rw [hB]
  constructor
  ·rintro ⟨h1, h2⟩
   have h1' : ptB a.1 a.2.1 b.1 b.2.1 ≠ 0 := by omega
   have eX : ptX (revG b).1 (revG b).2.1 (revG a).1 (revG a).2.1 = ptX a.1 a.2.1 b.1 b.2.1 := by
    rw [ptX_eq (by rw [hB]; exact h1), ptX_eq h1', hB]
    exact (congrArg (fun z : Int => (z : Rat) / _) (nX_rev a.1 a.2.1 b.1 b.2.1)).trans (neg_neg_frac _ _ h1')
   have eY : ptY (revG b).1 (revG b).2.1 (revG a).1 (revG a).2.1 = ptY a.1 a.2.1 b.1 b.2.1 := by
    rw [ptY_eq (by rw [hB]; exact h1), ptY_eq h1', hB]
    exact (congrArg (fun z : Int => (z : Rat) / _) (nY_rev a.1 a.2.1 b.1 b.2.1)).trans (neg_neg_frac _ _ h1')
   refine ⟨h1', ?_⟩
   unfold cdX cdY at h2 ⊢
   rw [eX, eY] at h2
   rw [show max a.2.2 b.2.2 = max b.2.2 a.2.2 from Int.max_comm _ _]
   exact h2
  ·rintro ⟨h1', h2⟩
   have h1 : - ptB a.1 a.2.1 b.1 b.2.1 ≠ 0 := by omega
   have eX : ptX (revG b).1 (revG b).2.1 (revG a).1 (revG a).2.1 = ptX a.1 a.2.1 b.1 b.2.1 := by
    rw [ptX_eq (by rw [hB]; exact h1), ptX_eq h1', hB]
    exact (congrArg (fun z : Int => (z : Rat) / _) (nX_rev a.1 a.2.1 b.1 b.2.1)).trans (neg_neg_frac _ _ h1')
   have eY : ptY (revG b).1 (revG b).2.1 (revG a).1 (revG a).2.1 = ptY a.1 a.2.1 b.1 b.2.1 := by
    rw [ptY_eq (by rw [hB]; exact h1), ptY_eq h1', hB]
    exact (congrArg (fun z : Int => (z : Rat) / _) (nY_rev a.1 a.2.1 b.1 b.2.1)).trans (neg_neg_frac _ _ h1')
   refine ⟨h1, ?_⟩
   unfold cdX cdY at h2 ⊢
   rw [eX, eY]
   rw [show max (revG b).2.2 (revG a).2.2 = max a.2.2 b.2.2 from Int.max_comm _ _]
   exact h2
 by_cases h : cdOk v a b
 ·have h1' := h.1
  have h' := hiff.2 h
  have h1 := h'.1
  have eX : ptX (revG b).1 (revG b).2.1 (revG a).1 (revG a).2.1 = ptX a.1 a.2.1 b.1 b.2.1 := by
   rw [ptX_eq h1, ptX_eq h1', hB]
   exact (congrArg (fun z : Int => (z : Rat) / _) (nX_rev a.1 a.2.1 b.1 b.2.1)).trans (neg_neg_frac _ _ h1')
  have eY : ptY (revG b).1 (revG b).2.1 (revG a).1 (revG a).2.1 = ptY a.1 a.2.1 b.1 b.2.1 := by
   rw [ptY_eq h1, ptY_eq h1', hB]
   exact (congrArg (fun z : Int => (z : Rat) / _) (nY_rev a.1 a.2.1 b.1 b.2.1)).trans (neg_neg_frac _ _ h1')
  rw [cornC_yes h, cornC_yes h']
  unfold cdX cdY
  rw [eX, eY]; rfl
 ·rw [cornC_no h, cornC_no (fun h' => h (hiff.1 h'))]; rfl
/- what a map does that keeps corners -/
structure CornT (T : Spot → Spot) : Prop where
 c : ∀ s, inR 1049600 s → inR 1049600 (T s)
 k : ∀ v a b, inR 1049600 v → inR 1049600 a.1 → inR 1049600 a.2.1 → inR 1049600 b.1 → inR 1049600 b.2.1 → cornC (T v) (mapG T a) (mapG T b) = (cornC v a b).map T
theorem q_R {s : Spot} (h : inR 4000000 s) : quart s = qS s := quart_R (B := 4000000) (by omega) h
theorem f_R {s : Spot} (h : inR 4000000 s) : flipS true s = fS s := flip_R (B := 4000000) (by omega) h
theorem inR_up {a b : Int} {s : Spot} (h : inR a s) (hab : a ≤ b) : inR b s := by
 obtain ⟨h1, h2, h3, h4⟩ := h; exact ⟨by omega, by omega, by omega, by omega⟩
theorem addS_eq {v d : Spot} (hv : inR 1049600 v) (hd : inR 1048576 d) : addS v d = (v.1 + d.1, v.2 + d.2) := by
 obtain ⟨h1, h2, h3, h4⟩ := hv; obtain ⟨d1, d2, d3, d4⟩ := hd
 unfold addS
 rw [w64 (by omega) (by omega), w64 (by omega) (by omega)]
theorem coord_R {x y : Int} (h : coordB x = true ∧ coordB y = true) : inR 1048576 (x, y) := by
 have h1 := of_decide_eq_true h.1; have h2 := of_decide_eq_true h.2
 exact ⟨by simp only; omega, by simp only; omega, by simp only; omega, by simp only; omega⟩
theorem cornT_quart : CornT quart where
 c := fun s h => (inR_quart (B := 1049600) (by omega) (inR_wf (by omega) h)).2 h
 k := fun v a b hv ha1 ha2 hb1 hb2 => by
  have ea : mapG quart a = (qS a.1, qS a.2.1, a.2.2) := by unfold mapG; rw [q_R (inR_up ha1 (by omega)), q_R (inR_up ha2 (by omega))]
  have eb : mapG quart b = (qS b.1, qS b.2.1, b.2.2) := by unfold mapG; rw [q_R (inR_up hb1 (by omega)), q_R (inR_up hb2 (by omega))]
  rw [ea, eb, q_R (inR_up hv (by omega))]
  have hB := ptB_q a.1 a.2.1 b.1 b.2.1
  have hX : ptB a.1 a.2.1 b.1 b.2.1 ≠ 0 → cdX (qS v) (qS a.1, qS a.2.1, a.2.2) (qS b.1, qS b.2.1, b.2.2) = - cdY v a b := fun h => by
   unfold cdX cdY
   rw [ptX_eq (by rw [hB]; exact h), ptY_eq h, nX_q, hB, neg_frac, ← rndZ_neg]
   congr 1
   show _ - ((-v.2 : Int) : Rat) = _
   rw [Rat.intCast_neg]; grind
  have hY : ptB a.1 a.2.1 b.1 b.2.1 ≠ 0 → cdY (qS v) (qS a.1, qS a.2.1, a.2.2) (qS b.1, qS b.2.1, b.2.2) = cdX v a b := fun h => by
   unfold cdX cdY
   rw [ptY_eq (by rw [hB]; exact h), ptX_eq h, nY_q, hB]; rfl
  have hiff : cdOk (qS v) (qS a.1, qS a.2.1, a.2.2) (qS b.1, qS b.2.1, b.2.2) ↔ cdOk v a b := by
   have key : ptB a.1 a.2.1 b.1 b.2.1 ≠ 0 → ((coordB (cdX (qS v) (qS a.1, qS a.2.1, a.2.2) (qS b.1, qS b.2.1, b.2.2)) = true ∧ coordB (cdY (qS v) (qS a.1, qS a.2.1, a.2.2) (qS b.1, qS b.2.1, b.2.2)) = true) ∧ inSB (cdX (qS v) (qS a.1, qS a.2.1, a.2.2) (qS b.1, qS b.2.1, b.2.2), cdY (qS v) (qS a.1, qS a.2.1, a.2.2) (qS b.1, qS b.2.1, b.2.2)) (4 * max a.2.2 b.2.2 + 4) = true ↔ (coordB (cdX v a b) = true ∧ coordB (cdY v a b) = true) ∧ inSB (cdX v a b, cdY v a b) (4 * max a.2.2 b.2.2 + 4) = true) := fun h => by
    rw [hX h, hY h, coordB_neg]
    unfold inSB
    simp only [decide_eq_true_eq]
    generalize 4 * max a.2.2 b.2.2 + 4 = B
    constructor
    ·rintro ⟨⟨h1, h2⟩, h3⟩; exact ⟨⟨h2, h1⟩, by omega⟩
    ·rintro ⟨⟨h1, h2⟩, h3⟩; exact ⟨⟨h2, h1⟩, by omega⟩
   constructor
   ·rintro ⟨h1, h2⟩
    have h1' : ptB a.1 a.2.1 b.1 b.2.1 ≠ 0 := by rw [← hB]; exact h1
    exact ⟨h1', (key h1').1 h2⟩
   ·rintro ⟨h1, h2⟩
    exact ⟨by show ptB (qS a.1) (qS a.2.1) (qS b.1) (qS b.2.1) ≠ 0; rw [hB]; exact h1, (key h1).2 h2⟩
  by_cases h : cdOk v a b
  ·have hd := coord_R h.2.1
   have hd' := coord_R (hiff.2 h).2.1
   have hqv : inR 1049600 (qS v) := by obtain ⟨h1, h2, h3, h4⟩ := hv; unfold qS; exact ⟨by simp only; omega, by simp only; omega, by simp only; omega, by simp only; omega⟩
   rw [cornC_yes h, cornC_yes (hiff.2 h), hX h.1, hY h.1]
   rw [hX h.1, hY h.1] at hd'
   rw [addS_eq hqv hd', addS_eq hv hd, List.map_cons, List.map_nil]
   have hs : inR 4000000 (v.1 + cdX v a b, v.2 + cdY v a b) := by
    obtain ⟨h1, h2, h3, h4⟩ := hv; obtain ⟨d1, d2, d3, d4⟩ := hd
    simp only at d1 d2 d3 d4
    exact ⟨by simp only; omega, by simp only; omega, by simp only; omega, by simp only; omega⟩
   rw [q_R hs]
   unfold qS
   simp only
   congr 2
   omega
  ·rw [cornC_no h, cornC_no (fun h' => h (hiff.1 h')), List.map_cons, List.map_cons, List.map_nil, q_R (inR_up ha2 (by omega)), q_R (inR_up hb1 (by omega))]
theorem cornT_flip : CornT (flipS true) where
 c := fun s h => (inR_flip (B := 1049600) (by omega) (inR_wf (by omega) h)).2 h
 k := fun v a b hv ha1 ha2 hb1 hb2 => by
  have ea : mapG (flipS true) a = (fS a.1, fS a.2.1, a.2.2) := by unfold mapG; rw [f_R (inR_up ha1 (by omega)), f_R (inR_up ha2 (by omega))]
  have eb : mapG (flipS true) b = (fS b.1, fS b.2.1, b.2.2) := by unfold mapG; rw [f_R (inR_up hb1 (by omega)), f_R (inR_up hb2 (by omega))]
  rw [ea, eb, f_R (inR_up hv (by omega))]
  have hB := ptB_f a.1 a.2.1 b.1 b.2.1
  have hX : ptB a.1 a.2.1 b.1 b.2.1 ≠ 0 → cdX (fS v) (fS a.1, fS a.2.1, a.2.2) (fS b.1, fS b.2.1, b.2.2) = - cdX v a b := fun h => by
   unfold cdX
   rw [ptX_eq (by rw [hB]; omega), ptX_eq h, nX_f, hB, frac_neg _ _ h, ← rndZ_neg]
   congr 1
   show _ - ((-v.1 : Int) : Rat) = _
   rw [Rat.intCast_neg]; grind
  have hY : ptB a.1 a.2.1 b.1 b.2.1 ≠ 0 → cdY (fS v) (fS a.1, fS a.2.1, a.2.2) (fS b.1, fS b.2.1, b.2.2) = cdY v a b := fun h => by
   unfold cdY
   rw [ptY_eq (by rw [hB]; omega), ptY_eq h, nY_f, hB, neg_neg_frac _ _ h]; rfl
  have hiff : cdOk (fS v) (fS a.1, fS a.2.1, a.2.2) (fS b.1, fS b.2.1, b.2.2) ↔ cdOk v a b := by
   have key : ptB a.1 a.2.1 b.1 b.2.1 ≠ 0 → ((coordB (cdX (fS v) (fS a.1, fS a.2.1, a.2.2) (fS b.1, fS b.2.1, b.2.2)) = true ∧ coordB (cdY (fS v) (fS a.1, fS a.2.1, a.2.2) (fS b.1, fS b.2.1, b.2.2)) = true) ∧ inSB (cdX (fS v) (fS a.1, fS a.2.1, a.2.2) (fS b.1, fS b.2.1, b.2.2), cdY (fS v) (fS a.1, fS a.2.1, a.2.2) (fS b.1, fS b.2.1, b.2.2)) (4 * max a.2.2 b.2.2 + 4) = true ↔ (coordB (cdX v a b) = true ∧ coordB (cdY v a b) = true) ∧ inSB (cdX v a b, cdY v a b) (4 * max a.2.2 b.2.2 + 4) = true) := fun h => by
    rw [hX h, hY h, coordB_neg]
    unfold inSB
    simp only [decide_eq_true_eq]
    generalize 4 * max a.2.2 b.2.2 + 4 = B
    constructor
    ·rintro ⟨⟨h1, h2⟩, h3⟩; exact ⟨⟨h1, h2⟩, by omega⟩
    ·rintro ⟨⟨h1, h2⟩, h3⟩; exact ⟨⟨h1, h2⟩, by omega⟩
   constructor
   ·rintro ⟨h1, h2⟩
    have h1' : ptB a.1 a.2.1 b.1 b.2.1 ≠ 0 := by
     intro e
     refine h1 ?_
     show ptB (fS a.1) (fS a.2.1) (fS b.1) (fS b.2.1) = 0
     rw [hB]; omega
    exact ⟨h1', (key h1').1 h2⟩
   ·rintro ⟨h1, h2⟩
    exact ⟨by show ptB (fS a.1) (fS a.2.1) (fS b.1) (fS b.2.1) ≠ 0; rw [hB]; omega, (key h1).2 h2⟩
  by_cases h : cdOk v a b
  ·have hd := coord_R h.2.1
   have hd' := coord_R (hiff.2 h).2.1
   have hqv : inR 1049600 (fS v) := by obtain ⟨h1, h2, h3, h4⟩ := hv; unfold fS; exact ⟨by simp only; omega, by simp only; omega, by simp only; omega, by simp only; omega⟩
   rw [cornC_yes h, cornC_yes (hiff.2 h), hX h.1, hY h.1]
   rw [hX h.1, hY h.1] at hd'
   rw [addS_eq hqv hd', addS_eq hv hd, List.map_cons, List.map_nil]
   have hs : inR 4000000 (v.1 + cdX v a b, v.2 + cdY v a b) := by
    obtain ⟨h1, h2, h3, h4⟩ := hv; obtain ⟨d1, d2, d3, d4⟩ := hd
    simp only at d1 d2 d3 d4
    exact ⟨by simp only; omega, by simp only; omega, by simp only; omega, by simp only; omega⟩
   rw [f_R hs]
   unfold fS
   simp only
   congr 2
   omega
  ·rw [cornC_no h, cornC_no (fun h' => h (hiff.1 h')), List.map_cons, List.map_cons, List.map_nil, f_R (inR_up ha2 (by omega)), f_R (inR_up hb1 (by omega))]
def sumZ (G : Int → Int) : Nat → Int
 |0 => 0
 |n + 1 => sumZ G n + G n
theorem sumZ_congr {G F : Int → Int} (h : ∀ i, G i = F i) : ∀ n, sumZ G n = sumZ F n
 |0 => rfl
 |n + 1 => by simp only [sumZ]; rw [sumZ_congr h n, h]
theorem sumZ_first (G : Int → Int) : ∀ n, sumZ G (n + 1) = G 0 + sumZ (fun i => G (i + 1)) n
 |0 => by simp [sumZ]
 |n + 1 => by
  have h := sumZ_first G n
  simp only [sumZ] at h ⊢
  rw [h]
  have : ((n + 1 : Nat) : Int) = (n : Int) + 1 := by omega
  rw [this]; omega
theorem sumZ_shift1 (G : Int → Int) (n : Nat) (hp : ∀ i, G (i + n) = G i) : sumZ (fun i => G (i + 1)) n = sumZ G n := by
 have h := sumZ_first G n
 simp only [sumZ] at h
 have h0 := hp 0
 rw [Int.zero_add] at h0
 omega
theorem sumZ_shiftN (n : Nat) : ∀ (t : Nat) (G : Int → Int), (∀ i, G (i + n) = G i) → sumZ (fun i => G (i + t)) n = sumZ G n
 |0, G, _ => sumZ_congr (fun i => by simp) n
 |t + 1, G, hp => by
  have h := sumZ_shiftN n t (fun i => G (i + 1)) (fun i => by rw [show i + n + 1 = i + 1 + n from by omega]; exact hp _)
  rw [sumZ_shift1 G n hp] at h
  rw [← h]
  refine sumZ_congr (fun i => ?_) n
  show G (i + ((t + 1 : Nat) : Int)) = G (i + t + 1)
  congr 1; omega
theorem sumZ_shift (n : Nat) (G : Int → Int) (hp : ∀ i, G (i + n) = G i) (t : Int) : sumZ (fun i => G (i + t)) n = sumZ G n := by
 rcases Int.le_total 0 t with h | h
 ·obtain ⟨k, rfl⟩ : ∃ k : Nat, t = k := ⟨t.toNat, by omega⟩
  exact sumZ_shiftN n k G hp
 ·obtain ⟨k, rfl⟩ : ∃ k : Nat, t = -(k : Int) := ⟨(-t).toNat, by omega⟩
  have h2 := sumZ_shiftN n k (fun i => G (i + -(k : Int))) (fun i => by rw [show i + n + -(k : Int) = i + -(k : Int) + n from by omega]; exact hp _)
  rw [← h2]
  exact sumZ_congr (fun i => by congr 1; omega) n
theorem sumZ_rev0 (G : Int → Int) : ∀ (n : Nat) (d : Int), sumZ (fun i => G (d - i)) n = sumZ (fun i => G (d - n + 1 + i)) n
 |0, _ => rfl
 |n + 1, d => by
  rw [sumZ_first (fun i => G (d - ((n + 1 : Nat) : Int) + 1 + i)) n]
  simp only [sumZ]
  rw [sumZ_rev0 G n d]
  have e : ∀ i : Int, G (d - ((n + 1 : Nat) : Int) + 1 + (i + 1)) = G (d - n + 1 + i) := fun i => by congr 1; omega
  rw [sumZ_congr e n, show d - ((n + 1 : Nat) : Int) + 1 + 0 = d - n from by omega]; omega
theorem sumZ_rev (n : Nat) (G : Int → Int) (hp : ∀ i, G (i + n) = G i) (d : Int) : sumZ (fun i => G (d - i)) n = sumZ G n := by
 rw [sumZ_rev0 G n d, ← sumZ_shift n G hp (d - n + 1)]
 exact sumZ_congr (fun i => by congr 1; omega) n
def crossO (a b : Spot) : Int := a.1 * b.2 - a.2 * b.1
theorem mul_bd3 {x y : Int} (h0 : -1048576 ≤ x) (h1 : x ≤ 1048576) (h2 : -1048576 ≤ y) (h3 : y ≤ 1048576) : -1099511627776 ≤ x * y ∧ x * y ≤ 1099511627776 := by
 rcases Int.le_total 0 x with h | h
 ·have a1 := Int.mul_le_mul_of_nonneg_left h3 h
  have a2 := Int.mul_le_mul_of_nonneg_left h2 h
  omega
 ·have a1 := Int.mul_le_mul_of_nonpos_left h h3
  have a2 := Int.mul_le_mul_of_nonpos_left h h2
  omega
theorem crossO_bd {a b : Spot} (ha : inB a) (hb : inB b) : -2199023255552 ≤ crossO a b ∧ crossO a b ≤ 2199023255552 := by
 obtain ⟨a1, a2, a3, a4⟩ := ha; obtain ⟨b1, b2, b3, b4⟩ := hb
 have e1 := mul_bd3 a1 a2 b3 b4
 have e2 := mul_bd3 a3 a4 b1 b2
 unfold crossO; omega
theorem areaTo_eq {l : List Spot} (hB : AllB l) (h40 : l.length ≤ 40) : ∀ k, k ≤ l.length → areaTo l k = sumZ (fun i => crossO (cy l i) (cy l (i + 1))) k ∧ -(k * 2199023255552 : Int) ≤ areaTo l k ∧ areaTo l k ≤ k * 2199023255552
 |0, _ => by simp [areaTo, sumZ]
 |k + 1, h => by
  obtain ⟨ih, b1, b2⟩ := areaTo_eq hB h40 k (by omega)
  have hl : 0 < l.length := by omega
  have ha := hB k (by omega)
  have hb := hB ((k + 1) % l.length) (Nat.mod_lt _ hl)
  have hbd := crossO_bd ha hb
  have e1 : cy l (k : Int) = gS l k := cy_nat (by omega)
  have e2 : cy l ((k : Int) + 1) = gS l ((k + 1) % l.length) := by
   have := cy_modn hl (k + 1)
   rw [← this]; congr 1
  have hx : wrap64 (wrap64 ((gS l k).1 * (gS l ((k + 1) % l.length)).2) - wrap64 ((gS l k).2 * (gS l ((k + 1) % l.length)).1)) = crossO (gS l k) (gS l ((k + 1) % l.length)) := by
   obtain ⟨a1, a2, a3, a4⟩ := ha; obtain ⟨c1, c2, c3, c4⟩ := hb
   have m1 := mul_bd3 a1 a2 c3 c4
   have m2 := mul_bd3 a3 a4 c1 c2
   rw [w64 (x := (gS l k).1 * (gS l ((k + 1) % l.length)).2) (by omega) (by omega), w64 (x := (gS l k).2 * (gS l ((k + 1) % l.length)).1) (by omega) (by omega)]
   exact w64 (by omega) (by omega)
  simp only [areaTo, sumZ]
  rw [hx, e1, e2, ← ih, w64 (by omega) (by omega)]
  refine ⟨rfl, by omega, by omega⟩
theorem apply_zero (f : Bool) (q : Int) : applyT f q (0, 0) = (0, 0) := by
 have hq : quart (0, 0) = (0, 0) := by unfold quart; rw [w64 (by omega) (by omega)]; rfl
 have hs : ∀ n, quarts n (0, 0) = (0, 0) := fun n => by
  induction n with
  |zero => rfl
  |succ n ih => show quart (quarts n (0, 0)) = (0, 0); rw [ih, hq]
 have hf : flipS f (0, 0) = (0, 0) := by
  unfold flipS
  split
  ·rw [w64 (by omega) (by omega)]; rfl
  ·rfl
 unfold applyT; rw [hf, hs]
theorem crossO_turn (f : Bool) (q : Int) {a b : Spot} (ha : inB a) (hb : inB b) : crossO (applyT f q a) (applyT f q b) = sgn f * crossO a b := by
 have h := (pres_apply f q).cr (0, 0) a b ⟨by decide, by decide, by decide, by decide⟩ ha hb
 rw [apply_zero] at h
 unfold crossX at h
 simp only [Int.sub_zero] at h
 exact h
/- rows strung together -/
def runG (g : Int → List Spot) (s : Int) : Nat → List Spot
 |0 => []
 |m + 1 => runG g s m ++ g (s + m)
theorem runG_add (g : Int → List Spot) (s : Int) (m : Nat) : ∀ k : Nat, runG g s (m + k) = runG g s m ++ runG g (s + m) k
 |0 => by simp [runG]
 |k + 1 => by
  rw [← Nat.add_assoc]
  show runG g s (m + k) ++ g (s + ((m + k : Nat) : Int)) = runG g s m ++ (runG g (s + m) k ++ g (s + m + k))
  rw [runG_add g s m k, List.append_assoc, show s + ((m + k : Nat) : Int) = s + m + k by omega]
theorem runG_congr {g g' : Int → List Spot} {s s' : Int} : ∀ m : Nat, (∀ i : Int, g' (s' + i) = g (s + i)) → runG g' s' m = runG g s m
 |0, _ => rfl
 |m + 1, h => by
  show runG g' s' m ++ g' (s' + m) = runG g s m ++ g (s + m)
  rw [runG_congr m h, h]
theorem runG_first (g : Int → List Spot) (s : Int) (m : Nat) : runG g s (m + 1) = g s ++ runG g (s + 1) m := by
 rw [Nat.add_comm, runG_add g s 1 m]
 simp [runG]
theorem runG_rot {g : Int → List Spot} {N : Nat} (hN : 0 < N) (hp : ∀ i q : Int, g (i + q * N) = g i) (d : Int) : RotC (runG g 0 N) (runG g d N) := by
 obtain ⟨t, ht⟩ : ∃ t : Nat, (t : Int) = d % N := ⟨(d % N).toNat, by have := Int.emod_nonneg d (show (N : Int) ≠ 0 by omega); omega⟩
 have hlt : t < N := by have := Int.emod_lt_of_pos d (show (0 : Int) < N by omega); omega
 have hd : d = t + d / N * N := by have := Int.emod_add_mul_ediv d N; rw [Int.mul_comm]; omega
 have e1 : runG g d N = runG g (t : Int) N := runG_congr N fun i => by
  rw [hd, show (t : Int) + d / N * N + i = t + i + d / N * N by omega]
  exact hp _ _
 have e2 : runG g (t : Int) N = runG g (t : Int) (N - t) ++ runG g 0 t := by
  have h := runG_add g (t : Int) (N - t) t
  rw [show N - t + t = N by omega] at h
  rw [h]
  congr 1
  exact runG_congr t fun i => by
   rw [show (t : Int) + ((N - t : Nat) : Int) + i = 0 + i + 1 * N by omega, hp]
 have e3 : runG g 0 N = runG g 0 t ++ runG g (t : Int) (N - t) := by
  have h := runG_add g 0 t (N - t)
  rw [show t + (N - t) = N by omega, Int.zero_add] at h
  exact h
 rw [e1, e2, e3]
 exact RotC.app _ _
theorem runG_map {g g' : Int → List Spot} {T : Spot → Spot} (h : ∀ i, g' i = (g i).map T) (s : Int) : ∀ m : Nat, runG g' s m = (runG g s m).map T
 |0 => rfl
 |m + 1 => by
  show runG g' s m ++ g' (s + m) = (runG g s m ++ g (s + m)).map T
  rw [List.map_append, runG_map h s m, h]
theorem runG_rev {g g' : Int → List Spot} {d : Int} (h : ∀ i, g' i = (g (d - i)).reverse) : ∀ m : Nat, runG g' 0 m = (runG g (d - m + 1) m).reverse
 |0 => rfl
 |m + 1 => by
  show runG g' 0 m ++ g' (0 + m) = (runG g (d - ((m + 1 : Nat) : Int) + 1) (m + 1)).reverse
  rw [runG_first, show d - ((m + 1 : Nat) : Int) + 1 = d - m by omega, List.reverse_append, runG_rev h m, h, Int.zero_add]
theorem runG_mem {g : Int → List Spot} {s : Int} {x : Spot} : ∀ m : Nat, x ∈ runG g s m → ∃ i, x ∈ g i
 |0, h => by simp [runG] at h
 |m + 1, h => by
  rcases List.mem_append.1 h with h | h
  ·exact runG_mem m h
  ·exact ⟨_, h⟩
/- widths as a closed row -/
def cyI (l : List Int) (i : Int) : Int := gI l (i % l.length).toNat
theorem cyI_nat {l : List Int} {k : Nat} (h : k < l.length) : cyI l k = gI l k := by
 unfold cyI; rw [Int.emod_eq_of_lt (by omega) (by omega)]; rfl
theorem cyI_mod {l : List Int} {i j : Int} (h : i % l.length = j % l.length) : cyI l i = cyI l j := by unfold cyI; rw [h]
theorem cyI_add {l : List Int} (i : Int) (t : Int) : cyI l (i + t * l.length) = cyI l i := cyI_mod (by simp)
theorem gI_append (a b : List Int) (k : Nat) : gI (a ++ b) k = if k < a.length then gI a k else gI b (k - a.length) := by
 unfold gI
 simp only [List.getD_eq_getElem?_getD]
 split
 ·rename_i h; rw [List.getElem?_append_left h]
 ·rename_i h; rw [List.getElem?_append_right (by omega)]
theorem segWd_offE (es : List Edge) (ws : List Int) : ∀ k, (segWd es ws k).length = offE es k
 |0 => rfl
 |k + 1 => by simp [segWd, offE, segWd_offE es ws k]
theorem segWd_get {es : List Edge} {ws : List Int} {j k : Nat} (hk : k < (gE es j).2.length - 1) : ∀ n, j < n → gI (segWd es ws n) (offE es j + k) = gI ws j
 |0, h => absurd h (Nat.not_lt_zero _)
 |n + 1, h => by
  unfold segWd
  rw [gI_append, segWd_offE]
  rcases Nat.lt_or_ge j n with hj | hj
  ·have h1 := offE_mono es (show j + 1 ≤ n from hj)
   simp only [offE] at h1
   rw [if_pos (by omega)]
   exact segWd_get hk n hj
  ·obtain rfl : j = n := by omega
   rw [if_neg (by omega), Nat.add_sub_cancel_left, gI_eq (by rw [List.length_replicate]; exact hk)]
   simp
theorem turnW_get {n j : Nat} {ws : List Int} (hl : ws.length = n) (hj : j < n) : gI (turnW true n ws) j = gI ws (turnI true n j) := by
 unfold turnW
 rw [if_pos rfl]
 unfold mirW
 rw [if_pos hl, mixI_get (by omega), if_pos hj]; rfl
theorem segWd_false (q : Int) (es : List Edge) (ws : List Int) : ∀ k, k ≤ es.length → segWd (turnE false q es) ws k = segWd es ws k
 |0, _ => rfl
 |k + 1, h => by
  unfold segWd
  rw [segWd_false q es ws k (by omega), turnE_m (by omega)]; rfl
theorem segWd_true {es : List Edge} (h : Joined es) (q : Int) {ws : List Int} (hl : ws.length = es.length) : ∀ i : Int, cyI (segWd (turnE true q es) (turnW true es.length ws) es.length) i = cyI (segWd es ws es.length) (((gE es 0).2.length - 1 : Nat) - 1 - i) := by
 have hN : (segWd (turnE true q es) (turnW true es.length ws) es.length).length = (segWd es ws es.length).length := by
  rw [segWd_offE, segWd_offE, ← verts_len']
  have := verts_turn_len true q h.n0
  rw [verts_len', turnE_len] at this
  exact this
 have hv : (segWd es ws es.length).length = (verts es).length := by rw [segWd_offE, verts_len']
 have hp := h.pos
 have key : ∀ x : Nat, x < (segWd es ws es.length).length → cyI (segWd (turnE true q es) (turnW true es.length ws) es.length) x = cyI (segWd es ws es.length) (((gE es 0).2.length - 1 : Nat) - 1 - (x : Int)) := fun x hx => by
  have hx' : x < offE (turnE true q es) es.length := by rw [← segWd_offE (turnE true q es) (turnW true es.length ws), hN]; exact hx
  obtain ⟨i, k, hi, hk, rfl⟩ := off_find _ _ _ hx'
  rw [cyI_nat (by rw [hN]; exact hx), segWd_get hk _ hi, turnW_get hl hi]
  rw [turnE_m hi] at hk
  have hlt := turnI_lt (f := true) hi
  rw [← segWd_get (es := es) (ws := ws) (j := turnI true es.length i) (k := (gE es (turnI true es.length i)).2.length - 1 - 1 - k) (by omega) es.length hlt]
  have hin : offE es (turnI true es.length i) + ((gE es (turnI true es.length i)).2.length - 1 - 1 - k) < (segWd es ws es.length).length := by
   rw [segWd_offE]
   have h1 := offE_mono es (show turnI true es.length i + 1 ≤ es.length from hlt)
   simp only [offE] at h1
   omega
  rw [← cyI_nat hin]
  rcases Nat.eq_zero_or_pos i with h0 | h0
  ·subst h0
   have e : turnI true es.length 0 = 0 := by simp [turnI]
   rw [e] at hk ⊢
   congr 1
   simp only [offE]
   omega
  ·have e : turnI true es.length i = es.length - i := by unfold turnI; rw [if_pos rfl, Nat.mod_eq_of_lt (by omega)]
   rw [e] at hk ⊢
   have ho := off_turn (q := q) h.n0 i (by omega) (by omega)
   have e2 : offE es (es.length - i + 1) = offE es (es.length - i) + ((gE es (es.length - i)).2.length - 1) := rfl
   have e3 := segWd_offE es ws es.length
   have : ((offE es (es.length - i) + ((gE es (es.length - i)).2.length - 1 - 1 - k) : Nat) : Int) = (((gE es 0).2.length - 1 : Nat) : Int) - 1 - ((offE (turnE true q es) i + k : Nat) : Int) + 1 * ((segWd es ws es.length).length : Int) := by omega
   rw [this, cyI_add]
 intro i
 obtain ⟨k, hk⟩ : ∃ k : Nat, (k : Int) = i % ((segWd es ws es.length).length : Int) := ⟨(i % ((segWd es ws es.length).length : Int)).toNat, by have := Int.emod_nonneg i (show ((segWd es ws es.length).length : Int) ≠ 0 by omega); omega⟩
 have hlt : k < (segWd es ws es.length).length := by have := Int.emod_lt_of_pos i (show (0 : Int) < ((segWd es ws es.length).length : Int) by omega); omega
 have e1 : cyI (segWd (turnE true q es) (turnW true es.length ws) es.length) i = cyI (segWd (turnE true q es) (turnW true es.length ws) es.length) k := cyI_mod (by rw [hN, ← hk, Int.emod_eq_of_lt (by omega) (by omega), hk])
 rw [e1, key k hlt]
 refine cyI_mod ?_
 rw [neg_mod_iff, hk, Int.emod_emod]
/- what a turn does to moves -/
structure TurnK (T : Spot → Spot) (f : Bool) : Prop where
 r : ∀ B s, 0 ≤ B → B ≤ 4000000 → inR B s → inR B (T s)
 inj : ∀ s t, inR 4000000 s → inR 4000000 t → T s = T t → s = t
 add : ∀ v s, inR 1048576 v → inR 1000 s → addS (T v) (T s) = T (addS v s)
 sq : ∀ p q, inR 1048576 p → inR 1048576 q → sqN (T p) (T q) = sqN p q
 sh : ∀ sg p q w, (sg = -1 ∨ sg = 0 ∨ sg = 1) → 0 ≤ w → w ≤ 500 → inR 1048576 p → inR 1048576 q → 1 ≤ sqN p q → (if f = true then shiftV sg (T q) (T p) w else shiftV sg (T p) (T q) w) = T (shiftV sg p q w)
 cn : CornT T
theorem rootN_pos {n : Nat} (h : 1 ≤ n) (hn : n < 18446744073709551616) : 1 ≤ rootN n := by
 have h1 := (rootN_is n hn).2
 rcases Nat.eq_zero_or_pos (rootN n) with h2 | h2
 ·rw [h2] at h1; omega
 ·exact h2
/- a move is short -/
theorem sq_root {d : Int} {n : Nat} (h : d * d ≤ (n : Int)) (hn : n < 18446744073709551616) : -(rootN n : Int) ≤ d ∧ d ≤ (rootN n : Int) := by
 have h1 := (rootN_is n hn).2
 have h2 : ((n : Nat) : Int) < ((rootN n : Int) + 1) * ((rootN n : Int) + 1) := by
  have : ((n : Nat) : Int) < (((rootN n + 1) * (rootN n + 1) : Nat) : Int) := by exact_mod_cast h1
  simpa using this
 generalize hr : (rootN n : Int) = r at h2
 have hr0 : 0 ≤ r := by omega
 refine ⟨?_, ?_⟩
 ·rcases Int.lt_or_le d (-r) with h3 | h3
  ·have h4 : (r + 1) * (r + 1) ≤ (-d) * (-d) := Int.mul_le_mul (by omega) (by omega) (by omega) (by omega)
   rw [Int.neg_mul_neg] at h4; omega
  ·exact h3
 ·rcases Int.lt_or_le r d with h3 | h3
  ·have h4 : (r + 1) * (r + 1) ≤ d * d := Int.mul_le_mul (by omega) (by omega) (by omega) (by omega)
   omega
  ·exact h3
theorem shift_in {sg : Int} {p q : Spot} {w : Int} (hsg : sg = -1 ∨ sg = 0 ∨ sg = 1) (hp : inB p) (hq : inB q) (h1 : 1 ≤ sqN p q) (h0 : 0 ≤ w) (hw : w ≤ 500) : inR 500 (shiftV sg p q w) := by
 have hle := sqN_le hp hq
 have hr := rootN_pos h1 (by omega)
 have hi := sq_int hp hq
 have s1 : 0 ≤ (q.1 - p.1) * (q.1 - p.1) := (sq_bound (d := q.1 - p.1) (by have := hp.1; have := hp.2; have := hq.1; have := hq.2; omega) (by have := hp.1; have := hp.2; have := hq.1; have := hq.2; omega)).1
 have s2 : 0 ≤ (q.2 - p.2) * (q.2 - p.2) := (sq_bound (d := q.2 - p.2) (by have := hp.2.2; have := hq.2.2; omega) (by have := hp.2.2; have := hq.2.2; omega)).1
 have d1 := sq_root (d := q.1 - p.1) (n := sqN p q) (by omega) (by omega)
 have d2 := sq_root (d := q.2 - p.2) (n := sqN p q) (by omega) (by omega)
 obtain ⟨r, hrr⟩ : ∃ r : Int, r = (rootN (sqN p q) : Int) := ⟨_, rfl⟩
 rw [← hrr] at d1 d2
 have hr1 : 1 ≤ r := by omega
 have key : ∀ x d : Int, -500 ≤ x → x ≤ 500 → -r ≤ d → d ≤ r → -500 * r ≤ x * d ∧ x * d ≤ 500 * r := fun x d x0 x1 e0 e1 => by
  rcases Int.le_total 0 x with hx | hx
  ·have t1 : x * d ≤ x * r := Int.mul_le_mul_of_nonneg_left e1 hx
   have t2 : x * (-r) ≤ x * d := Int.mul_le_mul_of_nonneg_left e0 hx
   have t3 : x * r ≤ 500 * r := Int.mul_le_mul_of_nonneg_right x1 (by omega)
   rw [Int.mul_neg] at t2
   omega
  ·have t1 : (-x) * d ≤ (-x) * r := Int.mul_le_mul_of_nonneg_left e1 (by omega)
   have t2 : (-x) * (-r) ≤ (-x) * d := Int.mul_le_mul_of_nonneg_left e0 (by omega)
   have t3 : (-x) * r ≤ 500 * r := Int.mul_le_mul_of_nonneg_right (by omega) (by omega)
   rw [Int.mul_neg] at t2
   simp only [Int.neg_mul] at t1 t2 t3
   omega
 have hx : -500 ≤ sg * w ∧ sg * w ≤ 500 := by
  rcases hsg with rfl | rfl | rfl
  ·rw [Int.neg_one_mul]; omega
  ·simp
  ·rw [Int.one_mul]; omega
 have b1 := rnd_bd (sg * w * (q.2 - p.2)) r 500 hr1 (key _ _ hx.1 hx.2 d2.1 d2.2).1 (key _ _ hx.1 hx.2 d2.1 d2.2).2
 have b2 := rnd_bd (-(sg * w) * (q.1 - p.1)) r 500 hr1 (key _ _ (by omega) (by omega) d1.1 d1.2).1 (key _ _ (by omega) (by omega) d1.1 d1.2).2
 unfold shiftV
 rw [← hrr]
 exact ⟨b1.1, b1.2, b2.1, b2.2⟩
theorem turnK_id : TurnK (fun s => s) false where
 r := fun _ _ _ _ h => h
 inj := fun _ _ _ _ h => h
 add := fun _ _ _ _ => rfl
 sq := fun _ _ _ _ => rfl
 sh := fun _ _ _ _ _ _ _ _ _ _ => rfl
 cn := ⟨fun _ h => h, fun v a b _ _ _ _ _ => by rw [List.map_id']; rfl⟩
theorem q_s {B : Int} (_ : 0 ≤ B) (hB : B ≤ 4000000) {s : Spot} (h : inR B s) : quart s = qS s := q_R (inR_up h hB)
theorem f_s {B : Int} (_ : 0 ≤ B) (hB : B ≤ 4000000) {s : Spot} (h : inR B s) : flipS true s = fS s := f_R (inR_up h hB)
theorem addS_in {v s : Spot} (hv : inR 1048576 v) (hs : inR 1000 s) : addS v s = (v.1 + s.1, v.2 + s.2) ∧ inR 1049576 (addS v s) := by
 obtain ⟨h1, h2, h3, h4⟩ := hv; obtain ⟨d1, d2, d3, d4⟩ := hs
 have e : addS v s = (v.1 + s.1, v.2 + s.2) := by
  unfold addS
  rw [w64 (by omega) (by omega), w64 (by omega) (by omega)]
 rw [e]
 exact ⟨rfl, by simp only; omega, by simp only; omega, by simp only; omega, by simp only; omega⟩
theorem turnK_quart : TurnK quart false where
 r := fun B s h0 hB h => (inR_quart (B := B) (by omega) (inR_wf (by omega) h)).2 h
 inj := fun s t hs ht h => by
  rw [q_s (by omega) (by omega) hs, q_s (by omega) (by omega) ht] at h
  unfold qS at h
  injection h with h1 h2
  exact Prod.ext h2 (by omega)
 add := fun v s hv hs => by
  obtain ⟨e, hr⟩ := addS_in hv hs
  rw [q_s (B := 1049576) (by omega) (by omega) hr, e, q_s (by omega) (by omega) hv, q_s (B := 1000) (by omega) (by omega) hs]
  have hv' : inR 1048576 (qS v) := by obtain ⟨h1, h2, h3, h4⟩ := hv; unfold qS; exact ⟨by simp only; omega, by simp only; omega, by simp only; omega, by simp only; omega⟩
  have hs' : inR 1000 (qS s) := by obtain ⟨h1, h2, h3, h4⟩ := hs; unfold qS; exact ⟨by simp only; omega, by simp only; omega, by simp only; omega, by simp only; omega⟩
  rw [(addS_in hv' hs').1]
  unfold qS
  simp only
  congr 1; omega
 sq := fun p q hp hq => by
  rw [q_s (B := 1048576) (by omega) (by omega) hp, q_s (B := 1048576) (by omega) (by omega) hq]
  unfold sqN qS
  simp only
  congr 1
  grind
 sh := fun sg p q w hsg h0 hw hp hq h1 => by
  have hsq : sqN (quart p) (quart q) = sqN p q := by
   rw [q_s (B := 1048576) (by omega) (by omega) hp, q_s (B := 1048576) (by omega) (by omega) hq]
   unfold sqN qS
   simp only
   congr 1
   grind
  have hr := rootN_pos h1 (by have := sqN_le hp hq; omega)
  have hin := shift_in hsg hp hq h1 h0 hw
  rw [if_neg (by decide), q_s (B := 500) (by omega) (by omega) hin]
  unfold shiftV
  rw [hsq]
  generalize hR : (rootN (sqN p q) : Int) = R
  have hR1 : 1 ≤ R := by omega
  rw [q_s (B := 1048576) (by omega) (by omega) hp, q_s (B := 1048576) (by omega) (by omega) hq]
  unfold qS
  simp only
  have e1 : -(sg * w) * (q.1 - p.1) = -(sg * w * (q.1 - p.1)) := by grind
  have e2 : -(sg * w) * (-q.2 - -p.2) = sg * w * (q.2 - p.2) := by grind
  rw [e1, e2, rnd_neg _ _ hR1, Int.neg_neg]
 cn := cornT_quart
theorem turnK_flip : TurnK (flipS true) true where
 r := fun B s h0 hB h => (inR_flip (B := B) (by omega) (inR_wf (by omega) h)).2 h
 inj := fun s t hs ht h => by
  rw [f_s (by omega) (by omega) hs, f_s (by omega) (by omega) ht] at h
  unfold fS at h
  injection h with h1 h2
  exact Prod.ext (by omega) h2
 add := fun v s hv hs => by
  obtain ⟨e, hr⟩ := addS_in hv hs
  rw [f_s (B := 1049576) (by omega) (by omega) hr, e, f_s (by omega) (by omega) hv, f_s (B := 1000) (by omega) (by omega) hs]
  have hv' : inR 1048576 (fS v) := by obtain ⟨h1, h2, h3, h4⟩ := hv; unfold fS; exact ⟨by simp only; omega, by simp only; omega, by simp only; omega, by simp only; omega⟩
  have hs' : inR 1000 (fS s) := by obtain ⟨h1, h2, h3, h4⟩ := hs; unfold fS; exact ⟨by simp only; omega, by simp only; omega, by simp only; omega, by simp only; omega⟩
  rw [(addS_in hv' hs').1]
  unfold fS
  simp only
  congr 1; omega
 sq := fun p q hp hq => by
  rw [f_s (B := 1048576) (by omega) (by omega) hp, f_s (B := 1048576) (by omega) (by omega) hq]
  unfold sqN fS
  simp only
  congr 1
  grind
 sh := fun sg p q w hsg h0 hw hp hq h1 => by
  have hsq : sqN (flipS true q) (flipS true p) = sqN p q := by
   rw [f_s (B := 1048576) (by omega) (by omega) hp, f_s (B := 1048576) (by omega) (by omega) hq]
   unfold sqN fS
   simp only
   congr 1
   grind
  have hr := rootN_pos h1 (by have := sqN_le hp hq; omega)
  have hin := shift_in hsg hp hq h1 h0 hw
  rw [if_pos rfl, f_s (B := 500) (by omega) (by omega) hin]
  unfold shiftV
  rw [hsq]
  generalize hR : (rootN (sqN p q) : Int) = R
  have hR1 : 1 ≤ R := by omega
  rw [f_s (B := 1048576) (by omega) (by omega) hp, f_s (B := 1048576) (by omega) (by omega) hq]
  unfold fS
  simp only
  have e1 : sg * w * (p.2 - q.2) = -(sg * w * (q.2 - p.2)) := by grind
  have e2 : -(sg * w) * (-p.1 - -q.1) = -(sg * w) * (q.1 - p.1) := by grind
  rw [e1, e2, rnd_neg _ _ hR1]
 cn := cornT_flip
theorem TurnK.quart {T : Spot → Spot} {f : Bool} (h : TurnK T f) : TurnK (fun s => quart (T s)) f where
 r := fun B s h0 hB hs => turnK_quart.r B _ h0 hB (h.r B s h0 hB hs)
 inj := fun s t hs ht e => h.inj s t hs ht (turnK_quart.inj _ _ (h.r _ _ (by omega) (by omega) hs) (h.r _ _ (by omega) (by omega) ht) e)
 add := fun v s hv hs => by
  rw [turnK_quart.add _ _ (h.r _ _ (by omega) (by omega) hv) (h.r _ _ (by omega) (by omega) hs), h.add v s hv hs]
 sq := fun p q hp hq => by
  rw [turnK_quart.sq _ _ (h.r _ _ (by omega) (by omega) hp) (h.r _ _ (by omega) (by omega) hq), h.sq p q hp hq]
 sh := fun sg p q w hsg h0 hw hp hq h1 => by
  have hp' := h.r _ _ (by omega) (by omega) hp
  have hq' := h.r _ _ (by omega) (by omega) hq
  have e := h.sh sg p q w hsg h0 hw hp hq h1
  cases f with
  |false =>
   rw [if_neg (by decide)] at e ⊢
   have k := turnK_quart.sh sg (T p) (T q) w hsg h0 hw hp' hq' (by rw [h.sq p q hp hq]; exact h1)
   rw [if_neg (by decide)] at k
   rw [k, e]
  |true =>
   rw [if_pos rfl] at e ⊢
   have k := turnK_quart.sh sg (T q) (T p) w hsg h0 hw hq' hp' (by rw [h.sq q p hq hp, sqN_comm]; exact h1)
   rw [if_neg (by decide)] at k
   rw [k, e]
 cn := ⟨fun s hs => cornT_quart.c _ (h.cn.c s hs), fun v a b hv ha ha' hb hb' => by
  have k := cornT_quart.k (T v) (mapG T a) (mapG T b) (h.cn.c _ hv) (h.cn.c _ ha) (h.cn.c _ ha') (h.cn.c _ hb) (h.cn.c _ hb')
  rw [h.cn.k v a b hv ha ha' hb hb', List.map_map] at k
  exact k⟩
theorem turnK_quarts {T : Spot → Spot} {f : Bool} (h : TurnK T f) : ∀ n, TurnK (fun s => quarts n (T s)) f
 |0 => h
 |n + 1 => (turnK_quarts h n).quart
theorem turnK_apply (f : Bool) (q : Int) : TurnK (applyT f q) f := by
 cases f
 ·exact turnK_quarts turnK_id _
 ·exact turnK_quarts turnK_flip _
/- the segments and corners of an outline as closed rows -/
def shCy (sg : Int) (V : List Spot) (W : List Int) (i : Int) : Spot := shiftV sg (cy V i) (cy V (i + 1)) (cyI W i)
def sgC (sg : Int) (V : List Spot) (W : List Int) (i : Int) : SegW := (addS (cy V i) (shCy sg V W i), addS (cy V (i + 1)) (shCy sg V W i), cyI W i)
def coC (sg : Int) (V : List Spot) (W : List Int) (i : Int) : List Spot := cornC (cy V i) (sgC sg V W (i - 1)) (sgC sg V W i)
/- what the vertices and widths must be -/
structure OutV (sg : Int) (V : List Spot) (W : List Int) : Prop where
 sg : sg = -1 ∨ sg = 0 ∨ sg = 1
 n : W.length = V.length
 n0 : 0 < V.length
 b : ∀ i, inR 1048576 (cy V i)
 d : ∀ i, 1 ≤ sqN (cy V i) (cy V (i + 1))
 w : ∀ i, 0 ≤ cyI W i ∧ cyI W i ≤ 500
section
variable {sg : Int} {V V' : List Spot} {W W' : List Int}
theorem OutV.sh (h : OutV sg V W) (i : Int) : inR 500 (shCy sg V W i) := shift_in h.sg (h.b i) (h.b (i + 1)) (h.d i) (h.w i).1 (h.w i).2
theorem OutV.s1 (h : OutV sg V W) (i : Int) : inR 1049576 (sgC sg V W i).1 := (addS_in (h.b i) (inR_up (h.sh i) (by omega))).2
theorem OutV.s2 (h : OutV sg V W) (i : Int) : inR 1049576 (sgC sg V W i).2.1 := (addS_in (h.b (i + 1)) (inR_up (h.sh i) (by omega))).2
theorem seg_turnC {f : Bool} {q : Int} (h : OutV sg V W) {m : Int} (hV : ∀ i, cy V' i = applyT f q (cy V (if f = true then m - i else i))) (hW : ∀ i, cyI W' i = cyI W (if f = true then m - 1 - i else i)) (i : Int) :
  sgC sg V' W' i = mapG (applyT f q) (if f = true then revG (sgC sg V W (m - 1 - i)) else sgC sg V W i) := by
 have K := turnK_apply f q
 cases f with
 |false =>
  simp only [Bool.false_eq_true, if_false] at hV hW ⊢
  have e : shCy sg V' W' i = applyT false q (shCy sg V W i) := by
   unfold shCy
   rw [hV, hV, hW]
   have := K.sh sg (cy V i) (cy V (i + 1)) (cyI W i) h.sg (h.w i).1 (h.w i).2 (h.b i) (h.b (i + 1)) (h.d i)
   rwa [if_neg (by decide)] at this
  unfold sgC
  rw [e, hV, hV, hW, K.add _ _ (h.b _) (inR_up (h.sh i) (by omega)), K.add _ _ (h.b _) (inR_up (h.sh i) (by omega))]
  rfl
 |true =>
  simp only [if_true] at hV hW ⊢
  have ei : m - (i + 1) = m - 1 - i := by omega
  have ej : m - i = m - 1 - i + 1 := by omega
  have e : shCy sg V' W' i = applyT true q (shCy sg V W (m - 1 - i)) := by
   unfold shCy
   rw [hV, hV, hW, ei, ej]
   have := K.sh sg (cy V (m - 1 - i)) (cy V (m - 1 - i + 1)) (cyI W (m - 1 - i)) h.sg (h.w _).1 (h.w _).2 (h.b _) (h.b _) (h.d _)
   rwa [if_pos rfl] at this
  unfold sgC
  rw [e, hV, hV, hW, ei, ej, K.add _ _ (h.b _) (inR_up (h.sh _) (by omega)), K.add _ _ (h.b _) (inR_up (h.sh _) (by omega))]
  rfl
theorem co_turnC {f : Bool} {q : Int} (h : OutV sg V W) {m : Int} (hV : ∀ i, cy V' i = applyT f q (cy V (if f = true then m - i else i))) (hW : ∀ i, cyI W' i = cyI W (if f = true then m - 1 - i else i)) (i : Int) :
  coC sg V' W' i = if f = true then ((coC sg V W (m - i)).map (applyT f q)).reverse else (coC sg V W i).map (applyT f q) := by
 have K := turnK_apply f q
 have e1 := seg_turnC (f := f) (q := q) h hV hW i
 have e2 := seg_turnC (f := f) (q := q) h hV hW (i - 1)
 unfold coC
 rw [e1, e2, hV]
 cases f with
 |false =>
  simp only [Bool.false_eq_true, if_false]
  exact K.cn.k _ _ _ (inR_up (h.b _) (by omega)) (inR_up (h.s1 _) (by omega)) (inR_up (h.s2 _) (by omega)) (inR_up (h.s1 _) (by omega)) (inR_up (h.s2 _) (by omega))
 |true =>
  simp only [if_true]
  rw [show m - 1 - (i - 1) = m - i by omega, show m - 1 - i = m - i - 1 by omega]
  rw [K.cn.k _ (revG (sgC sg V W (m - i))) (revG (sgC sg V W (m - i - 1))) (inR_up (h.b _) (by omega)) (inR_up (h.s2 _) (by omega)) (inR_up (h.s1 _) (by omega)) (inR_up (h.s2 _) (by omega)) (inR_up (h.s1 _) (by omega))]
  rw [corn_rev, List.map_reverse]
theorem coC_per (h : OutV sg V W) (i q : Int) : coC sg V W (i + q * V.length) = coC sg V W i := by
 have c1 : ∀ j : Int, cy V (j + q * V.length) = cy V j := fun j => cy_add j q
 have c2 : ∀ j : Int, cyI W (j + q * V.length) = cyI W j := fun j => by rw [← h.n]; exact cyI_add j q
 have cs : ∀ j : Int, shCy sg V W (j + q * V.length) = shCy sg V W j := fun j => by
  unfold shCy
  rw [show j + q * V.length + 1 = j + 1 + q * V.length by omega, c1, c1, c2]
 have cg : ∀ j : Int, sgC sg V W (j + q * V.length) = sgC sg V W j := fun j => by
  unfold sgC
  rw [show j + q * V.length + 1 = j + 1 + q * V.length by omega, c1, c1, c2, cs]
 unfold coC
 rw [show i + q * V.length - 1 = i - 1 + q * V.length by omega, c1, cg, cg]
theorem coC_len (i : Int) : 0 < (coC sg V W i).length := by
 unfold coC
 by_cases h : cdOk (cy V i) (sgC sg V W (i - 1)) (sgC sg V W i)
 ·rw [cornC_yes h]; simp
 ·rw [cornC_no h]; simp
theorem coC_R (h : OutV sg V W) (i : Int) : ∀ s, s ∈ coC sg V W i → inR 4000000 s := fun s hs => by
 unfold coC at hs
 by_cases hk : cdOk (cy V i) (sgC sg V W (i - 1)) (sgC sg V W i)
 ·rw [cornC_yes hk] at hs
  have hd := coord_R hk.2.1
  have hv := h.b i
  rw [addS_eq (inR_up hv (by omega)) hd, List.mem_singleton] at hs
  rw [hs]
  obtain ⟨h1, h2, h3, h4⟩ := hv; obtain ⟨d1, d2, d3, d4⟩ := hd
  simp only at d1 d2 d3 d4
  exact ⟨by simp only; omega, by simp only; omega, by simp only; omega, by simp only; omega⟩
 ·rw [cornC_no hk] at hs
  simp only [List.mem_cons, List.not_mem_nil, or_false] at hs
  rcases hs with rfl | rfl
  ·exact inR_up (h.s2 _) (by omega)
  ·exact inR_up (h.s1 _) (by omega)
/- all points of an outline with its allowances -/
def allC (sg : Int) (V : List Spot) (W : List Int) : List Spot := runG (coC sg V W) 0 V.length
theorem allC_pos (h : OutV sg V W) : 0 < (allC sg V W).length := by
 have hn := h.n0
 obtain ⟨n, hn⟩ : ∃ n, V.length = n + 1 := ⟨V.length - 1, by omega⟩
 unfold allC
 rw [hn, runG_first, List.length_append]
 have := coC_len (sg := sg) (V := V) (W := W) 0
 omega
theorem cy_R {l : List Spot} (h : ∀ s, s ∈ l → inR 4000000 s) (i : Int) : inR 4000000 (cy l i) := by
 rcases Nat.eq_zero_or_pos l.length with h0 | h0
 ·rw [List.eq_nil_of_length_eq_zero h0, cy_nil]
  exact ⟨by decide, by decide, by decide, by decide⟩
 ·obtain ⟨k, hk, _, e⟩ := cy_of h0 i
  rw [e, gS_eq hk]
  exact h _ (List.getElem_mem hk)
theorem all_turn {f : Bool} {q : Int} (h : OutV sg V W) {m : Int} (hl : V'.length = V.length) (hV : ∀ i, cy V' i = applyT f q (cy V (if f = true then m - i else i))) (hW : ∀ i, cyI W' i = cyI W (if f = true then m - 1 - i else i)) :
  (allC sg V' W').length = (allC sg V W).length ∧ ∃ d : Int, ∀ i, cy (allC sg V' W') i = applyT f q (cy (allC sg V W) (if f = true then d - i else d + i)) := by
 have hC := co_turnC (f := f) (q := q) h hV hW
 have hpos := allC_pos h
 cases f with
 |false =>
  simp only [Bool.false_eq_true, if_false] at hC ⊢
  have e : allC sg V' W' = (allC sg V W).map (applyT false q) := by
   unfold allC
   rw [hl]
   exact runG_map hC 0 V.length
  rw [e]
  exact ⟨List.length_map _, 0, fun i => by rw [cy_map _ hpos, Int.zero_add]⟩
 |true =>
  simp only [if_true] at hC ⊢
  have e : allC sg V' W' = ((runG (coC sg V W) (m - V.length + 1) V.length).map (applyT true q)).reverse := by
   unfold allC
   rw [hl]
   have e1 := runG_rev (g := fun i => (coC sg V W i).map (applyT true q)) (g' := coC sg V' W') (d := m) hC V.length
   rw [e1, runG_map (g := coC sg V W) (fun _ => rfl)]
  obtain ⟨h1, d, h2⟩ := runG_rot h.n0 (coC_per h) (m - V.length + 1)
  have h1' : (runG (coC sg V W) (m - V.length + 1) V.length).length = (allC sg V W).length := h1
  rw [e]
  refine ⟨by rw [List.length_reverse, List.length_map]; exact h1', d - 1, fun i => ?_⟩
  rw [cy_rev, cy_map _ (by omega), h2]
  congr 2
  omega
/- the points of a cut polygon -/
theorem pts_all {f : Bool} {q : Int} (h : OutV sg V W) {m : Int} (hl : V'.length = V.length) (hV : ∀ i, cy V' i = applyT f q (cy V (if f = true then m - i else i))) (hW : ∀ i, cyI W' i = cyI W (if f = true then m - 1 - i else i)) :
  ((ptsL (allC sg V W)).length = 1 ∧ (ptsL (allC sg V' W')).length = 1) ∨ RotC (turnL f q (ptsL (allC sg V W))) (ptsL (allC sg V' W')) := by
 obtain ⟨h1, d, h2⟩ := all_turn (f := f) (q := q) h hl hV hW
 have hR : ∀ i, inR 4000000 (cy (allC sg V W) i) := cy_R fun s hs => by
  obtain ⟨i, hi⟩ := runG_mem _ hs
  exact coC_R h i s hi
 have hpos := allC_pos h
 rcases pts_turn h1 hpos (fun i j e => (turnK_apply f q).inj _ _ (hR i) (hR j) e) f d h2 with h3 | h3
 ·exact .inl h3
 ·right
  unfold turnL
  exact h3
end
end Go.Proofs.YtfegbaokcbjllaaGreat
