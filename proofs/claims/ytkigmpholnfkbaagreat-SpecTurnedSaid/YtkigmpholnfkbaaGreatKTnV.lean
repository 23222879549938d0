/- plain: a turn without a flip leaves every error as it is. No program in sight. -/
import Derived.Test.YtkigmpholnfkbaaGreatKTurned
import Derived.Test.YtkigmpholnfkbaaGreatKNotP
/- Plain: an outline and its turned image pass the check together (the second part: joins, polygons, names). -/
namespace Go.Proofs.YtkigmpholnfkbaaGreat
open Go.RowKit
theorem turnI_lt {f : Bool} {n i : Nat} (h : i < n) : turnI f n i < n := by
  unfold turnI; split
  · exact Nat.mod_lt _ (by omega)
  · exact h
theorem turnI_inj {f : Bool} {n i j : Nat} (hi : i < n) (hj : j < n) (h : turnI f n i = turnI f n j) : i = j := by
  unfold turnI at h
  split at h
  · rcases Nat.eq_zero_or_pos i with h0 | h0 <;> rcases Nat.eq_zero_or_pos j with h1 | h1
    · omega
    · subst h0; rw [Nat.sub_zero, Nat.mod_self, Nat.mod_eq_of_lt (by omega)] at h; omega
    · subst h1; rw [Nat.sub_zero, Nat.mod_self, Nat.mod_eq_of_lt (by omega)] at h; omega
    · rw [Nat.mod_eq_of_lt (by omega), Nat.mod_eq_of_lt (by omega)] at h; omega
  · exact h
theorem turnI_turnI {f : Bool} {n i : Nat} (hi : i < n) : turnI f n (turnI f n i) = i := by
  unfold turnI
  split
  · rcases Nat.eq_zero_or_pos i with h0 | h0
    · subst h0; simp
    · rw [Nat.mod_eq_of_lt (show n - i < n by omega), Nat.mod_eq_of_lt (by omega)]; omega
  · rfl
theorem turnE_get {f : Bool} {q : Int} {es : List Edge} {i : Nat} (h : i < es.length) : gE (turnE f q es) i = ((gE es (turnI f es.length i)).1, turnL f q (gE es (turnI f es.length i)).2) := by
  rw [gE_eq (by rw [turnE_len]; exact h)]; simp [turnE, turnAt]
structure OCk (es : List Edge) : Prop where
  l2 : 2 ≤ es.length
  l16 : es.length ≤ 16
  nm : ∀ i, i < es.length → nameB (gE es i).1 = true
  ds : ∀ i j, i < es.length → j < es.length → i ≠ j → (gE es i).1.toList ≠ (gE es j).1.toList
  lc : ∀ i, i < es.length → lcheck (gE es i).2 = 0
  jn : ∀ i, i < es.length → gS (gE es i).2 ((gE es i).2.length - 1) = gS (gE es ((i + 1) % es.length)).2 0
  pc : pcheck (verts es) = 0
theorem edgeE_iff (es : List Edge) (i : Nat) : edgeE es i = 0 ↔ nameB (gE es i).1 = true ∧ (∀ j, j < i → (gE es j).1.toList ≠ (gE es i).1.toList) ∧ lcheck (gE es i).2 = 0 := by
  unfold edgeE
  constructor
  · intro h
    split at h
    · cases h
    split at h
    · cases h
    · rename_i h1 h2
      refine ⟨by simpa using h1, fun j hj => ?_, h⟩
      have h3 := (allB_iff _ _).1 (by simpa using h2) j hj
      unfold sameN at h3
      simpa using h3
  · rintro ⟨h1, h2, h3⟩
    rw [if_neg (by rw [h1]; decide), if_neg, h3]
    rw [Bool.not_eq_false, allB_iff]
    intro j hj
    unfold sameN
    simpa using h2 j hj
theorem ocheck_iff (es : List Edge) : ocheck es = 0 ↔ OCk es := by
  constructor
  · intro h
    obtain ⟨h2, h16, hf⟩ := ocheck_ok h
    have hE := fun i hi => (edgeE_iff es i).1 ((firstE_zero _ _).1 hf i hi)
    unfold ocheck at h
    rw [if_neg (by omega), if_neg (by omega), if_neg (by rw [hf]; decide)] at h
    split at h
    · cases h
    · rename_i hj
      refine ⟨h2, h16, fun i hi => (hE i hi).1, fun i j hi hj' hne => ?_, fun i hi => (hE i hi).2.2, fun i hi => ?_, h⟩
      · rcases Nat.lt_or_ge i j with hl | hl
        · exact (hE j hj').2.1 i hl
        · exact ((hE i hi).2.1 j (by omega)).symm
      · have := (allB_iff _ _).1 (by simpa using hj) i hi
        unfold joinF at this
        simpa using this
  · rintro ⟨h2, h16, h3, h4, h5, h6, h7⟩
    have hf : firstE (edgeE es) es.length = 0 := (firstE_zero _ _).2 fun i hi => (edgeE_iff es i).2 ⟨h3 i hi, fun j hj => h4 j i (by omega) hi (by omega), h5 i hi⟩
    unfold ocheck
    rw [if_neg (by omega), if_neg (by omega), if_neg (by rw [hf]; decide), if_neg, h7]
    rw [Bool.not_eq_false, allB_iff]
    intro i hi
    unfold joinF
    simpa using h6 i hi
/- the vertices of a turned outline -/
theorem verts_false (q : Int) (es : List Edge) : verts (turnE false q es) = (verts es).map (applyT false q) := by
  have e : turnE false q es = es.map fun e => (e.1, e.2.map (applyT false q)) := by
    refine list_ext_gE (by rw [turnE_len, List.length_map]) fun i hi => ?_
    rw [turnE_len] at hi
    rw [turnE_get hi, gE_eq (l := es.map _) (by simpa using hi)]
    simp [turnI, turnL, gE_eq hi]
  rw [e]
  unfold verts
  rw [List.map_flatMap, List.flatMap_map]
  congr 1
  funext x
  simp [List.map_dropLast]
theorem cy_map {l : List Spot} (T : Spot → Spot) (hl : 0 < l.length) (i : Int) : cy (l.map T) i = T (cy l i) := by
  obtain ⟨k, hk, e, c⟩ := cy_of hl i
  rw [c]
  unfold cy
  rw [List.length_map, e]
  have : ((k : Int)).toNat = k := by omega
  rw [this, gS_eq (by simpa using hk), gS_eq hk]; simp
theorem turnE_m {f : Bool} {q : Int} {es : List Edge} {i : Nat} (h : i < es.length) : (gE (turnE f q es) i).2.length = (gE es (turnI f es.length i)).2.length := by rw [turnE_get h, turnL_len]
theorem off_turn {q : Int} {es : List Edge} (hn : 0 < es.length) : ∀ i, 1 ≤ i → i ≤ es.length → offE (turnE true q es) i + offE es (es.length - i + 1) = ((gE es 0).2.length - 1) + offE es es.length
  | 0, h, _ => absurd h (by omega)
  | 1, _, _ => by
    rw [show es.length - 1 + 1 = es.length from by omega]
    have e : offE (turnE true q es) 1 = (gE es 0).2.length - 1 := by
      simp only [offE]
      rw [turnE_m hn, show turnI true es.length 0 = 0 from by simp [turnI]]; omega
    rw [e]
  | i + 2, _, h => by
    have ih := off_turn (q := q) hn (i + 1) (by omega) (by omega)
    have e1 : offE (turnE true q es) (i + 2) = offE (turnE true q es) (i + 1) + ((gE es (es.length - (i + 1))).2.length - 1) := by
      show offE (turnE true q es) (i + 1) + ((gE (turnE true q es) (i + 1)).2.length - 1) = _
      rw [turnE_m (by omega), show turnI true es.length (i + 1) = es.length - (i + 1) from by unfold turnI; rw [if_pos rfl, Nat.mod_eq_of_lt (by omega)]]
    have e2 : offE es (es.length - (i + 1) + 1) = offE es (es.length - (i + 1)) + ((gE es (es.length - (i + 1))).2.length - 1) := rfl
    rw [e1, show es.length - (i + 2) + 1 = es.length - (i + 1) from by omega]
    omega
theorem verts_turn_len (f : Bool) (q : Int) {es : List Edge} (hn : 0 < es.length) : (verts (turnE f q es)).length = (verts es).length := by
  cases f
  · rw [verts_false, List.length_map]
  · rw [verts_len', verts_len', turnE_len]
    have h := off_turn (q := q) hn es.length (by omega) (Nat.le_refl _)
    have e : offE es (es.length - es.length + 1) = (gE es 0).2.length - 1 := by rw [Nat.sub_self]; simp [offE]
    omega
theorem Joined.turn {es : List Edge} (h : Joined es) (q : Int) : ∀ i : Int, cy (verts (turnE true q es)) i = applyT true q (cy (verts es) (((gE es 0).2.length - 1 : Nat) - i)) := by
  have hN := verts_turn_len true q h.n0
  have key : ∀ x : Nat, x < (verts es).length → cy (verts (turnE true q es)) x = applyT true q (cy (verts es) (((gE es 0).2.length - 1 : Nat) - (x : Int))) := fun x hx => by
    have hx' : x < offE (turnE true q es) (turnE true q es).length := by rw [← verts_len', hN]; exact hx
    obtain ⟨i, k, hi, hk, rfl⟩ := off_find _ _ _ hx'
    rw [turnE_len] at hi
    rw [cy_nat (by rw [hN]; exact hx), verts_get (by rw [turnE_len]; exact hi) hk]
    rw [turnE_m hi] at hk
    rw [turnE_get hi]
    simp only
    rw [turnL_get (by omega), if_pos rfl]
    have hlt := turnI_lt (f := true) hi
    congr 1
    rw [← h.at hlt (k := (gE es (turnI true es.length i)).2.length - 1 - k) (by omega)]
    rcases Nat.eq_zero_or_pos i with h0 | h0
    · subst h0
      have e : turnI true es.length 0 = 0 := by simp [turnI]
      rw [e] at hk ⊢
      congr 1
      simp only [offE]
      omega
    · have e : turnI true es.length i = es.length - i := by unfold turnI; rw [if_pos rfl, Nat.mod_eq_of_lt (by omega)]
      rw [e] at hk ⊢
      have ho := off_turn (q := q) h.n0 i (by omega) (by omega)
      have e2 : offE es (es.length - i + 1) = offE es (es.length - i) + ((gE es (es.length - i)).2.length - 1) := rfl
      have e3 := verts_len' es
      have : ((offE es (es.length - i) + ((gE es (es.length - i)).2.length - 1 - k) : Nat) : Int) = (((gE es 0).2.length - 1 : Nat) : Int) - ((offE (turnE true q es) i + k : Nat) : Int) + 1 * ((verts es).length : Int) := by omega
      rw [this, cy_add]
  intro i
  have hp := h.pos
  obtain ⟨k, hk, e, c⟩ := cy_of (l := verts (turnE true q es)) (by rw [hN]; exact hp) i
  rw [hN] at hk e
  rw [c, ← cy_nat (by rw [hN]; exact hk), key k hk]
  congr 1
  refine cy_mod ?_
  exact (neg_mod_iff _).2 (by rw [e, Int.emod_eq_of_lt (by omega) (by omega)])
theorem ocheck_joined {es : List Edge} (h2 : 2 ≤ es.length) (hl : ∀ i, i < es.length → lcheck (gE es i).2 = 0) (hj : ∀ i, i < es.length → gS (gE es i).2 ((gE es i).2.length - 1) = gS (gE es ((i + 1) % es.length)).2 0) : Joined es ∧ AllB (verts es) := by
  have hln : ∀ i, i < es.length → 2 ≤ (gE es i).2.length := fun i hi => ((lcheck_iff _).1 (hl i hi)).1
  refine ⟨⟨by omega, hln, hj⟩, fun k hk => ?_⟩
  rw [verts_len'] at hk
  obtain ⟨j, k', hj', hk', rfl⟩ := off_find _ _ _ hk
  rw [verts_get hj' hk']
  exact ((lcheck_iff _).1 (hl j hj')).2.2.1 k' (by omega)
/- the polygon's check -/
theorem pcheck_turn {es : List Edge} (f : Bool) (q : Int) (h : Joined es) (hB : AllB (verts es)) : pcheck (verts (turnE f q es)) = 0 ↔ pcheck (verts es) = 0 := by
  have hN := verts_turn_len f q h.n0
  have hp := h.pos
  have rel : ∃ c : Int, (f = false → ∀ i, cy (verts (turnE f q es)) i = applyT f q (cy (verts es) (i + c))) ∧ (f = true → ∀ i, cy (verts (turnE f q es)) i = applyT f q (cy (verts es) (c - i))) := by
    cases f
    · exact ⟨0, fun _ i => by rw [verts_false, cy_map _ hp, Int.add_zero], fun h => by cases h⟩
    · exact ⟨_, fun h => (by cases h), fun _ => h.turn q⟩
  obtain ⟨c, r0, r1⟩ := rel
  have hB' : AllB (verts (turnE f q es)) := fun k hk => by
    have e := cy_nat hk
    rw [← e]
    cases f
    · rw [r0 rfl]; exact (pres_apply _ q).b _ (hB.cy hp _)
    · rw [r1 rfl]; exact (pres_apply _ q).b _ (hB.cy hp _)
  rw [pcheck_iff, pcheck_iff, hN]
  have key : 3 ≤ (verts es).length → (simpleB (verts (turnE f q es)) = true ↔ simpleB (verts es) = true) := fun h3 => by
    rw [simple_iff hB' (by rw [hN]; exact h3), simple_iff hB h3]
    cases f
    · exact shift_simple (pres_apply false q) hN hB hp c (r0 rfl)
    · exact rev_simple (pres_apply true q) hN hB h3 c (r1 rfl)
  constructor
  · rintro ⟨a, b, _, d⟩; exact ⟨a, b, hB, (key a).1 d⟩
  · rintro ⟨a, b, _, d⟩; exact ⟨a, b, hB', (key a).2 d⟩
theorem ocheck_turn (f : Bool) (q : Int) {es : List Edge} (hw : WfE es) : ocheck (turnE f q es) = 0 ↔ ocheck es = 0 := by
  rw [ocheck_iff, ocheck_iff]
  have hlc : (∀ i, i < es.length → lcheck (gE (turnE f q es) i).2 = 0) ↔ ∀ i, i < es.length → lcheck (gE es i).2 = 0 := by
    constructor
    · intro h i hi
      have := h (turnI f es.length i) (turnI_lt hi)
      rw [turnE_get (turnI_lt hi), turnI_turnI hi] at this
      exact (turnL_lcheck (hw i hi)).1 this
    · intro h i hi
      rw [turnE_get hi]
      exact (turnL_lcheck (hw _ (turnI_lt hi))).2 (h _ (turnI_lt hi))
  have hnm : (∀ i, i < es.length → nameB (gE (turnE f q es) i).1 = true) ↔ ∀ i, i < es.length → nameB (gE es i).1 = true := by
    constructor
    · intro h i hi
      have := h (turnI f es.length i) (turnI_lt hi)
      rwa [turnE_get (turnI_lt hi), turnI_turnI hi] at this
    · intro h i hi
      rw [turnE_get hi]; exact h _ (turnI_lt hi)
  have hds : (∀ i j, i < es.length → j < es.length → i ≠ j → (gE (turnE f q es) i).1.toList ≠ (gE (turnE f q es) j).1.toList) ↔ ∀ i j, i < es.length → j < es.length → i ≠ j → (gE es i).1.toList ≠ (gE es j).1.toList := by
    constructor
    · intro h i j hi hj hne
      have := h (turnI f es.length i) (turnI f es.length j) (turnI_lt hi) (turnI_lt hj) (fun e => hne (turnI_inj hi hj e))
      rwa [turnE_get (turnI_lt hi), turnI_turnI hi, turnE_get (turnI_lt hj), turnI_turnI hj] at this
    · intro h i j hi hj hne
      rw [turnE_get hi, turnE_get hj]
      exact h _ _ (turnI_lt hi) (turnI_lt hj) (fun e => hne (turnI_inj hi hj e))
  have hjn : 2 ≤ es.length → (∀ i, i < es.length → lcheck (gE es i).2 = 0) → ((∀ i, i < es.length → gS (gE (turnE f q es) i).2 ((gE (turnE f q es) i).2.length - 1) = gS (gE (turnE f q es) ((i + 1) % es.length)).2 0) ↔ ∀ i, i < es.length → gS (gE es i).2 ((gE es i).2.length - 1) = gS (gE es ((i + 1) % es.length)).2 0) := fun h2 hl => by
    have hin : ∀ i, i < es.length → 2 ≤ (gE es i).2.length ∧ AllB (gE es i).2 := fun i hi => ⟨((lcheck_iff _).1 (hl i hi)).1, ((lcheck_iff _).1 (hl i hi)).2.2.1⟩
    cases f
    · have e : ∀ i, i < es.length → (gS (gE (turnE false q es) i).2 ((gE (turnE false q es) i).2.length - 1) = gS (gE (turnE false q es) ((i + 1) % es.length)).2 0 ↔ gS (gE es i).2 ((gE es i).2.length - 1) = gS (gE es ((i + 1) % es.length)).2 0) := fun i hi => by
        have hm := Nat.mod_lt (i + 1) (show 0 < es.length by omega)
        obtain ⟨l2, hB⟩ := hin i hi
        obtain ⟨l2', hB'⟩ := hin _ hm
        rw [turnE_get hi, turnE_get hm]
        simp only [turnI, Bool.false_eq_true, if_false, turnL_len]
        rw [turnL_get (by omega), turnL_get (by omega)]
        simp only [Bool.false_eq_true, if_false]
        exact ⟨fun h => (pres_apply false q).inj _ _ h (hB _ (by omega)) (hB' _ (by omega)), fun h => by rw [h]⟩
      exact ⟨fun h i hi => (e i hi).1 (h i hi), fun h i hi => (e i hi).2 (h i hi)⟩
    · have e : ∀ i, i < es.length → (gS (gE (turnE true q es) i).2 ((gE (turnE true q es) i).2.length - 1) = gS (gE (turnE true q es) ((i + 1) % es.length)).2 0 ↔ gS (gE es ((es.length - i) % es.length)).2 0 = gS (gE es ((es.length - (i + 1) % es.length) % es.length)).2 ((gE es ((es.length - (i + 1) % es.length) % es.length)).2.length - 1)) := fun i hi => by
        have hm := Nat.mod_lt (i + 1) (show 0 < es.length by omega)
        have h1 := Nat.mod_lt (es.length - i) (show 0 < es.length by omega)
        have h3 := Nat.mod_lt (es.length - (i + 1) % es.length) (show 0 < es.length by omega)
        obtain ⟨l2, hB⟩ := hin _ h1
        obtain ⟨l2', hB'⟩ := hin _ h3
        rw [turnE_get hi, turnE_get hm]
        simp only [turnI, if_true, turnL_len]
        rw [turnL_get (by omega), turnL_get (by omega)]
        simp only [if_true, Nat.sub_zero, Nat.sub_self]
        exact ⟨fun h => (pres_apply true q).inj _ _ h (hB _ (by omega)) (hB' _ (by omega)), fun h => by rw [h]⟩
      have idx : ∀ i, i < es.length → ((es.length - (i + 1) % es.length) % es.length + 1) % es.length = (es.length - i) % es.length := fun i hi => by
        rcases Nat.lt_or_ge (i + 1) es.length with h | h
        · rw [Nat.mod_eq_of_lt h, Nat.mod_eq_of_lt (show es.length - (i + 1) < es.length by omega)]; congr 1; omega
        · have : i + 1 = es.length := by omega
          rw [this, Nat.mod_self, Nat.sub_zero, Nat.mod_self, show es.length - i = 0 + 1 from by omega]
      constructor
      · intro h j hj
        -- the edge before whose image edge j stands
        have hi := turnI_lt (f := true) (Nat.mod_lt (j + 1) (show 0 < es.length by omega))
        have h1 := (e _ hi).1 (h _ hi)
        have k1 := idx _ hi
        have t1 := turnI_turnI (f := true) (n := es.length) (i := (j + 1) % es.length) (Nat.mod_lt _ (by omega))
        unfold turnI at t1 h1 k1
        simp only [if_true] at t1 h1 k1
        rw [t1] at h1 k1
        have hjj : (es.length - ((es.length - (j + 1) % es.length) % es.length + 1) % es.length) % es.length = j := by
          rcases Nat.lt_or_ge (j + 1) es.length with h | h
          · rw [Nat.mod_eq_of_lt h, Nat.mod_eq_of_lt (show es.length - (j + 1) < es.length by omega)]
            rw [show es.length - (j + 1) + 1 = es.length - j from by omega]
            rcases Nat.eq_zero_or_pos j with h0 | h0
            · subst h0; simp
            · rw [Nat.mod_eq_of_lt (show es.length - j < es.length by omega), Nat.mod_eq_of_lt (by omega)]; omega
          · have : j + 1 = es.length := by omega
            rw [this, Nat.mod_self, Nat.sub_zero, Nat.mod_self, Nat.zero_add]
            rcases Nat.lt_or_ge 1 es.length with h' | h'
            · rw [Nat.mod_eq_of_lt h', Nat.mod_eq_of_lt (by omega)]; omega
            · omega
        rw [hjj] at h1
        exact h1.symm
      · intro h i hi
        refine (e i hi).2 ?_
        have h3 := Nat.mod_lt (es.length - (i + 1) % es.length) (show 0 < es.length by omega)
        have := h _ h3
        rw [idx i hi] at this
        exact this.symm
  constructor
  · intro h
    have h2 := h.l2; have h16 := h.l16
    rw [turnE_len] at h2 h16
    have lc := hlc.1 (fun i hi => h.lc i (by rw [turnE_len]; exact hi))
    have jn := (hjn h2 lc).1 (fun i hi => by have := h.jn i (by rw [turnE_len]; exact hi); rwa [turnE_len] at this)
    obtain ⟨J, B⟩ := ocheck_joined h2 lc jn
    exact ⟨h2, h16, hnm.1 (fun i hi => h.nm i (by rw [turnE_len]; exact hi)), hds.1 (fun i j hi hj hne => h.ds i j (by rw [turnE_len]; exact hi) (by rw [turnE_len]; exact hj) hne), lc, jn, (pcheck_turn f q J B).1 h.pc⟩
  · intro h
    obtain ⟨J, B⟩ := ocheck_joined h.l2 h.lc h.jn
    refine ⟨by rw [turnE_len]; exact h.l2, by rw [turnE_len]; exact h.l16, ?_, ?_, ?_, ?_, (pcheck_turn f q J B).2 h.pc⟩
    · intro i hi; rw [turnE_len] at hi; exact hnm.2 h.nm i hi
    · intro i j hi hj hne; rw [turnE_len] at hi hj; exact hds.2 h.ds i j hi hj hne
    · intro i hi; rw [turnE_len] at hi; exact hlc.2 h.lc i hi
    · intro i hi; rw [turnE_len] at hi ⊢; exact (hjn h.l2 h.lc).2 h.jn i hi
end Go.Proofs.YtkigmpholnfkbaaGreat
/- Plain: grading commutes with turning. -/
namespace Go.Proofs.YtkigmpholnfkbaaGreat
open Go.RowKit
/- a moved line, turned -/
theorem movedS_turn (f : Bool) (q : Int) {l : List Spot} {a b : Spot} (hl : lcheck l = 0) (ha : inR 100000 a) (hb : inR 100000 b) :
    turnL f q (movedS l a b) = movedS (turnL f q l) (applyT f q (if f = true then b else a)) (applyT f q (if f = true then a else b)) := by
  obtain ⟨h2, h40, hin, _⟩ := (lcheck_iff l).1 hl
  refine list_ext_gS' (by rw [turnL_len, movedS_len, movedS_len, turnL_len]) fun k hk => ?_
  rw [turnL_len, movedS_len] at hk
  rw [turnL_get (by rw [movedS_len]; exact hk), movedS_len, movedS_g (by split <;> omega), movedS_g (by rw [turnL_len]; exact hk)]
  have e1 : ∀ j, mvS l a b j = mv1 (gS l j) a b ((l.length : Int) - 1) j := fun j => rfl
  have e2 : ∀ x y, mvS (turnL f q l) x y k = mv1 (gS (turnL f q l) k) x y ((l.length : Int) - 1) k := fun x y => by unfold mvS mv1; rw [turnL_len]
  rw [e1, e2, turnL_get hk]
  cases f
  · simp only [Bool.false_eq_true, if_false]
    rw [comm_apply false q _ _ _ _ _ (by omega) (by omega) (by omega) (hin k hk) ha hb]
  · simp only [if_true]
    rw [comm_apply true q _ _ _ _ _ (by omega) (by omega) (by omega) (hin _ (by omega)) hb ha, mv1_rev]
    congr 2
    omega
/- the corners of a turned piece -/
theorem turnC_len (f : Bool) (q : Int) (n : Nat) (cs : List Spot) : (turnC f q n cs).length = cs.length := by
  unfold turnC mirC
  split
  · split
    · rw [mixS_len, List.length_map]
    · rw [List.length_map]
  · rw [List.length_map]
theorem turnC_get (f : Bool) (q : Int) {cs : List Spot} {n i : Nat} (hn : cs.length = n) (hi : i < n) : gS (turnC f q n cs) i = applyT f q (gS cs (if f = true then (n - i + 1) % n else i)) := by
  unfold turnC
  cases f
  · simp only [Bool.false_eq_true, if_false]
    rw [gS_map (by omega)]
  · simp only [if_true]
    unfold mirC
    rw [if_pos (by rw [List.length_map]; exact hn), mixS_get (by rw [List.length_map]; omega), if_pos hi]
    unfold mirCF
    rw [gS_map (by rw [hn]; exact Nat.mod_lt _ (by omega))]
theorem turnC_idx (f : Bool) {n i : Nat} (hi : i < n) :
    (if f = true then (n - (i % n) + 1) % n else i % n) = (if f = true then (turnI f n i + 1) % n else turnI f n i % n) ∧ (if f = true then (n - ((i + 1) % n) + 1) % n else (i + 1) % n) = (if f = true then turnI f n i % n else (turnI f n i + 1) % n) := by
  cases f
  · simp [turnI]
  · simp only [if_true, turnI]
    rw [Nat.mod_eq_of_lt hi, Nat.mod_add_mod]
    refine ⟨rfl, ?_⟩
    rw [Nat.mod_mod]
    rcases Nat.lt_or_ge (i + 1) n with h | h
    · rw [Nat.mod_eq_of_lt h, show n - (i + 1) + 1 = n - i from by omega]
    · have : i + 1 = n := by omega
      rw [this, Nat.mod_self, Nat.sub_zero, show n - i = 1 from by omega, Nat.add_mod_left]
theorem gradedE_turn (f : Bool) (q : Int) {es : List Edge} {cs : List Spot} {m : Int} (h0 : -100 ≤ m) (h1 : m ≤ 100) (hlen : cs.length = es.length) (hc : allB (cornF cs) cs.length = true) (hl : ∀ i, i < es.length → lcheck (gE es i).2 = 0) :
    gradedE (turnE f q es) (turnC f q es.length cs) m = turnE f q (gradedE es cs m) := by
  refine list_ext_gE (by rw [gradedE_len, turnE_len, turnE_len, gradedE_len]) fun i hi => ?_
  rw [gradedE_len, turnE_len] at hi
  have hs := turnI_lt (f := f) hi
  have hn : 0 < es.length := by omega
  rw [gradedE_get (by rw [turnE_len]; exact hi), turnE_get (by rw [gradedE_len]; exact hi), gradedE_len, gradedE_get hs]
  unfold gradedAt
  rw [turnE_get hi, turnC_len, hlen]
  simp only
  have hR : ∀ j, j < es.length → inR 1000 (gS cs j) := fun j hj => cornF_bd hc (by rw [hlen]; exact hj)
  have hm : ∀ j, j < es.length → inR 100000 (mulS m (gS cs j)) := fun j hj => (mulS_R h0 h1 (hR j hj)).2
  have ha := Nat.mod_lt (turnI f es.length i) hn
  have hb := Nat.mod_lt (turnI f es.length i + 1) hn
  rw [movedS_turn f q (hl _ hs) (hm _ ha) (hm _ hb)]
  obtain ⟨x1, x2⟩ := turnC_idx f hi
  rw [turnC_get f q hlen (Nat.mod_lt i hn), turnC_get f q hlen (Nat.mod_lt (i + 1) hn), x1, x2]
  congr 2
  · rw [commM_apply h0 h1 f q _ (hR _ (by split <;> assumption))]
    congr 1
    split <;> rfl
  · rw [commM_apply h0 h1 f q _ (hR _ (by split <;> assumption))]
    congr 1
    split <;> rfl
theorem turnJ_lt {f : Bool} {n i : Nat} (h : i < n) : (if f = true then (n - i + 1) % n else i) < n := by
  split
  · exact Nat.mod_lt _ (by omega)
  · exact h
theorem turnJ_turnJ {f : Bool} {n i : Nat} (h : i < n) : (if f = true then (n - (if f = true then (n - i + 1) % n else i) + 1) % n else (if f = true then (n - i + 1) % n else i)) = i := by
  cases f
  · simp
  · simp only [if_true]
    rcases Nat.eq_zero_or_pos i with h0 | h0
    · subst h0
      rcases Nat.lt_or_ge 1 n with h1 | h1
      · rw [Nat.sub_zero, Nat.add_mod_left, Nat.mod_eq_of_lt h1, show n - 1 + 1 = n from by omega, Nat.mod_self]
      · have : n = 1 := by omega
        subst this; rfl
    · rcases Nat.lt_or_ge 1 i with h1 | h1
      · rw [Nat.mod_eq_of_lt (show n - i + 1 < n by omega), show n - (n - i + 1) + 1 = i from by omega, Nat.mod_eq_of_lt h]
      · have : i = 1 := by omega
        subst this
        rw [show n - 1 + 1 = n from by omega, Nat.mod_self, Nat.sub_zero, Nat.add_mod_left, Nat.mod_eq_of_lt h]
theorem corn_turn (f : Bool) (q : Int) {cs : List Spot} (hw : WfL cs) (n : Nat) (hn : cs.length = n) : allB (cornF (turnC f q n cs)) (turnC f q n cs).length = true ↔ allB (cornF cs) cs.length = true := by
  rw [cornF_iff, cornF_iff, turnC_len]
  constructor
  · intro h j hj
    rw [hn] at hj
    have := h (if f = true then (n - j + 1) % n else j) (by rw [hn]; exact turnJ_lt hj)
    rw [turnC_get f q hn (turnJ_lt hj), turnJ_turnJ hj] at this
    exact (inR_apply (by omega) (hw j (by rw [hn]; exact hj)) f q).1 this
  · intro h j hj
    rw [hn] at hj
    have hj' := turnJ_lt (f := f) hj
    rw [turnC_get f q hn hj]
    exact (inR_apply (by omega) (hw _ (by rw [hn]; exact hj')) f q).2 (h _ (by rw [hn]; exact hj'))
theorem wf_graded {es : List Edge} {cs : List Spot} {m : Int} (h0 : -100 ≤ m) (h1 : m ≤ 100) (hlen : cs.length = es.length) (hc : allB (cornF cs) cs.length = true) (hl : ∀ i, i < es.length → lcheck (gE es i).2 = 0) : WfE (gradedE es cs m) := by
  intro i hi k hk
  rw [gradedE_len] at hi
  rw [gradedE_get hi] at hk ⊢
  unfold gradedAt at hk ⊢
  simp only [movedS_len] at hk ⊢
  rw [movedS_g hk]
  obtain ⟨h2, h40, hin, _⟩ := (lcheck_iff _).1 (hl i hi)
  have hn : 0 < cs.length := by omega
  have hm : ∀ j, j < cs.length → inR 100000 (mulS m (gS cs j)) := fun j hj => (mulS_R h0 h1 (cornF_bd hc hj)).2
  exact inR_wf (B := 2000000) (by omega) (mv1_in (by omega) (by omega) (by omega) (hin k hk) (hm _ (Nat.mod_lt _ hn)) (hm _ (Nat.mod_lt _ hn)))
theorem GOk_turn (f : Bool) (q : Int) {es : List Edge} {cs : List Spot} {m : Int} (hw : WfE es) (hwc : WfL cs) : GOk (turnE f q es) (turnC f q es.length cs) m ↔ GOk es cs m := by
  constructor
  · intro h
    have hlen : cs.length = es.length := by have := h.len; rwa [turnC_len, turnE_len] at this
    have hc := (corn_turn f q hwc es.length hlen).1 h.corn
    have ok := (ocheck_turn f q hw).1 h.ok
    have hl := fun i hi => ocheck_line ok (i := i) hi
    have e := gradedE_turn f q h.m0 h.m1 hlen hc hl
    have ok' := h.ok'
    rw [e] at ok'
    exact ⟨h.m0, h.m1, hlen, hc, ok, (ocheck_turn f q (wf_graded h.m0 h.m1 hlen hc hl)).1 ok'⟩
  · intro h
    have hl := fun i hi => ocheck_line h.ok (i := i) hi
    have e := gradedE_turn f q h.m0 h.m1 h.len h.corn hl
    exact ⟨h.m0, h.m1, by rw [turnC_len, turnE_len]; exact h.len, (corn_turn f q hwc es.length h.len).2 h.corn, (ocheck_turn f q hw).2 h.ok, by rw [e]; exact (ocheck_turn f q (wf_graded h.m0 h.m1 h.len h.corn hl)).2 h.ok'⟩
theorem gradedR_turn (f : Bool) (q : Int) {es : List Edge} {cs : List Spot} {m : Int} (hw : WfE es) (hwc : WfL cs) : gradedR (turnE f q es) (turnC f q es.length cs) m = 0 ↔ gradedR es cs m = 0 := by
  rw [gradedR_iff, gradedR_iff, GOk_turn f q hw hwc]
theorem gradedE_turn' (f : Bool) (q : Int) {es : List Edge} {cs : List Spot} {m : Int} (h : GOk es cs m) : gradedE (turnE f q es) (turnC f q es.length cs) m = turnE f q (gradedE es cs m) :=
  gradedE_turn f q h.m0 h.m1 h.len h.corn fun _ hi => ocheck_line h.ok hi
end Go.Proofs.YtkigmpholnfkbaaGreat
/- plain: notches of a piece that is turned without a flip. No program in sight. -/
namespace Go.Proofs.YtkigmpholnfkbaaGreat
open Go.RowKit
def tnPc (p : Pc) (q : Int) : Pc := ⟨turnE false q p.es, turnC false q p.es.length p.cs, p.ws, p.ns⟩
theorem tn_get {es : List Edge} {q : Int} {i : Nat} (h : i < es.length) : (gE (turnE false q es) i).2 = (gE es i).2.map (applyT false q) := by
  rw [turnE_get h]; rfl
theorem tn_len {q : Int} {l : List Spot} (hw : WfL l) : lengthN (l.map (applyT false q)) = lengthN l := by
  have hc := turnL_lcheck (f := false) (q := q) hw
  have e : turnL false q l = l.map (applyT false q) := rfl
  rw [e] at hc
  unfold lengthN
  by_cases h : lcheck l = 0
  · rw [if_neg (fun h' => h' (hc.2 h)), if_neg (fun h' => h' h), List.length_map]
    obtain ⟨_, _, hin⟩ := lcheck_zero h
    exact lenTo_map (fun _ _ ha hb => seg_turn false q ha hb) hin _ (Nat.le_refl _)
  · rw [if_pos (fun h' => h (hc.1 h')), if_pos h]
theorem tn_base {p : Pc} {q : Int} (hw : WfE p.es) {k : Nat} (hk : k < p.es.length) : baseN (tnPc p q) k = baseN p k := by
  unfold baseN
  simp only [tnPc]
  rw [tn_get hk]
  exact tn_len (hw k hk)
theorem tn_nt {p : Pc} {q m : Int} (hw : WfE p.es) (i : Nat) : NtOk (tnPc p q) m i ↔ NtOk p m i := by
  have hl : (tnPc p q).es.length = p.es.length := turnE_len _ _ _
  constructor
  · intro h
    have h0 : 0 ≤ (gS p.ns i).1 := h.e0
    have h1 : (gS p.ns i).1 < p.es.length := by have := h.e1; rw [hl] at this; exact this
    have e := tn_base (q := q) hw (k := (gS p.ns i).1.toNat) (by omega)
    exact ⟨h0, h1, by have := h.b1; rw [← e]; exact this, h.a0, by have := h.a1; rw [← e]; exact this⟩
  · intro h
    have e := tn_base (q := q) hw (k := (gS p.ns i).1.toNat) (by have := h.e0; have := h.e1; omega)
    exact ⟨h.e0, by rw [hl]; exact h.e1, by have := h.b1; rw [← e] at this; exact this, h.a0, by have := h.a1; rw [← e] at this; exact this⟩
theorem tn_ok {p : Pc} {q m : Int} (hw : WfE p.es) (hc : WfL p.cs) : PlOk (tnPc p q) m ↔ PlOk p m := by
  constructor
  · intro h; exact ⟨(gradedR_turn false q hw hc).1 h.g, h.n, fun i hi => (tn_nt hw i).1 (h.i i hi)⟩
  · intro h; exact ⟨(gradedR_turn false q hw hc).2 h.g, h.n, fun i hi => (tn_nt hw i).2 (h.i i hi)⟩
theorem tn_E {p : Pc} {q m : Int} (hw : WfE p.es) (hc : WfL p.cs) : plE (tnPc p q) m = 0 ↔ plE p m = 0 := by
  rw [plE_zero, plE_zero]; exact tn_ok hw hc
theorem tn_graded {p : Pc} {q m : Int} (h : PlOk p m) {k : Nat} (hk : k < p.es.length) : (gE (gradedE (tnPc p q).es (tnPc p q).cs m) k).2 = (gE (gradedE p.es p.cs m) k).2.map (applyT false q) := by
  have hg := (gradedR_iff _ _ _).1 h.g
  show (gE (gradedE (turnE false q p.es) (turnC false q p.es.length p.cs) m) k).2 = _
  rw [gradedE_turn' false q hg, tn_get (by rw [gradedE_len]; exact hk)]
theorem tn_plV {p : Pc} {q m : Int} (hw : WfE p.es) (h : PlOk p m) {i : Nat} (hi : i < p.ns.length) : plV (tnPc p q) m i = plV p m i := by
  have hn := h.i i hi
  have hk : (gS p.ns i).1.toNat < p.es.length := by have := hn.e0; have := hn.e1; omega
  have hlc := ocheck_line ((gradedR_iff _ _ _).1 h.g).ok' (i := (gS p.ns i).1.toNat) (by rw [gradedE_len]; exact hk)
  obtain ⟨_, _, hin⟩ := lcheck_zero hlc
  have e : grdN (tnPc p q) m (gS p.ns i).1.toNat = grdN p m (gS p.ns i).1.toNat := by
    unfold grdN
    rw [tn_graded h hk]
    exact tn_len fun k hk => inB_wf (hin k hk)
  show partV (baseN (tnPc p q) (gS p.ns i).1.toNat) (grdN (tnPc p q) m (gS p.ns i).1.toNat) false (gS p.ns i).2 = _
  rw [e, tn_base hw hk]; rfl
theorem tn_pl {p : Pc} {q m : Int} (hw : WfE p.es) (h : PlOk p m) : plL (tnPc p q) m = plL p m := by
  unfold plL plTo
  exact List.map_congr_left fun i hi => tn_plV hw h (List.mem_range.1 hi)
theorem tn_spS {p : Pc} {q m : Int} (hw : WfE p.es) (h : PlOk p m) {i : Nat} (hi : i < p.ns.length) : spS (tnPc p q) m i = applyT false q (spS p m i) := by
  have hn := h.i i hi
  have hk : (gS p.ns i).1.toNat < p.es.length := by have := hn.e0; have := hn.e1; omega
  have hlc := ocheck_line ((gradedR_iff _ _ _).1 h.g).ok' (i := (gS p.ns i).1.toNat) (by rw [gradedE_len]; exact hk)
  have hb := plV_bd hn
  unfold spS
  rw [tn_plV hw h hi]
  show alongS (gE (gradedE (tnPc p q).es (tnPc p q).cs m) (gS p.ns i).1.toNat).2 (plV p m i) = _
  rw [tn_graded h hk]
  exact along_turn false q hlc hb.1 hb.2
theorem tn_sp {p : Pc} {q m : Int} (hw : WfE p.es) (h : PlOk p m) : spL (tnPc p q) m = (spL p m).map (applyT false q) := by
  unfold spL spTo
  rw [List.map_map]
  exact List.map_congr_left fun i hi => tn_spS hw h (List.mem_range.1 hi)
end Go.Proofs.YtkigmpholnfkbaaGreat
namespace Go.Proofs.YtkigmpholnfkbaaGreat
open Go.RowKit
theorem lcheck_val {q : Int} {l : List Spot} (hw : WfL l) : lcheck (turnL false q l) = lcheck l := by
  have hz := turnL_lcheck (f := false) (q := q) hw
  have hA := turnL_all (f := false) (q := q) hw
  have ho : (turnL false q l).any outB = l.any outB := by
    rw [Bool.eq_iff_iff]
    have h1 := any_out (turnL false q l); have h2 := any_out l
    constructor
    · intro h
      by_cases hc : l.any outB = true
      · exact hc
      · have := h1.2 (hA.2 (h2.1 (by simpa using hc))); rw [h] at this; cases this
    · intro h
      by_cases hc : (turnL false q l).any outB = true
      · exact hc
      · have := h2.2 (hA.1 (h1.1 (by simpa using hc))); rw [h] at this; cases this
  unfold lcheck at hz ⊢
  rw [turnL_len, ho] at hz ⊢
  by_cases c1 : 40 < l.length
  · rw [if_pos c1, if_pos c1]
  rw [if_neg c1, if_neg c1] at hz ⊢
  by_cases c2 : l.length < 2
  · rw [if_pos c2, if_pos c2]
  rw [if_neg c2, if_neg c2] at hz ⊢
  by_cases c3 : l.any outB = true
  · rw [if_pos c3, if_pos c3]
  rw [if_neg c3, if_neg c3] at hz ⊢
  by_cases c4 : allB (stepF l) (l.length - 1) = true
  · rw [if_pos c4] at hz ⊢
    exact hz.2 rfl
  · rw [if_neg c4] at hz ⊢
    by_cases c5 : allB (stepF (turnL false q l)) (l.length - 1) = true
    · rw [if_pos c5] at hz; exact absurd (hz.1 rfl) (by decide)
    · rw [if_neg c5]
theorem pcheck_val {q : Int} {es : List Edge} (h : Joined es) (hB : AllB (verts es)) : pcheck (verts (turnE false q es)) = pcheck (verts es) := by
  have hz := pcheck_turn false q h hB
  have hn : 0 < es.length := by
    have h1 := h.pos
    rcases Nat.eq_zero_or_pos es.length with h0 | h0
    · rw [List.eq_nil_of_length_eq_zero h0] at h1; simp [verts] at h1
    · exact h0
  have hl := verts_turn_len false q hn
  have o2 : (verts es).any outB = false := (any_out _).2 hB
  have o1 : (verts (turnE false q es)).any outB = false := (any_out _).2 (by
    rw [verts_false]
    intro k hk
    rw [List.length_map] at hk
    rw [gS_map hk]
    exact (wfS_apply (inB_wf (hB k hk)) false q).2.2 (hB k hk))
  unfold pcheck at hz ⊢
  rw [hl, o1, o2] at hz ⊢
  by_cases c1 : 40 < (verts es).length
  · rw [if_pos c1, if_pos c1]
  rw [if_neg c1, if_neg c1] at hz ⊢
  by_cases c2 : (verts es).length < 3
  · rw [if_pos c2, if_pos c2]
  rw [if_neg c2, if_neg c2] at hz ⊢
  simp only [Bool.false_eq_true, if_false] at hz ⊢
  by_cases c4 : simpleB (verts es) = true
  · rw [if_pos c4] at hz ⊢
    exact hz.2 rfl
  · rw [if_neg c4] at hz ⊢
    by_cases c5 : simpleB (verts (turnE false q es)) = true
    · rw [if_pos c5] at hz; exact absurd (hz.1 rfl) (by decide)
    · rw [if_neg c5]
theorem ocheck_val {q : Int} {es : List Edge} (hw : WfE es) : ocheck (turnE false q es) = ocheck es := by
  have hg : ∀ j, j < es.length → gE (turnE false q es) j = ((gE es j).1, turnL false q (gE es j).2) := fun j hj => by rw [turnE_get hj]; rfl
  have hE : ∀ i, i < es.length → edgeE (turnE false q es) i = edgeE es i := fun i hi => by
    have ha : allB (fun j => !sameN (turnE false q es) i j) i = allB (fun j => !sameN es i j) i := allB_congr fun j hj => by
      unfold sameN; rw [hg i hi, hg j (by omega)]
    unfold edgeE
    rw [ha, hg i hi]
    simp only
    rw [lcheck_val (hw i hi)]
  unfold ocheck
  rw [turnE_len]
  by_cases c1 : 16 < es.length
  · rw [if_pos c1, if_pos c1]
  rw [if_neg c1, if_neg c1]
  by_cases c2 : es.length < 2
  · rw [if_pos c2, if_pos c2]
  rw [if_neg c2, if_neg c2, firstE_congr hE]
  by_cases c3 : firstE (edgeE es) es.length ≠ 0
  · rw [if_pos c3, if_pos c3]
  rw [if_neg c3, if_neg c3]
  have hl : ∀ i, i < es.length → lcheck (gE es i).2 = 0 := fun i hi => edge_ok ((firstE_zero _ _).1 (Classical.not_not.1 c3) i hi)
  have hin : ∀ i, i < es.length → 2 ≤ (gE es i).2.length ∧ AllB (gE es i).2 := fun i hi => ⟨((lcheck_iff _).1 (hl i hi)).1, ((lcheck_iff _).1 (hl i hi)).2.2.1⟩
  have hJ : allB (joinF (turnE false q es) es.length) es.length = allB (joinF es es.length) es.length := allB_congr fun i hi => by
    have hm := Nat.mod_lt (i + 1) (show 0 < es.length by omega)
    obtain ⟨l2, hB⟩ := hin i hi
    obtain ⟨l2', hB'⟩ := hin _ hm
    unfold joinF
    rw [hg i hi, hg _ hm]
    simp only [turnL_len]
    rw [turnL_get (by omega), turnL_get (by omega)]
    simp only [Bool.false_eq_true, if_false]
    rw [decide_eq_decide]
    exact ⟨fun h => (pres_apply false q).inj _ _ h (hB _ (by omega)) (hB' _ (by omega)), fun h => by rw [h]⟩
  rw [hJ]
  by_cases c4 : allB (joinF es es.length) es.length = false
  · rw [if_pos c4, if_pos c4]
  rw [if_neg c4, if_neg c4]
  have hj : ∀ i, i < es.length → gS (gE es i).2 ((gE es i).2.length - 1) = gS (gE es ((i + 1) % es.length)).2 0 := fun i hi => of_decide_eq_true ((allB_iff _ _).1 (by simpa using c4) i hi)
  obtain ⟨J1, J2⟩ := ocheck_joined (by omega) hl hj
  exact pcheck_val J1 J2
/- .. so the error of grading is the same -/
theorem graded_val {es : List Edge} {cs : List Spot} {q m m0 : Int} (hok : GOk es cs m0) (hm0 : -100 ≤ m) (hm1 : m ≤ 100) (hw : WfE es) (hc : WfL cs) : gradedR (turnE false q es) (turnC false q es.length cs) m = gradedR es cs m := by
  have hT := (GOk_turn false q (m := m0) hw hc).2 hok
  have hl : ∀ i, i < es.length → lcheck (gE es i).2 = 0 := fun i hi => ocheck_line hok.ok hi
  unfold gradedR
  rw [if_neg (by rw [decide_eq_true ⟨hm0, hm1⟩]; decide), if_neg (fun h => h hT.len), if_neg (by rw [hT.corn]; decide), if_neg (fun h => h hT.ok), if_neg (by rw [decide_eq_true ⟨hm0, hm1⟩]; decide), if_neg (fun h => h hok.len), if_neg (by rw [hok.corn]; decide), if_neg (fun h => h hok.ok)]
  rw [gradedE_turn false q hm0 hm1 hok.len hok.corn hl]
  exact ocheck_val (wf_graded hm0 hm1 hok.len hok.corn hl)
end Go.Proofs.YtkigmpholnfkbaaGreat
