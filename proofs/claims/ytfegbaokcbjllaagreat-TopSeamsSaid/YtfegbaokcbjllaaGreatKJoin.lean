/- words: the case of the statement about seams (an edge, the rest of its piece, how its partner lies) and the style of the two pieces -/
import Derived.Lib.SliceRun
import Derived.Deep.Cut
import Derived.Test.YtfegbaokcbjllaaGreatKOTurn
import Derived.Test.YtfegbaokcbjllaaGreatKTurnQ
import Derived.Test.YtfegbaokcbjllaaGreatKStX
import Derived.Test.YtfegbaokcbjllaaGreatKNotU
import Derived.Test.YtfegbaokcbjllaaGreatKAlw1
/- slices.Clone at spots, notches, numbers -/
namespace Go.Proofs.YtfegbaokcbjllaaGreat
open Go.RowKit
theorem notch_info : (Tryz.prog.info? 79).map (fun i => (i.zero, i.size, i.bytes)) = some (some (.agg #[.int .i64 0, .int .i64 0]), 2, 16) := by kernel_rfl
def mixS (f : Nat → Spot) (L : List Spot) (k : Nat) : List Spot := (List.range L.length).map fun p => if p < k then f p else gS L p
theorem mixS_len (f : Nat → Spot) (L : List Spot) (k : Nat) : (mixS f L k).length = L.length := by simp [mixS]
theorem mixS_get {f : Nat → Spot} {L : List Spot} {k p : Nat} (hp : p < L.length) : gS (mixS f L k) p = if p < k then f p else gS L p := by simp [gS, mixS, hp]
theorem mixS_zero (f : Nat → Spot) (L : List Spot) : mixS f L 0 = L := list_ext_gS (mixS_len f L 0) fun p hp => by
 rw [mixS_len] at hp
 rw [mixS_get hp, if_neg (by omega)]
theorem mixS_succ {f : Nat → Spot} {L : List Spot} {k : Nat} (h : k < L.length) : (mixS f L k).set k (f k) = mixS f L (k + 1) :=
 list_ext_gS (by simp [mixS_len]) fun p hp => by
  simp [mixS_len] at hp
  rw [gS_set (by rw [mixS_len]; omega), mixS_get hp, mixS_get hp]
  by_cases h1 : p = k
  ·subst h1; rw [if_pos rfl, if_pos (by omega)]
  ·rw [if_neg h1]
   by_cases h2 : p < k
   ·rw [if_pos h2, if_pos (by omega)]
   ·rw [if_neg h2, if_neg (by omega)]
def mirCF (n : Nat) (L : List Spot) (j : Nat) : Spot := gS L ((n - j + 1) % n)
def mirC (n : Nat) (L : List Spot) : List Spot := if L.length = n then mixS (mirCF n L) L n else L
section
variable {K : Nat → Prop} {w0 w : World} {B pb rb : Nat} {pc rc : List Value} {vC vW vN : Value} {LC : List Spot} {LW : List Int} {LN : List Spot} {wr : World}
end
def turnC (f : Bool) (q : Int) (n : Nat) (cs : List Spot) : List Spot := if f = true then mirC n (cs.map (applyT f q)) else cs.map (applyT f q)
theorem mixS_map {f : Spot → Spot} {cs : List Spot} {L : List Spot} (h : L.length = cs.length) : mixS (fun p => f (gS cs p)) L cs.length = cs.map f :=
 list_ext_gS (by rw [mixS_len, List.length_map, h]) fun p hp => by
  rw [mixS_len, h] at hp
  rw [mixS_get (by omega), if_pos hp, gS_eq (l := cs.map f) (by simpa using hp), gS_eq hp]; simp
/- a moved line, turned -/
theorem movedS_turn (f : Bool) (q : Int) {l : List Spot} {a b : Spot} (hl : lcheck l = 0) (ha : inR 100000 a) (hb : inR 100000 b) :
  turnL f q (movedS l a b) = movedS (turnL f q l) (applyT f q (if f = true then b else a)) (applyT f q (if f = true then a else b)) := by
 obtain ⟨h2, h40, hin, _⟩ := (lcheck_iff l).1 hl
 refine list_ext_gS' (by rw [turnL_len, movedS_len, movedS_len, turnL_len]) fun k hk => ?_
 rw [turnL_len, movedS_len] at hk
 rw [turnL_get (by rw [movedS_len]; exact hk), movedS_len, movedS_g (by split <;> omega), movedS_g (by rw [turnL_len]; exact hk)]
 have e1 : ∀ j, mvS l a b j = mv1 (gS l j) a b ((l.length : Int) - 1) j := fun j => rfl
 have e2 : ∀ x y, mvS (turnL f q l) x y k = mv1 (gS (turnL f q l) k) x y ((l.length : Int) - 1) k := fun x y => by unfold mvS mv1; rw [turnL_len]
 rw [e1, e2, turnL_get hk]
 cases f
 ·simp only [Bool.false_eq_true, if_false]
  rw [comm_apply false q _ _ _ _ _ (by omega) (by omega) (by omega) (hin k hk) ha hb]
 ·simp only [if_true]
  rw [comm_apply true q _ _ _ _ _ (by omega) (by omega) (by omega) (hin _ (by omega)) hb ha, mv1_rev]
  congr 2
  omega
/- the corners of a turned piece -/
theorem turnC_len (f : Bool) (q : Int) (n : Nat) (cs : List Spot) : (turnC f q n cs).length = cs.length := by
 unfold turnC mirC
 split
 ·split
  ·rw [mixS_len, List.length_map]
  ·rw [List.length_map]
 ·rw [List.length_map]
theorem turnC_get (f : Bool) (q : Int) {cs : List Spot} {n i : Nat} (hn : cs.length = n) (hi : i < n) : gS (turnC f q n cs) i = applyT f q (gS cs (if f = true then (n - i + 1) % n else i)) := by
 unfold turnC
 cases f
 ·simp only [Bool.false_eq_true, if_false]
  rw [gS_map (by omega)]
 ·simp only [if_true]
  unfold mirC
  rw [if_pos (by rw [List.length_map]; exact hn), mixS_get (by rw [List.length_map]; omega), if_pos hi]
  unfold mirCF
  rw [gS_map (by rw [hn]; exact Nat.mod_lt _ (by omega))]
theorem turnC_idx (f : Bool) {n i : Nat} (hi : i < n) :
  (if f = true then (n - (i % n) + 1) % n else i % n) = (if f = true then (turnI f n i + 1) % n else turnI f n i % n) ∧ (if f = true then (n - ((i + 1) % n) + 1) % n else (i + 1) % n) = (if f = true then turnI f n i % n else (turnI f n i + 1) % n) := by
 cases f
 ·simp [turnI]
 ·simp only [if_true, turnI]
  rw [Nat.mod_eq_of_lt hi, Nat.mod_add_mod]
  refine ⟨rfl, ?_⟩
  rw [Nat.mod_mod]
  rcases Nat.lt_or_ge (i + 1) n with h | h
  ·rw [Nat.mod_eq_of_lt h, show n - (i + 1) + 1 = n - i from by omega]
  ·have : i + 1 = n := by omega
   rw [this, Nat.mod_self, Nat.sub_zero, show n - i = 1 from by omega, Nat.add_mod_left]
theorem gradedE_turn (f : Bool) (q : Int) {es : List Edge} {cs : List Spot} {m : Int} (h0 : -100 ≤ m) (h1 : m ≤ 100) (hlen : cs.length = es.length) (hc : allB (cornF cs) cs.length = true) (hl : ∀ i, i < es.length → lcheck (gE es i).2 = 0) :
  gradedE (turnE f q es) (turnC f q es.length cs) m = turnE f q (gradedE es cs m) := by
 refine list_ext_gE (by rw [gradedE_len, turnE_len, turnE_len, gradedE_len]) fun i hi => ?_
 rw [gradedE_len, turnE_len] at hi
 have hs := turnI_lt (f := f) hi
 have hn : 0 < es.length := by omega
 rw [gradedE_get (by rw [turnE_len]; exact hi), turnE_get (by rw [gradedE_len]; exact hi), gradedE_len, gradedE_get hs]
 unfold gradedAt
 rw [turnE_get hi, turnC_len, hlen]
 simp only
 have hR : ∀ j, j < es.length → inR 1000 (gS cs j) := fun j hj => cornF_bd hc (by rw [hlen]; exact hj)
 have hm : ∀ j, j < es.length → inR 100000 (mulS m (gS cs j)) := fun j hj => (mulS_R h0 h1 (hR j hj)).2
 have ha := Nat.mod_lt (turnI f es.length i) hn
 have hb := Nat.mod_lt (turnI f es.length i + 1) hn
 rw [movedS_turn f q (hl _ hs) (hm _ ha) (hm _ hb)]
 obtain ⟨x1, x2⟩ := turnC_idx f hi
 rw [turnC_get f q hlen (Nat.mod_lt i hn), turnC_get f q hlen (Nat.mod_lt (i + 1) hn), x1, x2]
 congr 2
 ·rw [commM_apply h0 h1 f q _ (hR _ (by split <;> assumption))]
  congr 1
  split <;> rfl
 ·rw [commM_apply h0 h1 f q _ (hR _ (by split <;> assumption))]
  congr 1
  split <;> rfl
theorem turnJ_lt {f : Bool} {n i : Nat} (h : i < n) : (if f = true then (n - i + 1) % n else i) < n := by
 split
 ·exact Nat.mod_lt _ (by omega)
 ·exact h
theorem turnJ_turnJ {f : Bool} {n i : Nat} (h : i < n) : (if f = true then (n - (if f = true then (n - i + 1) % n else i) + 1) % n else (if f = true then (n - i + 1) % n else i)) = i := by
 cases f
 ·simp
 ·simp only [if_true]
  rcases Nat.eq_zero_or_pos i with h0 | h0
  ·subst h0
   rcases Nat.lt_or_ge 1 n with h1 | h1
   ·rw [Nat.sub_zero, Nat.add_mod_left, Nat.mod_eq_of_lt h1, show n - 1 + 1 = n from by omega, Nat.mod_self]
   ·have : n = 1 := by omega
    subst this; rfl
  ·rcases Nat.lt_or_ge 1 i with h1 | h1
   ·rw [Nat.mod_eq_of_lt (show n - i + 1 < n by omega), show n - (n - i + 1) + 1 = i from by omega, Nat.mod_eq_of_lt h]
   ·have : i = 1 := by omega
    subst this
    rw [show n - 1 + 1 = n from by omega, Nat.mod_self, Nat.sub_zero, Nat.add_mod_left, Nat.mod_eq_of_lt h]
theorem corn_turn (f : Bool) (q : Int) {cs : List Spot} (hw : WfL cs) (n : Nat) (hn : cs.length = n) : allB (cornF (turnC f q n cs)) (turnC f q n cs).length = true ↔ allB (cornF cs) cs.length = true := by
 rw [cornF_iff, cornF_iff, turnC_len]
 constructor
 ·intro h j hj
  rw [hn] at hj
  have := h (if f = true then (n - j + 1) % n else j) (by rw [hn]; exact turnJ_lt hj)
  rw [turnC_get f q hn (turnJ_lt hj), turnJ_turnJ hj] at this
  exact (inR_apply (by omega) (hw j (by rw [hn]; exact hj)) f q).1 this
 ·intro h j hj
  rw [hn] at hj
  have hj' := turnJ_lt (f := f) hj
  rw [turnC_get f q hn hj]
  exact (inR_apply (by omega) (hw _ (by rw [hn]; exact hj')) f q).2 (h _ (by rw [hn]; exact hj'))
theorem wf_graded {es : List Edge} {cs : List Spot} {m : Int} (h0 : -100 ≤ m) (h1 : m ≤ 100) (hlen : cs.length = es.length) (hc : allB (cornF cs) cs.length = true) (hl : ∀ i, i < es.length → lcheck (gE es i).2 = 0) : WfE (gradedE es cs m) := by
 intro i hi k hk
 rw [gradedE_len] at hi
 rw [gradedE_get hi] at hk ⊢
 unfold gradedAt at hk ⊢
 simp only [movedS_len] at hk ⊢
 rw [movedS_g hk]
 obtain ⟨h2, h40, hin, _⟩ := (lcheck_iff _).1 (hl i hi)
 have hn : 0 < cs.length := by omega
 have hm : ∀ j, j < cs.length → inR 100000 (mulS m (gS cs j)) := fun j hj => (mulS_R h0 h1 (cornF_bd hc hj)).2
 exact inR_wf (B := 2000000) (by omega) (mv1_in (by omega) (by omega) (by omega) (hin k hk) (hm _ (Nat.mod_lt _ hn)) (hm _ (Nat.mod_lt _ hn)))
theorem GOk_turn (f : Bool) (q : Int) {es : List Edge} {cs : List Spot} {m : Int} (hw : WfE es) (hwc : WfL cs) : GOk (turnE f q es) (turnC f q es.length cs) m ↔ GOk es cs m := by
 constructor
 ·intro h
  have hlen : cs.length = es.length := by have := h.len; rwa [turnC_len, turnE_len] at this
  have hc := (corn_turn f q hwc es.length hlen).1 h.corn
  have ok := (ocheck_turn f q hw).1 h.ok
  have hl := fun i hi => ocheck_line ok (i := i) hi
  have e := gradedE_turn f q h.m0 h.m1 hlen hc hl
  have ok' := h.ok'
  rw [e] at ok'
  exact ⟨h.m0, h.m1, hlen, hc, ok, (ocheck_turn f q (wf_graded h.m0 h.m1 hlen hc hl)).1 ok'⟩
 ·intro h
  have hl := fun i hi => ocheck_line h.ok (i := i) hi
  have e := gradedE_turn f q h.m0 h.m1 h.len h.corn hl
  exact ⟨h.m0, h.m1, by rw [turnC_len, turnE_len]; exact h.len, (corn_turn f q hwc es.length h.len).2 h.corn, (ocheck_turn f q hw).2 h.ok, by rw [e]; exact (ocheck_turn f q (wf_graded h.m0 h.m1 h.len h.corn hl)).2 h.ok'⟩
theorem gradedR_turn (f : Bool) (q : Int) {es : List Edge} {cs : List Spot} {m : Int} (hw : WfE es) (hwc : WfL cs) : gradedR (turnE f q es) (turnC f q es.length cs) m = 0 ↔ gradedR es cs m = 0 := by
 rw [gradedR_iff, gradedR_iff, GOk_turn f q hw hwc]
theorem gradedE_turn' (f : Bool) (q : Int) {es : List Edge} {cs : List Spot} {m : Int} (h : GOk es cs m) : gradedE (turnE f q es) (turnC f q es.length cs) m = turnE f q (gradedE es cs m) :=
 gradedE_turn f q h.m0 h.m1 h.len h.corn fun _ hi => ocheck_line h.ok hi
def tnPc (p : Pc) (q : Int) : Pc := ⟨turnE false q p.es, turnC false q p.es.length p.cs, p.ws, p.ns⟩
theorem tn_get {es : List Edge} {q : Int} {i : Nat} (h : i < es.length) : (gE (turnE false q es) i).2 = (gE es i).2.map (applyT false q) := by
 rw [turnE_get h]; rfl
theorem tn_len {q : Int} {l : List Spot} (hw : WfL l) : lengthN (l.map (applyT false q)) = lengthN l := by
 have hc := turnL_lcheck (f := false) (q := q) hw
 have e : turnL false q l = l.map (applyT false q) := rfl
 rw [e] at hc
 unfold lengthN
 by_cases h : lcheck l = 0
 ·rw [if_neg (fun h' => h' (hc.2 h)), if_neg (fun h' => h' h), List.length_map]
  obtain ⟨_, _, hin⟩ := lcheck_zero h
  exact lenTo_map (fun _ _ ha hb => seg_turn false q ha hb) hin _ (Nat.le_refl _)
 ·rw [if_pos (fun h' => h (hc.1 h')), if_pos h]
theorem tn_base {p : Pc} {q : Int} (hw : WfE p.es) {k : Nat} (hk : k < p.es.length) : baseN (tnPc p q) k = baseN p k := by
 unfold baseN
 simp only [tnPc]
 rw [tn_get hk]
 exact tn_len (hw k hk)
theorem tn_nt {p : Pc} {q m : Int} (hw : WfE p.es) (i : Nat) : NtOk (tnPc p q) m i ↔ NtOk p m i := by
 have hl : (tnPc p q).es.length = p.es.length := turnE_len _ _ _
 constructor
 ·intro h
  have h0 : 0 ≤ (gS p.ns i).1 := h.e0
  have h1 : (gS p.ns i).1 < p.es.length := by have := h.e1; rw [hl] at this; exact this
  have e := tn_base (q := q) hw (k := (gS p.ns i).1.toNat) (by omega)
  exact ⟨h0, h1, by have := h.b1; rw [← e]; exact this, h.a0, by have := h.a1; rw [← e]; exact this⟩
 ·intro h
  have e := tn_base (q := q) hw (k := (gS p.ns i).1.toNat) (by have := h.e0; have := h.e1; omega)
  exact ⟨h.e0, by rw [hl]; exact h.e1, by have := h.b1; rw [← e] at this; exact this, h.a0, by have := h.a1; rw [← e] at this; exact this⟩
theorem tn_ok {p : Pc} {q m : Int} (hw : WfE p.es) (hc : WfL p.cs) : PlOk (tnPc p q) m ↔ PlOk p m := by
 constructor
 ·intro h; exact ⟨(gradedR_turn false q hw hc).1 h.g, h.n, fun i hi => (tn_nt hw i).1 (h.i i hi)⟩
 ·intro h; exact ⟨(gradedR_turn false q hw hc).2 h.g, h.n, fun i hi => (tn_nt hw i).2 (h.i i hi)⟩
theorem tn_E {p : Pc} {q m : Int} (hw : WfE p.es) (hc : WfL p.cs) : plE (tnPc p q) m = 0 ↔ plE p m = 0 := by
 rw [plE_zero, plE_zero]; exact tn_ok hw hc
theorem tn_graded {p : Pc} {q m : Int} (h : PlOk p m) {k : Nat} (hk : k < p.es.length) : (gE (gradedE (tnPc p q).es (tnPc p q).cs m) k).2 = (gE (gradedE p.es p.cs m) k).2.map (applyT false q) := by
 have hg := (gradedR_iff _ _ _).1 h.g
 show (gE (gradedE (turnE false q p.es) (turnC false q p.es.length p.cs) m) k).2 = _
 rw [gradedE_turn' false q hg, tn_get (by rw [gradedE_len]; exact hk)]
theorem tn_plV {p : Pc} {q m : Int} (hw : WfE p.es) (h : PlOk p m) {i : Nat} (hi : i < p.ns.length) : plV (tnPc p q) m i = plV p m i := by
 have hn := h.i i hi
 have hk : (gS p.ns i).1.toNat < p.es.length := by have := hn.e0; have := hn.e1; omega
 have hlc := ocheck_line ((gradedR_iff _ _ _).1 h.g).ok' (i := (gS p.ns i).1.toNat) (by rw [gradedE_len]; exact hk)
 obtain ⟨_, _, hin⟩ := lcheck_zero hlc
 have e : grdN (tnPc p q) m (gS p.ns i).1.toNat = grdN p m (gS p.ns i).1.toNat := by
  unfold grdN
  rw [tn_graded h hk]
  exact tn_len fun k hk => inB_wf (hin k hk)
 show partV (baseN (tnPc p q) (gS p.ns i).1.toNat) (grdN (tnPc p q) m (gS p.ns i).1.toNat) false (gS p.ns i).2 = _
 rw [e, tn_base hw hk]; rfl
theorem lcheck_val {q : Int} {l : List Spot} (hw : WfL l) : lcheck (turnL false q l) = lcheck l := by
 have hz := turnL_lcheck (f := false) (q := q) hw
 have hA := turnL_all (f := false) (q := q) hw
 have ho : (turnL false q l).any outB = l.any outB := by
  rw [Bool.eq_iff_iff]
  have h1 := any_out (turnL false q l); have h2 := any_out l
  constructor
  ·intro h
   by_cases hc : l.any outB = true
   ·exact hc
   ·have := h1.2 (hA.2 (h2.1 (by simpa using hc))); rw [h] at this; cases this
  ·intro h
   by_cases hc : (turnL false q l).any outB = true
   ·exact hc
   ·have := h2.2 (hA.1 (h1.1 (by simpa using hc))); rw [h] at this; cases this
 unfold lcheck at hz ⊢
 rw [turnL_len, ho] at hz ⊢
 by_cases c1 : 40 < l.length
 ·rw [if_pos c1, if_pos c1]
 rw [if_neg c1, if_neg c1] at hz ⊢
 by_cases c2 : l.length < 2
 ·rw [if_pos c2, if_pos c2]
 rw [if_neg c2, if_neg c2] at hz ⊢
 by_cases c3 : l.any outB = true
 ·rw [if_pos c3, if_pos c3]
 rw [if_neg c3, if_neg c3] at hz ⊢
 by_cases c4 : allB (stepF l) (l.length - 1) = true
 ·rw [if_pos c4] at hz ⊢
  exact hz.2 rfl
 ·rw [if_neg c4] at hz ⊢
  by_cases c5 : allB (stepF (turnL false q l)) (l.length - 1) = true
  ·rw [if_pos c5] at hz; exact absurd (hz.1 rfl) (by decide)
  ·rw [if_neg c5]
theorem pcheck_val {q : Int} {es : List Edge} (h : Joined es) (hB : AllB (verts es)) : pcheck (verts (turnE false q es)) = pcheck (verts es) := by
 have hz := pcheck_turn false q h hB
 have hn : 0 < es.length := by
  have h1 := h.pos
  rcases Nat.eq_zero_or_pos es.length with h0 | h0
  ·rw [List.eq_nil_of_length_eq_zero h0] at h1; simp [verts] at h1
  ·exact h0
 have hl := verts_turn_len false q hn
 have o2 : (verts es).any outB = false := (any_out _).2 hB
 have o1 : (verts (turnE false q es)).any outB = false := (any_out _).2 (by
  rw [verts_false]
  intro k hk
  rw [List.length_map] at hk
  rw [gS_map hk]
  exact (wfS_apply (inB_wf (hB k hk)) false q).2.2 (hB k hk))
 unfold pcheck at hz ⊢
 rw [hl, o1, o2] at hz ⊢
 by_cases c1 : 40 < (verts es).length
 ·rw [if_pos c1, if_pos c1]
 rw [if_neg c1, if_neg c1] at hz ⊢
 by_cases c2 : (verts es).length < 3
 ·rw [if_pos c2, if_pos c2]
 rw [if_neg c2, if_neg c2] at hz ⊢
 simp only [Bool.false_eq_true, if_false] at hz ⊢
 by_cases c4 : simpleB (verts es) = true
 ·rw [if_pos c4] at hz ⊢
  exact hz.2 rfl
 ·rw [if_neg c4] at hz ⊢
  by_cases c5 : simpleB (verts (turnE false q es)) = true
  ·rw [if_pos c5] at hz; exact absurd (hz.1 rfl) (by decide)
  ·rw [if_neg c5]
theorem ocheck_val {q : Int} {es : List Edge} (hw : WfE es) : ocheck (turnE false q es) = ocheck es := by
 have hg : ∀ j, j < es.length → gE (turnE false q es) j = ((gE es j).1, turnL false q (gE es j).2) := fun j hj => by rw [turnE_get hj]; rfl
 have hE : ∀ i, i < es.length → edgeE (turnE false q es) i = edgeE es i := fun i hi => by
  have ha : allB (fun j => !sameN (turnE false q es) i j) i = allB (fun j => !sameN es i j) i := allB_congr fun j hj => by
   unfold sameN; rw [hg i hi, hg j (by omega)]
  unfold edgeE
  rw [ha, hg i hi]
  simp only
  rw [lcheck_val (hw i hi)]
 unfold ocheck
 rw [turnE_len]
 by_cases c1 : 16 < es.length
 ·rw [if_pos c1, if_pos c1]
 rw [if_neg c1, if_neg c1]
 by_cases c2 : es.length < 2
 ·rw [if_pos c2, if_pos c2]
 rw [if_neg c2, if_neg c2, firstE_congr hE]
 by_cases c3 : firstE (edgeE es) es.length ≠ 0
 ·rw [if_pos c3, if_pos c3]
 rw [if_neg c3, if_neg c3]
 have hl : ∀ i, i < es.length → lcheck (gE es i).2 = 0 := fun i hi => edge_ok ((firstE_zero _ _).1 (Classical.not_not.1 c3) i hi)
 have hin : ∀ i, i < es.length → 2 ≤ (gE es i).2.length ∧ AllB (gE es i).2 := fun i hi => ⟨((lcheck_iff _).1 (hl i hi)).1, ((lcheck_iff _).1 (hl i hi)).2.2.1⟩
 have hJ : allB (joinF (turnE false q es) es.length) es.length = allB (joinF es es.length) es.length := allB_congr fun i hi => by
  have hm := Nat.mod_lt (i + 1) (show 0 < es.length by omega)
  obtain ⟨l2, hB⟩ := hin i hi
  obtain ⟨l2', hB'⟩ := hin _ hm
  unfold joinF
  rw [hg i hi, hg _ hm]
  simp only [turnL_len]
  rw [turnL_get (by omega), turnL_get (by omega)]
  simp only [Bool.false_eq_true, if_false]
  rw [decide_eq_decide]
  exact ⟨fun h => (pres_apply false q).inj _ _ h (hB _ (by omega)) (hB' _ (by omega)), fun h => by rw [h]⟩
 rw [hJ]
 by_cases c4 : allB (joinF es es.length) es.length = false
 ·rw [if_pos c4, if_pos c4]
 rw [if_neg c4, if_neg c4]
 have hj : ∀ i, i < es.length → gS (gE es i).2 ((gE es i).2.length - 1) = gS (gE es ((i + 1) % es.length)).2 0 := fun i hi => of_decide_eq_true ((allB_iff _ _).1 (by simpa using c4) i hi)
 obtain ⟨J1, J2⟩ := ocheck_joined (by omega) hl hj
 exact pcheck_val J1 J2
/- .. so the error of grading is the same -/
theorem graded_val {es : List Edge} {cs : List Spot} {q m m0 : Int} (hok : GOk es cs m0) (hm0 : -100 ≤ m) (hm1 : m ≤ 100) (hw : WfE es) (hc : WfL cs) : gradedR (turnE false q es) (turnC false q es.length cs) m = gradedR es cs m := by
 have hT := (GOk_turn false q (m := m0) hw hc).2 hok
 have hl : ∀ i, i < es.length → lcheck (gE es i).2 = 0 := fun i hi => ocheck_line hok.ok hi
 unfold gradedR
 rw [if_neg (by rw [decide_eq_true ⟨hm0, hm1⟩]; decide), if_neg (fun h => h hT.len), if_neg (by rw [hT.corn]; decide), if_neg (fun h => h hT.ok), if_neg (by rw [decide_eq_true ⟨hm0, hm1⟩]; decide), if_neg (fun h => h hok.len), if_neg (by rw [hok.corn]; decide), if_neg (fun h => h hok.ok)]
 rw [gradedE_turn false q hm0 hm1 hok.len hok.corn hl]
 exact ocheck_val (wf_graded hm0 hm1 hok.len hok.corn hl)
structure PomX where
 nm : ByteArray
 ps : List Int
 es : List Int
 pl : Int
 mi : Int
instance : Inhabited PomX := ⟨⟨⟨#[]⟩, [], [], 0, 0⟩⟩
theorem tn_grd {p : Pc} {q m : Int} (hg : GOk p.es p.cs m) {k : Nat} (hk : k < p.es.length) : grdN (tnPc p q) m k = grdN p m k := by
 unfold grdN
 show lengthN (gE (gradedE (turnE false q p.es) (turnC false q p.es.length p.cs) m) k).2 = _
 rw [gradedE_turn' false q hg, tn_get (by rw [gradedE_len]; exact hk)]
 obtain ⟨_, _, hin⟩ := lcheck_zero (ocheck_line hg.ok' (i := k) (by rw [gradedE_len]; exact hk))
 exact tn_len fun j hj => inB_wf (hin j hj)
/- moved: every vertex by the same -/
def mvE (d : Spot) (es : List Edge) : List Edge := es.map fun e => (e.1, e.2.map (moveS d))
def mvP (d : Spot) (p : Pc) : Pc := ⟨mvE d p.es, p.cs, p.ws, p.ns⟩
theorem mvE_get {d : Spot} {es : List Edge} {k : Nat} (h : k < es.length) : gE (mvE d es) k = ((gE es k).1, (gE es k).2.map (moveS d)) := by
 unfold mvE gE; simp [h]
theorem mvE_len (d : Spot) (es : List Edge) : (mvE d es).length = es.length := by simp [mvE]
theorem moveS_eq {d s : Spot} (hd : inR 1000000 d) (hs : inB s) : moveS d s = (s.1 + d.1, s.2 + d.2) := by
 obtain ⟨d1, d2, d3, d4⟩ := hd
 obtain ⟨s1, s2, s3, s4⟩ := hs
 unfold moveS
 rw [w64 (by omega) (by omega), w64 (by omega) (by omega)]
def plusS (d s : Spot) : Spot := (s.1 + d.1, s.2 + d.2)
theorem crossX_plus (d a b c : Spot) : crossX (plusS d a) (plusS d b) (plusS d c) = crossX a b c := by
 unfold crossX plusS
 simp only
 rw [show b.1 + d.1 - (a.1 + d.1) = b.1 - a.1 by omega, show c.2 + d.2 - (a.2 + d.2) = c.2 - a.2 by omega, show b.2 + d.2 - (a.2 + d.2) = b.2 - a.2 by omega, show c.1 + d.1 - (a.1 + d.1) = c.1 - a.1 by omega]
theorem dotX_plus (d a b c : Spot) : dotX (plusS d a) (plusS d b) (plusS d c) = dotX a b c := by
 unfold dotX plusS
 simp only
 rw [show a.1 + d.1 - (b.1 + d.1) = a.1 - b.1 by omega, show c.1 + d.1 - (b.1 + d.1) = c.1 - b.1 by omega, show a.2 + d.2 - (b.2 + d.2) = a.2 - b.2 by omega, show c.2 + d.2 - (b.2 + d.2) = c.2 - b.2 by omega]
theorem boxX_plus (d a b p : Spot) : boxX (plusS d a) (plusS d b) (plusS d p) ↔ boxX a b p := by
 unfold boxX plusS
 simp only
 omega
theorem onX_plus (d a b p : Spot) : onX (plusS d a) (plusS d b) (plusS d p) ↔ onX a b p := by unfold onX; rw [crossX_plus, boxX_plus]
theorem meet_plus {d a b c e : Spot} (ha : inB a) (hb : inB b) (hc : inB c) (he : inB e) (ha' : inB (plusS d a)) (hb' : inB (plusS d b)) (hc' : inB (plusS d c)) (he' : inB (plusS d e)) :
  meetB (plusS d a) (plusS d b) (plusS d c) (plusS d e) = meetB a b c e := by
 rw [Bool.eq_iff_iff, meet_iff ha hb hc he, meet_iff ha' hb' hc' he']
 unfold meetX
 simp only [onX_plus, crossX_plus]
theorem fold_plus {d a b c : Spot} (ha : inB a) (hb : inB b) (hc : inB c) (ha' : inB (plusS d a)) (hb' : inB (plusS d b)) (hc' : inB (plusS d c)) : foldB (plusS d a) (plusS d b) (plusS d c) = foldB a b c := by
 rw [fold_eq ha hb hc, fold_eq ha' hb' hc', crossX_plus, dotX_plus]
theorem plus_inj {d a b : Spot} (h : plusS d a = plusS d b) : a = b := by
 unfold plusS at h
 injection h with h1 h2
 exact Prod.ext (by omega) (by omega)
section
variable {d : Spot} {l : List Spot}
theorem mv_g (hd : inR 1000000 d) (h1 : AllB l) {k : Nat} (hk : k < l.length) : gS (l.map (moveS d)) k = plusS d (gS l k) := by
 rw [gS_map hk, moveS_eq hd (h1 k hk)]; rfl
theorem mv_b (hd : inR 1000000 d) (h1 : AllB l) (h2 : AllB (l.map (moveS d))) {k : Nat} (hk : k < l.length) : inB (plusS d (gS l k)) := by
 rw [← mv_g hd h1 hk]; exact h2 k (by rw [List.length_map]; exact hk)
theorem lcheck_mv (hd : inR 1000000 d) (h1 : AllB l) (h2 : AllB (l.map (moveS d))) : lcheck (l.map (moveS d)) = lcheck l := by
 have o1 : l.any outB = false := (any_out _).2 h1
 have o2 : (l.map (moveS d)).any outB = false := (any_out _).2 h2
 have hs : allB (stepF (l.map (moveS d))) (l.length - 1) = allB (stepF l) (l.length - 1) := allB_congr fun i hi => by
  unfold stepF
  rw [mv_g hd h1 (by omega), mv_g hd h1 (by omega)]
  congr 1
  rw [decide_eq_decide]
  exact ⟨plus_inj, fun h => by rw [h]⟩
 unfold lcheck
 rw [List.length_map, o1, o2, hs]
theorem pcheck_mv (hd : inR 1000000 d) (h1 : AllB l) (h2 : AllB (l.map (moveS d))) : pcheck (l.map (moveS d)) = pcheck l := by
 have o1 : l.any outB = false := (any_out _).2 h1
 have o2 : (l.map (moveS d)).any outB = false := (any_out _).2 h2
 have hs : simpleB (l.map (moveS d)) = simpleB l := by
  unfold simpleB
  rw [List.length_map]
  have e1 : allB (dupF (l.map (moveS d))) l.length = allB (dupF l) l.length := allB_congr fun i hi => by
   unfold dupF
   congr 1
   rw [mv_g hd h1 hi, ← List.map_take, Bool.eq_iff_iff, List.any_eq_true, List.any_eq_true]
   constructor
   ·rintro ⟨t, ht, he⟩
    obtain ⟨u, hu, rfl⟩ := List.mem_map.1 ht
    refine ⟨u, hu, ?_⟩
    obtain ⟨j, hj, e⟩ := List.mem_iff_getElem.1 hu
    rw [List.length_take] at hj
    have hjl : j < l.length := by omega
    rw [List.getElem_take, ← gS_eq hjl] at e
    have := of_decide_eq_true he
    rw [← e, moveS_eq hd (h1 j hjl)] at this
    rw [← e]
    exact decide_eq_true (plus_inj this)
   ·rintro ⟨t, ht, he⟩
    have he := of_decide_eq_true he
    refine ⟨moveS d t, List.mem_map.2 ⟨t, ht, rfl⟩, decide_eq_true ?_⟩
    rw [← he, moveS_eq hd (h1 i hi)]; rfl
  have e2 : allB (sideF (l.map (moveS d)) l.length) l.length = allB (sideF l l.length) l.length := allB_congr fun i hi => by
   have hn : 0 < l.length := by omega
   have m1 := Nat.mod_lt (i + 1) hn
   have m2 := Nat.mod_lt (i + 2) hn
   unfold sideF
   rw [mv_g hd h1 hi, mv_g hd h1 m1, mv_g hd h1 m2, fold_plus (h1 _ hi) (h1 _ m1) (h1 _ m2) (mv_b hd h1 h2 hi) (mv_b hd h1 h2 m1) (mv_b hd h1 h2 m2)]
   congr 1
   refine allB_congr fun j hj => ?_
   have m3 := Nat.mod_lt (i + 2 + j + 1) hn
   have m4 : i + 2 + j < l.length := by omega
   unfold meetF
   rw [mv_g hd h1 hi, mv_g hd h1 m1, mv_g hd h1 m3, mv_g hd h1 m4, meet_plus (h1 _ hi) (h1 _ m1) (h1 _ m4) (h1 _ m3) (mv_b hd h1 h2 hi) (mv_b hd h1 h2 m1) (mv_b hd h1 h2 m4) (mv_b hd h1 h2 m3)]
  rw [e1, e2]
 unfold pcheck
 rw [List.length_map, o1, o2, hs]
end
theorem allB_mem (l : List Spot) : AllB l ↔ ∀ s, s ∈ l → inB s := by
 constructor
 ·intro h s hs
  obtain ⟨k, hk, rfl⟩ := List.mem_iff_getElem.1 hs
  rw [← gS_eq hk]; exact h k hk
 ·intro h k hk
  rw [gS_eq hk]; exact h _ (List.getElem_mem hk)
theorem verts_mv (d : Spot) (es : List Edge) : verts (mvE d es) = (verts es).map (moveS d) := by
 induction es with
 |nil => rfl
 |cons e es ih =>
  unfold verts mvE at ih ⊢
  simp only [List.map_cons, List.flatMap_cons, List.map_append, ih]
  rw [List.map_dropLast]
theorem verts_allB {es : List Edge} (h : ∀ i, i < es.length → AllB (gE es i).2) : AllB (verts es) := by
 rw [allB_mem]
 intro s hs
 unfold verts at hs
 obtain ⟨e, he, hse⟩ := List.mem_flatMap.1 hs
 obtain ⟨i, hi, rfl⟩ := List.mem_iff_getElem.1 he
 have := h i hi
 rw [gE_eq hi, allB_mem] at this
 exact this s ((List.dropLast_sublist _).subset hse)
theorem ocheck_mv {d : Spot} {es : List Edge} (hd : inR 1000000 d) (h1 : ∀ i, i < es.length → AllB (gE es i).2) (h2 : ∀ i, i < es.length → AllB ((gE es i).2.map (moveS d))) : ocheck (mvE d es) = ocheck es := by
 have hE : ∀ i, i < es.length → edgeE (mvE d es) i = edgeE es i := fun i hi => by
  have ha : allB (fun j => !sameN (mvE d es) i j) i = allB (fun j => !sameN es i j) i := allB_congr fun j hj => by
   unfold sameN; rw [mvE_get hi, mvE_get (show j < es.length by omega)]
  unfold edgeE
  rw [ha, mvE_get hi]
  simp only
  rw [lcheck_mv hd (h1 i hi) (h2 i hi)]
 have hv : AllB (verts (mvE d es)) := verts_allB fun i hi => by
  rw [mvE_len] at hi
  rw [mvE_get hi]; exact h2 i hi
 unfold ocheck
 rw [mvE_len]
 by_cases c1 : 16 < es.length
 ·rw [if_pos c1, if_pos c1]
 rw [if_neg c1, if_neg c1]
 by_cases c2 : es.length < 2
 ·rw [if_pos c2, if_pos c2]
 rw [if_neg c2, if_neg c2, firstE_congr hE]
 by_cases c3 : firstE (edgeE es) es.length ≠ 0
 ·rw [if_pos c3, if_pos c3]
 rw [if_neg c3, if_neg c3]
 have hl : ∀ i, i < es.length → 2 ≤ (gE es i).2.length := fun i hi => (lcheck_zero (edge_ok ((firstE_zero _ _).1 (Classical.not_not.1 c3) i hi))).1
 have hJ : allB (joinF (mvE d es) es.length) es.length = allB (joinF es es.length) es.length := allB_congr fun i hi => by
  have hm := Nat.mod_lt (i + 1) (show 0 < es.length by omega)
  have l1 := hl i hi
  have l2 := hl _ hm
  unfold joinF
  rw [mvE_get hi, mvE_get hm]
  simp only [List.length_map]
  rw [mv_g hd (h1 i hi) (by omega), mv_g hd (h1 _ hm) (by omega), decide_eq_decide]
  exact ⟨plus_inj, fun h => by rw [h]⟩
 rw [hJ, verts_mv, pcheck_mv hd (verts_allB h1) (by rw [← verts_mv]; exact hv)]
/- grading -/
theorem mvS_mv {l : List Spot} {a b d : Spot} {k : Nat} (h2 : 2 ≤ l.length) (h1 : AllB l) (h1' : AllB (l.map (moveS d))) (ha : inR 100000 a) (hb : inR 100000 b) (hd : inR 1000000 d) (hk : k < l.length) :
  mvS (l.map (moveS d)) a b k = plusS d (mvS l a b k) := by
 obtain ⟨c1, c2, c3, c4⟩ := h1 k hk
 have e := mv_g hd h1 hk
 obtain ⟨g1, g2, g3, g4⟩ := mv_b hd h1 h1' hk
 obtain ⟨a1, a2, a3, a4⟩ := ha
 obtain ⟨b1, b2, b3, b4⟩ := hb
 unfold plusS at e g1 g2 g3 g4 ⊢
 unfold mvS
 rw [e, List.length_map]
 simp only at g1 g2 g3 g4 ⊢
 have hs : (1 : Int) ≤ (l.length : Int) - 1 := by omega
 rw [mvx_eq hs (by omega) (by omega) ⟨a1, a2⟩ ⟨b1, b2⟩ ⟨g1, g2⟩, mvx_eq hs (by omega) (by omega) ⟨a3, a4⟩ ⟨b3, b4⟩ ⟨g3, g4⟩, mvx_eq hs (by omega) (by omega) ⟨a1, a2⟩ ⟨b1, b2⟩ ⟨c1, c2⟩, mvx_eq hs (by omega) (by omega) ⟨a3, a4⟩ ⟨b3, b4⟩ ⟨c3, c4⟩]
 refine Prod.ext ?_ ?_ <;> simp only <;> omega
theorem mvS_in {l : List Spot} {a b : Spot} {k : Nat} {B : Int} (hB : B ≤ 900000) (h2 : 2 ≤ l.length) (ha : inR 100000 a) (hb : inR 100000 b) (hk : k < l.length) (hl : inR B (gS l k)) : inR (B + 100000) (mvS l a b k) := by
 obtain ⟨c1, c2, c3, c4⟩ := hl
 obtain ⟨a1, a2, a3, a4⟩ := ha
 obtain ⟨b1, b2, b3, b4⟩ := hb
 have hs : (1 : Int) ≤ (l.length : Int) - 1 := by omega
 have m1 := mix_bd hs (show (0 : Int) ≤ k by omega) (by omega) ⟨a1, a2⟩ ⟨b1, b2⟩
 have m2 := mix_bd hs (show (0 : Int) ≤ k by omega) (by omega) ⟨a3, a4⟩ ⟨b3, b4⟩
 unfold mvS inR
 simp only
 rw [mvx_eq hs (by omega) (by omega) ⟨a1, a2⟩ ⟨b1, b2⟩ ⟨by omega, by omega⟩, mvx_eq hs (by omega) (by omega) ⟨a3, a4⟩ ⟨b3, b4⟩ ⟨by omega, by omega⟩]
 omega
theorem gradedR_mv {es : List Edge} {cs : List Spot} {d : Spot} {m : Int} (hd : inR 20000 d) (hm0 : -100 ≤ m) (hm1 : m ≤ 100) (hb : ∀ i, i < es.length → ∀ k, k < (gE es i).2.length → inR 20000 (gS (gE es i).2 k))
  (h2 : ∀ i, i < es.length → 2 ≤ (gE es i).2.length) (hlen : cs.length = es.length) (hc : allB (cornF cs) cs.length = true) :
  gradedE (mvE d es) cs m = mvE d (gradedE es cs m) ∧ gradedR (mvE d es) cs m = gradedR es cs m := by
 have hd' : inR 1000000 d := by obtain ⟨a, b, c, e⟩ := hd; exact ⟨by omega, by omega, by omega, by omega⟩
 have hB1 : ∀ i, i < es.length → AllB (gE es i).2 := fun i hi k hk => by obtain ⟨a, b, c, e⟩ := hb i hi k hk; exact ⟨by omega, by omega, by omega, by omega⟩
 have hB2 : ∀ i, i < es.length → AllB ((gE es i).2.map (moveS d)) := fun i hi k hk => by
  rw [List.length_map] at hk
  rw [mv_g hd' (hB1 i hi) hk]
  obtain ⟨a, b, c, e⟩ := hb i hi k hk
  obtain ⟨d1, d2, d3, d4⟩ := hd
  unfold plusS
  exact ⟨by simp only; omega, by simp only; omega, by simp only; omega, by simp only; omega⟩
 have hS : ∀ j, inR 100000 (mulS m (gS cs (j % cs.length))) ∨ cs.length = 0 := fun j => by
  rcases Nat.eq_zero_or_pos cs.length with h | h
  ·exact .inr h
  ·exact .inl (mulS_R hm0 hm1 (cornF_bd hc (Nat.mod_lt _ h))).2
 have hg : gradedE (mvE d es) cs m = mvE d (gradedE es cs m) := by
  refine List.ext_getElem (by rw [mvE_len, gradedE_len, gradedE_len, mvE_len]) fun i h3 h4 => ?_
  have hi : i < es.length := by rw [gradedE_len, mvE_len] at h3; exact h3
  rw [← gE_eq h3, ← gE_eq h4, gradedE_get (by rw [mvE_len]; exact hi), mvE_get (by rw [gradedE_len]; exact hi), gradedE_get hi]
  unfold gradedAt
  rw [mvE_get hi]
  simp only
  have hn : cs.length ≠ 0 := by omega
  have A := (hS i).resolve_right hn
  have B := (hS (i + 1)).resolve_right hn
  refine Prod.ext rfl ?_
  simp only
  refine list_ext_gS (by rw [movedS_len, List.length_map, List.length_map, movedS_len]) fun k hk => ?_
  rw [movedS_len, List.length_map] at hk
  rw [movedS_g (by rw [List.length_map]; exact hk), mvS_mv (h2 i hi) (hB1 i hi) (hB2 i hi) A B hd' hk, gS_map (by rw [movedS_len]; exact hk), movedS_g hk]
  have := mvS_in (B := 20000) (by omega) (h2 i hi) A B hk (hb i hi k hk)
  obtain ⟨x1, x2, x3, x4⟩ := this
  rw [moveS_eq hd' ⟨by omega, by omega, by omega, by omega⟩]
  rfl
 refine ⟨hg, ?_⟩
 have ho := ocheck_mv hd' hB1 hB2
 have hin : ∀ i, i < (gradedE es cs m).length → ∀ k, k < (gE (gradedE es cs m) i).2.length → inR 120000 (gS (gE (gradedE es cs m) i).2 k) := fun i hi k hk => by
  rw [gradedE_len] at hi
  have hn : cs.length ≠ 0 := by omega
  have A := (hS i).resolve_right hn
  have B := (hS (i + 1)).resolve_right hn
  rw [gradedE_get hi] at hk ⊢
  unfold gradedAt at hk ⊢
  simp only [movedS_len] at hk ⊢
  rw [movedS_g hk]
  exact mvS_in (B := 20000) (by omega) (h2 i hi) A B hk (hb i hi k hk)
 have hG1 : ∀ i, i < (gradedE es cs m).length → AllB (gE (gradedE es cs m) i).2 := fun i hi k hk => by obtain ⟨a, b, c, e⟩ := hin i hi k hk; exact ⟨by omega, by omega, by omega, by omega⟩
 have hG2 : ∀ i, i < (gradedE es cs m).length → AllB ((gE (gradedE es cs m) i).2.map (moveS d)) := fun i hi k hk => by
  rw [List.length_map] at hk
  rw [mv_g hd' (hG1 i hi) hk]
  obtain ⟨a, b, c, e⟩ := hin i hi k hk
  obtain ⟨d1, d2, d3, d4⟩ := hd
  unfold plusS
  exact ⟨by simp only; omega, by simp only; omega, by simp only; omega, by simp only; omega⟩
 have ho2 := ocheck_mv hd' hG1 hG2
 unfold gradedR
 rw [hg, ho, ho2, mvE_len]
theorem seg_plus (d u v : Spot) : seg (plusS d u) (plusS d v) = seg u v := by
 unfold plusS seg sqN
 simp only
 rw [show v.1 + d.1 - (u.1 + d.1) = v.1 - u.1 by omega, show v.2 + d.2 - (u.2 + d.2) = v.2 - u.2 by omega]
theorem length_mv {d : Spot} {l : List Spot} (hd : inR 1000000 d) (h1 : AllB l) (h2 : AllB (l.map (moveS d))) : lengthN (l.map (moveS d)) = lengthN l := by
 have hc := lcheck_mv hd h1 h2
 unfold lengthN
 rw [hc, List.length_map, lenTo_sum, lenTo_sum]
 rw [sumN_congr (n := l.length - 1) (g := fun i => seg (gS (l.map (moveS d)) i) (gS (l.map (moveS d)) (i + 1))) (h := fun i => seg (gS l i) (gS l (i + 1))) (fun i hi => by
  rw [mv_g hd h1 (by omega), mv_g hd h1 (by omega), seg_plus]) _ (Nat.le_refl _)]
structure MvOk (p : Pc) (d : Spot) : Prop where
 d : inR 20000 d
 b : ∀ i, i < p.es.length → ∀ k, k < (gE p.es i).2.length → inR 20000 (gS (gE p.es i).2 k)
 g : GOk p.es p.cs 0
section
variable {p : Pc} {d : Spot}
theorem MvOk.d' (h : MvOk p d) : inR 1000000 d := by obtain ⟨a, b, c, e⟩ := h.d; exact ⟨by omega, by omega, by omega, by omega⟩
theorem MvOk.l2 (h : MvOk p d) : ∀ i, i < p.es.length → 2 ≤ (gE p.es i).2.length := fun i hi => (lcheck_zero (ocheck_line h.g.ok hi)).1
theorem mvp_gr (h : MvOk p d) {m : Int} (h0 : -100 ≤ m) (h1 : m ≤ 100) : gradedE (mvP d p).es (mvP d p).cs m = mvE d (gradedE p.es p.cs m) ∧ gradedR (mvP d p).es (mvP d p).cs m = gradedR p.es p.cs m :=
 gradedR_mv h.d h0 h1 h.b h.l2 h.g.len h.g.corn
theorem mvp_base (h : MvOk p d) {k : Nat} (hk : k < p.es.length) (hm : AllB ((gE p.es k).2.map (moveS d))) : baseN (mvP d p) k = baseN p k := by
 unfold baseN
 show lengthN (gE (mvE d p.es) k).2 = _
 rw [mvE_get hk]
 exact length_mv h.d' (fun j hj => by obtain ⟨a, b, c, e⟩ := h.b k hk j hj; exact ⟨by omega, by omega, by omega, by omega⟩) hm
theorem MvOk.m (h : MvOk p d) {k : Nat} (hk : k < p.es.length) : AllB ((gE p.es k).2.map (moveS d)) := fun j hj => by
 rw [List.length_map] at hj
 obtain ⟨a, b, c, e⟩ := h.b k hk j hj
 obtain ⟨d1, d2, d3, d4⟩ := h.d
 rw [mv_g h.d' (fun j hj => by obtain ⟨a, b, c, e⟩ := h.b k hk j hj; exact ⟨by omega, by omega, by omega, by omega⟩) hj]
 unfold plusS
 exact ⟨by simp only; omega, by simp only; omega, by simp only; omega, by simp only; omega⟩
theorem mvp_grd (h : MvOk p d) {m : Int} (hg : GOk p.es p.cs m) {k : Nat} (hk : k < p.es.length) : grdN (mvP d p) m k = grdN p m k := by
 have hgr := mvp_gr h hg.m0 hg.m1
 have hg' : GOk (mvP d p).es (mvP d p).cs m := (gradedR_iff _ _ _).1 (hgr.2.trans ((gradedR_iff _ _ _).2 hg))
 have e : gE (gradedE (mvP d p).es (mvP d p).cs m) k = ((gE (gradedE p.es p.cs m) k).1, (gE (gradedE p.es p.cs m) k).2.map (moveS d)) := by rw [hgr.1, mvE_get (by rw [gradedE_len]; exact hk)]
 have hA : AllB (gE (gradedE p.es p.cs m) k).2 := (lcheck_zero (ocheck_line hg.ok' (i := k) (by rw [gradedE_len]; exact hk))).2.2
 have hB := (lcheck_zero (ocheck_line hg'.ok' (i := k) (by rw [gradedE_len]; simp only [mvP, mvE_len]; exact hk))).2.2
 rw [e] at hB
 unfold grdN
 rw [e]
 exact length_mv h.d' hA hB
theorem mvp_ok (h : MvOk p d) {m : Int} (hm : PlOk p m) : PlOk (mvP d p) m := by
 have hg := (gradedR_iff _ _ _).1 hm.g
 refine ⟨(mvp_gr h hg.m0 hg.m1).2.trans hm.g, hm.n, fun i hi => ?_⟩
 have hi' : i < p.ns.length := hi
 have hn := hm.i i hi'
 have hk : (gS p.ns i).1.toNat < p.es.length := by have := hn.e0; have := hn.e1; omega
 refine ⟨hn.e0, ?_, ?_, hn.a0, ?_⟩
 ·show (gS p.ns i).1 < ((mvE d p.es).length : Int)
  rw [mvE_len]; exact hn.e1
 ·show 1 ≤ baseN (mvP d p) (gS p.ns i).1.toNat
  rw [mvp_base h hk (h.m hk)]; exact hn.b1
 ·show (gS p.ns i).2 ≤ baseN (mvP d p) (gS p.ns i).1.toNat
  rw [mvp_base h hk (h.m hk)]; exact hn.a1
theorem mvp_plL (h : MvOk p d) {m : Int} (hm : PlOk p m) : plL (mvP d p) m = plL p m := by
 have hg := (gradedR_iff _ _ _).1 hm.g
 unfold plL plTo
 refine List.map_congr_left fun i hi => ?_
 have hi' : i < p.ns.length := List.mem_range.1 hi
 have hn := hm.i i hi'
 have hk : (gS p.ns i).1.toNat < p.es.length := by have := hn.e0; have := hn.e1; omega
 unfold plV
 show partV (baseN (mvP d p) (gS p.ns i).1.toNat) (grdN (mvP d p) m (gS p.ns i).1.toNat) false (gS p.ns i).2 = _
 rw [mvp_base h hk (h.m hk), mvp_grd h hg hk]
end
theorem PlOk.at {p : Pc} {m m' : Int} (h : PlOk p m) (hg : gradedR p.es p.cs m' = 0) : PlOk p m' := ⟨hg, h.n, fun i hi => ⟨(h.i i hi).e0, (h.i i hi).e1, (h.i i hi).b1, (h.i i hi).a0, (h.i i hi).a1⟩⟩
/- the image -/
def imP (q : Int) (d : Spot) (p : Pc) : Pc := mvP d (tnPc p q)
structure ImOk (p : Pc) (q : Int) (d : Spot) : Prop where
 d : inR 20000 d
 b : ∀ i, i < p.es.length → ∀ k, k < (gE p.es i).2.length → inR 20000 (gS (gE p.es i).2 k)
 we : WfE p.es
 wc : WfL p.cs
 a : plE p 0 = 0
 e : 0 < p.es.length
section
variable {p : Pc} {q : Int} {d : Spot}
theorem ImOk.mv (h : ImOk p q d) : MvOk (tnPc p q) d := by
 have h0 := plE_zero.1 h.a
 have ht := plE_zero.1 ((tn_E (q := q) h.we h.wc).2 h.a)
 refine ⟨h.d, fun i hi k hk => ?_, (gradedR_iff _ _ _).1 ht.g⟩
 have hi' : i < p.es.length := by have : (tnPc p q).es.length = p.es.length := turnE_len _ _ _; omega
 have e : (gE (tnPc p q).es i).2 = (gE p.es i).2.map (applyT false q) := tn_get hi'
 rw [e] at hk ⊢
 rw [List.length_map] at hk
 rw [gS_map hk]
 exact (inR_apply (by omega) (inR_wf (by omega) (h.b i hi' k hk)) false q).2 (h.b i hi' k hk)
theorem im_gradedR (h : ImOk p q d) {m : Int} (h0 : -100 ≤ m) (h1 : m ≤ 100) : gradedR (imP q d p).es (imP q d p).cs m = gradedR p.es p.cs m := by
 have e := (mvp_gr h.mv h0 h1).2
 have hg := (gradedR_iff _ _ _).1 (plE_zero.1 h.a).g
 exact e.trans (graded_val hg h0 h1 h.we h.wc)
theorem im_len (p : Pc) (q : Int) (d : Spot) : (imP q d p).es.length = p.es.length := by
 show (mvE d (turnE false q p.es)).length = _
 rw [mvE_len, turnE_len]
theorem im_line (h : ImOk p q d) {m : Int} (hg : GOk p.es p.cs m) {k : Nat} (hk : k < p.es.length) :
  (gE (gradedE (imP q d p).es (imP q d p).cs m) k).2 = ((gE (gradedE p.es p.cs m) k).2.map (applyT false q)).map (moveS d) := by
 have e1 := (mvp_gr h.mv hg.m0 hg.m1).1
 have e2 : gradedE (tnPc p q).es (tnPc p q).cs m = turnE false q (gradedE p.es p.cs m) := gradedE_turn' false q hg
 show (gE (gradedE (mvP d (tnPc p q)).es (mvP d (tnPc p q)).cs m) k).2 = _
 rw [e1, e2, mvE_get (by rw [turnE_len, gradedE_len]; exact hk)]
 simp only
 rw [tn_get (by rw [gradedE_len]; exact hk)]
theorem im_ok (h : ImOk p q d) {m : Int} (hg : GOk p.es p.cs m) : PlOk p m ∧ PlOk (imP q d p) m ∧ plL (imP q d p) m = plL p m ∧ ∀ k, k < p.es.length → grdN (imP q d p) m k = grdN p m k := by
 have h1 : PlOk p m := (plE_zero.1 h.a).at ((gradedR_iff _ _ _).2 hg)
 have h2 : PlOk (tnPc p q) m := (tn_ok h.we h.wc).2 h1
 refine ⟨h1, mvp_ok h.mv h2, (mvp_plL h.mv h2).trans ?_, fun k hk => ?_⟩
 ·unfold plL plTo
  refine List.map_congr_left fun i hi => ?_
  exact tn_plV h.we h1 (List.mem_range.1 hi)
 ·have hgt := (gradedR_iff _ _ _).1 h2.g
  have e := mvp_grd h.mv hgt (k := k) (by show k < (turnE false q p.es).length; rw [turnE_len]; exact hk)
  exact e.trans (tn_grd hg hk)
end
/- both of them in a style -/
structure PairAt (s : Sty) (p : Pc) (q : Int) (d : Spot) : Prop where
 ps : s.ps = [p, imP q d p]
 ss : s.ss = [⟨0, 0, 1, 0, false, 0⟩]
 ok : ImOk p q d
section
variable {s : Sty} {p : Pc} {q z : Int} {d : Spot}
theorem PairAt.pa (h : PairAt s p q d) : gPc s.ps 0 = p := by rw [h.ps]; rfl
theorem PairAt.pb (h : PairAt s p q d) : gPc s.ps 1 = imP q d p := by rw [h.ps]; rfl
theorem PairAt.sm' (h : PairAt s p q d) : gSm s.ss (Int.toNat 0) = ⟨0, 0, 1, 0, false, 0⟩ := by rw [h.ss]; rfl
theorem PairAt.sm (h : PairAt s p q d) : gSm s.ss 0 = ⟨0, 0, 1, 0, false, 0⟩ := by rw [h.ss]; rfl
theorem pair_lens (h : PairAt s p q d) (hz : sizeB s z = true) (hg : GOk p.es p.cs (gI s.ms z.toNat)) : lensV s z 0 = ((grdN p (gI s.ms z.toNat) 0 : Int), (grdN p (gI s.ms z.toNat) 0 : Int), 0) := by
 have h0 := (gradedR_iff _ _ _).2 hg
 have h1 := (im_gradedR h.ok hg.m0 hg.m1).trans h0
 have he : edgeB s 0 0 = true := by
  unfold edgeB
  refine decide_eq_true ⟨by omega, by rw [h.ps]; show (_ : Int) < 2; omega, by omega, ?_⟩
  show ((0 : Int)) < ((gPc s.ps 0).es.length : Int)
  rw [h.pa]; have := h.ok.e; omega
 have he' : edgeB s 1 0 = true := by
  unfold edgeB
  refine decide_eq_true ⟨by omega, by rw [h.ps]; show (_ : Int) < 2; omega, by omega, ?_⟩
  show ((0 : Int)) < ((gPc s.ps 1).es.length : Int)
  rw [h.pb, im_len]; have := h.ok.e; omega
 have hE : lensE s z 0 = 0 := by
  unfold lensE
  rw [if_neg (fun hc => hc ⟨hz, by omega, by rw [h.ss]; show (0 : Int) < 1; omega⟩), h.sm']
  simp only
  rw [if_neg (fun hc => hc ⟨he, he'⟩)]
  rw [show gPc s.ps (Int.toNat 0) = p from h.pa, show gPc s.ps (Int.toNat 1) = imP q d p from h.pb, if_neg (fun hc => hc h0), h1]
 unfold lensV
 rw [if_neg (fun hc => hc hE)]
 have eA : lensA s z 0 = grdN p (gI s.ms z.toNat) 0 := by
  unfold lensA lnN grdN
  rw [h.sm']
  simp only
  rw [show gPc s.ps (Int.toNat 0) = p from h.pa, if_neg (fun hc => hc h0)]
  rfl
 have eB : lensB s z 0 = grdN p (gI s.ms z.toNat) 0 := by
  have hd := (im_ok h.ok hg).2.2.2 0 h.ok.e
  unfold lensB lnN
  rw [h.sm']
  simp only
  rw [show gPc s.ps (Int.toNat 1) = imP q d p from h.pb, if_neg (fun hc => hc h1)]
  exact hd
 rw [eA, eB]
theorem pair_unm (h : PairAt s p q d) (hz : sizeB s z = true) (hg : GOk p.es p.cs (gI s.ms z.toNat)) : unmE s z = 0 ∧ unmL s z = [] := by
 have hL := pair_lens h hz hg
 obtain ⟨h1, h2, h3, h4⟩ := im_ok h.ok hg
 have hlen : s.ss.length = 1 := by rw [h.ss]; rfl
 have hA : sdA s z 0 = ⟨p.ns, plL p (gI s.ms z.toNat), 0, (grdN p (gI s.ms z.toNat) 0 : Int)⟩ := by
  unfold sdA
  show Sd.mk (gPc s.ps (gSm s.ss 0).pa.toNat).ns (plL (gPc s.ps (gSm s.ss 0).pa.toNat) (gI s.ms z.toNat)) (gSm s.ss 0).ea (lensV s z 0).1 = _
  rw [h.sm, hL]
  show Sd.mk (gPc s.ps 0).ns (plL (gPc s.ps 0) (gI s.ms z.toNat)) 0 _ = _
  rw [h.pa]
 have hB : sdB s z 0 = ⟨p.ns, plL p (gI s.ms z.toNat), 0, (grdN p (gI s.ms z.toNat) 0 : Int)⟩ := by
  unfold sdB
  show Sd.mk (gPc s.ps (gSm s.ss 0).pb.toNat).ns (plL (gPc s.ps (gSm s.ss 0).pb.toNat) (gI s.ms z.toNat)) (gSm s.ss 0).eb (lensV s z 0).2.1 = _
  rw [h.sm, hL]
  show Sd.mk (gPc s.ps 1).ns (plL (gPc s.ps 1) (gI s.ms z.toNat)) 0 _ = _
  rw [h.pb, h3]
  rfl
 constructor
 ·unfold unmE
  rw [if_neg (by rw [hz]; decide), hlen]
  refine (firstE_zero _ _).2 fun k hk => ?_
  obtain rfl : k = 0 := by omega
  unfold seamE
  rw [show lensV s z ((0 : Nat) : Int) = _ from hL, h.sm]
  simp only
  rw [if_neg (fun hc => hc rfl)]
  show (if plE (gPc s.ps 0) (gI s.ms z.toNat) ≠ 0 then plE (gPc s.ps 0) (gI s.ms z.toNat) else plE (gPc s.ps 1) (gI s.ms z.toNat)) = 0
  rw [h.pa, h.pb, plE_zero.2 h1, plE_zero.2 h2]
  simp
 ·have hn := self_none h1 (edge := 0) (by omega) (by have := h.ok.e; omega)
  unfold unmL unmTo
  rw [hlen]
  show (List.range 1).flatMap (seamIss s z) = []
  have : seamIss s z 0 = [] := by
   unfold seamIss
   rw [hA, hB, h.sm]
   simp only
   rw [show alnL ⟨p.ns, plL p (gI s.ms z.toNat), 0, (grdN p (gI s.ms z.toNat) 0 : Int)⟩ ⟨p.ns, plL p (gI s.ms z.toNat), 0, (grdN p (gI s.ms z.toNat) 0 : Int)⟩ false = [] from hn]
   rfl
  simp [List.range_succ, this]
end
theorem blk13 {t : TypeId} {w : World} {g : Nat} {v0 v1 v2 v3 v4 v5 v6 v7 v8 v9 v10 v11 v12 : Value} (h : Blk t w g [v0, v1, v2, v3, v4, v5, v6, v7, v8, v9, v10, v11, v12]) :
  w.cell? ⟨g, 0, none⟩ = some v0 ∧ w.cell? ⟨g, 1, none⟩ = some v1 ∧ w.cell? ⟨g, 2, none⟩ = some v2 ∧ w.cell? ⟨g, 3, none⟩ = some v3 ∧ w.cell? ⟨g, 4, none⟩ = some v4 ∧ w.cell? ⟨g, 5, none⟩ = some v5 ∧ w.cell? ⟨g, 6, none⟩ = some v6 ∧ w.cell? ⟨g, 7, none⟩ = some v7 ∧ w.cell? ⟨g, 8, none⟩ = some v8 ∧ w.cell? ⟨g, 9, none⟩ = some v9 ∧ w.cell? ⟨g, 10, none⟩ = some v10 ∧ w.cell? ⟨g, 11, none⟩ = some v11 ∧ w.cell? ⟨g, 12, none⟩ = some v12 :=
 ⟨h.cell 0, h.cell 1, h.cell 2, h.cell 3, h.cell 4, h.cell 5, h.cell 6, h.cell 7, h.cell 8, h.cell 9, h.cell 10, h.cell 11, h.cell 12⟩
structure JX where
 ln : List Spot
 st : Spot
 en : Spot
 f : Bool
 q : Int
 mv : Spot
 ap : Spot
 ms : List Int
 ns : List Int
structure JA where
 AL : Option Addr
 nL : Nat
 cL : Nat
 AM : Option Addr
 nM : Nat
 cM : Nat
 AN : Option Addr
 nN : Nat
 cN : Nat
abbrev JA.val (a : JA) (x : JX) : Value := .agg #[.slice a.AL a.nL a.cL, .int .i64 x.st.1, .int .i64 x.st.2, .int .i64 x.en.1, .int .i64 x.en.2, .bool x.f, .int .i64 x.q, .int .i64 x.mv.1, .int .i64 x.mv.2, .int .i64 x.ap.1, .int .i64 x.ap.2, .slice a.AM a.nM a.cM, .slice a.AN a.nN a.cN]
structure JAt (w : World) (a : JA) (x : JX) : Prop where
 l : SpotsAt w a.AL x.ln
 ll : x.ln.length = a.nL
 cl : a.nL ≤ a.cL
 cl' : a.cL ≤ 9223372036854775807
 m : IntsAt w a.AM x.ms
 lm : x.ms.length = a.nM
 bm : a.nM ≤ 9223372036854775807
 n : IntsAt w a.AN x.ns
 ln : x.ns.length = a.nN
 bn : a.nN ≤ 9223372036854775807
theorem JAt.ext {w w' : World} {a : JA} {x : JX} (h : JAt w a x) (he : Ext w w') : JAt w' a x := ⟨h.l.ext he, h.ll, h.cl, h.cl', h.m.ext he, h.lm, h.bm, h.n.ext he, h.ln, h.bn⟩
def JX.all (x : JX) : List Spot := x.ln ++ [x.ap, x.mv]
structure NearOk (x : JX) : Prop where
 l2 : 2 ≤ x.ln.length
 l6 : x.ln.length ≤ 6
 m5 : x.ms.length ≤ 5
 n4 : x.ns.length ≤ 4
 b : ∀ k, k < x.all.length → inR 5000 (gS x.all k)
/- the two pieces -/
def joinN : ByteArray := ⟨#[106, 111, 105, 110]⟩
def backN : ByteArray := ⟨#[98, 97, 99, 107]⟩
def oneN : ByteArray := ⟨#[111, 110, 101]⟩
def twoN : ByteArray := ⟨#[116, 119, 111]⟩
def pairN : ByteArray := ⟨#[112, 97, 105, 114]⟩
def JX.es (x : JX) : List Edge := [(joinN, x.ln), (backN, [gS x.ln (x.ln.length - 1), x.ap, gS x.ln 0])]
def JX.p (x : JX) : Pc := ⟨x.es, [x.st, x.en], [0, 0], x.ns.map fun a => ((0 : Int), a)⟩
def sizeN (i : Nat) : ByteArray := ⟨#[83, UInt8.ofNat (48 + i)]⟩
def JX.s (x : JX) : StyX := ⟨pairN, (List.range x.ms.length).map sizeN, x.ms, [⟨oneN, 1, x.p⟩, ⟨twoN, 1, imP x.q x.mv x.p⟩], [⟨0, 1, false⟩, ⟨1, 1, false⟩], [⟨0, 0, 1, 0, false, 0⟩], 0⟩
end Go.Proofs.YtfegbaokcbjllaaGreat
