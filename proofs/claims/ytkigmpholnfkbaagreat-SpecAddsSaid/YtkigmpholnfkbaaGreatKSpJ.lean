/- spec.Target, Judge, Within -/
import Derived.Test.YtkigmpholnfkbaaGreatKTnV
import Derived.Test.YtkigmpholnfkbaaGreatKSpQ
import Derived.Test.YtkigmpholnfkbaaGreatKSpC
/- plain: targets of a style whose pieces are turned without a flip, or moved. No program in sight. -/
namespace Go.Proofs.YtkigmpholnfkbaaGreat
open Go.RowKit
theorem styE_zero {x : StyX} (h : styE x = 0) : wholeE x = 0 ∧ (∀ k, k < x.ps.length → pieceE x.ps k = 0) ∧ (∀ k, k < x.us.length → useE x k = 0) ∧ ∀ k, k < x.ss.length → joinE x k = 0 := by
  unfold styE at h
  split at h
  · rename_i h1; exact absurd h h1
  rename_i h1
  split at h
  · rename_i h2; exact absurd h h2
  rename_i h2
  split at h
  · rename_i h3; exact absurd h h3
  rename_i h3
  exact ⟨Classical.not_not.1 h1, (firstE_zero _ _).1 (Classical.not_not.1 h2), (firstE_zero _ _).1 (Classical.not_not.1 h3), (firstE_zero _ _).1 h⟩
theorem styE_mk {x : StyX} (h1 : wholeE x = 0) (h2 : ∀ k, k < x.ps.length → pieceE x.ps k = 0) (h3 : ∀ k, k < x.us.length → useE x k = 0) (h4 : ∀ k, k < x.ss.length → joinE x k = 0) : styE x = 0 := by
  unfold styE
  rw [if_neg (fun h => h h1), if_neg (fun h => h ((firstE_zero _ _).2 h2)), if_neg (fun h => h ((firstE_zero _ _).2 h3))]
  exact (firstE_zero _ _).2 h4
/- what a piece in order gives -/
structure PxOk (X : PcX) : Prop where
  g : GOk X.p.es X.p.cs 0
  n : plE X.p 0 = 0
  w : X.p.ws.length = X.p.es.length
theorem pieceE_ok {l : List PcX} {k : Nat} (h : pieceE l k = 0) : PxOk (gPx l k) := by
  unfold pieceE at h
  split at h
  · cases h
  split at h
  · cases h
  split at h
  · cases h
  split at h
  · rename_i h1; exact absurd h h1
  rename_i h1
  split at h
  · rename_i h2; exact absurd h h2
  rename_i h2
  split at h
  · cases h
  rename_i h3
  exact ⟨(gradedR_iff _ _ _).1 (Classical.not_not.1 h1), Classical.not_not.1 h2, by omega⟩
theorem whole_ms {x : StyX} (h : wholeE x = 0) : x.ms.length = x.sz.length ∧ ∀ i, i < x.ms.length → -100 ≤ gI x.ms i ∧ gI x.ms i ≤ 100 := by
  unfold wholeE at h
  split at h
  · cases h
  split at h
  · cases h
  split at h
  · cases h
  rename_i h3
  split at h
  · cases h
  split at h
  · cases h
  split at h
  · cases h
  split at h
  · cases h
  rename_i h7
  exact ⟨by omega, fun i hi => of_decide_eq_true ((allB_iff _ _).1 (eq_true_of_ne_false h7) i hi)⟩
/- pieces replaced by others with the same names, grains, widths and numbers of edges -/
def mapX (x : StyX) (T : Pc → Pc) : StyX := ⟨x.nm, x.sz, x.ms, x.ps.map fun X => ⟨X.nm, X.gr, T X.p⟩, x.us, x.ss, x.no⟩
theorem mapX_get {x : StyX} {T : Pc → Pc} {k : Nat} (h : k < x.ps.length) : gPx (mapX x T).ps k = ⟨(gPx x.ps k).nm, (gPx x.ps k).gr, T (gPx x.ps k).p⟩ := by
  rw [gPx_eq (by simpa [mapX] using h), gPx_eq h]; simp [mapX]
theorem mapX_len (x : StyX) (T : Pc → Pc) : (mapX x T).ps.length = x.ps.length := by simp [mapX]
theorem mapX_edge {x : StyX} {T : Pc → Pc} (hT : ∀ k, k < x.ps.length → (T (gPx x.ps k).p).es.length = (gPx x.ps k).p.es.length) (a b : Int) : edgeB (mapX x T).s a b = edgeB x.s a b := by
  unfold edgeB
  rw [decide_eq_decide]
  have hl : (mapX x T).s.ps.length = x.s.ps.length := by simp [StyX.s, mapX]
  rw [hl]
  constructor
  · rintro ⟨h1, h2, h3, h4⟩
    have hk : a.toNat < x.ps.length := by simp [StyX.s] at h2; omega
    refine ⟨h1, h2, h3, ?_⟩
    have e1 : gPc (mapX x T).s.ps a.toNat = T (gPx x.ps a.toNat).p := by
      show gPc ((mapX x T).ps.map PcX.p) a.toNat = _
      rw [gPc_x (by rw [mapX_len]; exact hk), mapX_get hk]
    have e2 : gPc x.s.ps a.toNat = (gPx x.ps a.toNat).p := gPc_x hk
    rw [e1, hT _ hk] at h4
    rw [e2]; exact h4
  · rintro ⟨h1, h2, h3, h4⟩
    have hk : a.toNat < x.ps.length := by simp [StyX.s] at h2; omega
    refine ⟨h1, h2, h3, ?_⟩
    have e1 : gPc (mapX x T).s.ps a.toNat = T (gPx x.ps a.toNat).p := by
      show gPc ((mapX x T).ps.map PcX.p) a.toNat = _
      rw [gPc_x (by rw [mapX_len]; exact hk), mapX_get hk]
    have e2 : gPc x.s.ps a.toNat = (gPx x.ps a.toNat).p := gPc_x hk
    rw [e1, hT _ hk]
    rw [e2] at h4; exact h4
theorem mapX_spc {x : StyX} {T : Pc → Pc} (hT : ∀ k, k < x.ps.length → (T (gPx x.ps k).p).es.length = (gPx x.ps k).p.es.length) (h0 : styE x = 0) (h1 : styE (mapX x T) = 0) (l : List PomX) : spcE (mapX x T) l = spcE x l := by
  unfold spcE
  rw [h0, h1]
  have hp : ∀ i, i < l.length → pomE (mapX x T) l i = pomE x l i := fun i _ => by
    have ha : allB (pomRef (mapX x T) (gPm l i)) (gPm l i).ps.length = allB (pomRef x (gPm l i)) (gPm l i).ps.length := allB_congr fun j _ => by unfold pomRef; exact mapX_edge hT _ _
    unfold pomE; rw [ha]
  rw [firstE_congr hp]
/- turned -/
theorem tnX_piece {x : StyX} {q : Int} {k : Nat} (hk : k < x.ps.length) (hw : WfE (gPx x.ps k).p.es) (hc : WfL (gPx x.ps k).p.cs) (h : pieceE x.ps k = 0) : pieceE (mapX x fun p => tnPc p q).ps k = 0 := by
  have hok := pieceE_ok h
  have hg := graded_val (q := q) hok.g (m := 0) (by omega) (by omega) hw hc
  have hn : plE (tnPc (gPx x.ps k).p q) 0 = 0 := (tn_E hw hc).2 hok.n
  have hz : gradedR (gPx x.ps k).p.es (gPx x.ps k).p.cs 0 = 0 := (gradedR_iff _ _ _).2 hok.g
  have e := mapX_get (T := fun p => tnPc p q) hk
  have ha : (List.range k).any (fun j => decide ((gPx (mapX x fun p => tnPc p q).ps j).nm.data.toList = (gPx (mapX x fun p => tnPc p q).ps k).nm.data.toList)) = (List.range k).any (fun j => decide ((gPx x.ps j).nm.data.toList = (gPx x.ps k).nm.data.toList)) := by
    rw [e]
    rw [Bool.eq_iff_iff, List.any_eq_true, List.any_eq_true]
    constructor
    · rintro ⟨j, hj, hd⟩
      refine ⟨j, hj, ?_⟩
      have hj' := List.mem_range.1 hj
      rw [mapX_get (show j < x.ps.length by omega)] at hd
      exact hd
    · rintro ⟨j, hj, hd⟩
      refine ⟨j, hj, ?_⟩
      have hj' := List.mem_range.1 hj
      rw [mapX_get (show j < x.ps.length by omega)]
      exact hd
  unfold pieceE at h ⊢
  rw [ha, e]
  simp only
  have hE : (tnPc (gPx x.ps k).p q).es.length = (gPx x.ps k).p.es.length := turnE_len _ _ _
  have hR : gradedR (tnPc (gPx x.ps k).p q).es (tnPc (gPx x.ps k).p q).cs 0 = 0 := hg.trans hz
  rw [hR, hn, hE]
  rw [hz, hok.n] at h
  exact h
theorem tnX_ok {x : StyX} {q : Int} (hw : ∀ k, k < x.ps.length → WfE (gPx x.ps k).p.es ∧ WfL (gPx x.ps k).p.cs) (h : styE x = 0) : styE (mapX x fun p => tnPc p q) = 0 := by
  obtain ⟨h1, h2, h3, h4⟩ := styE_zero h
  have hT : ∀ k, k < x.ps.length → (tnPc (gPx x.ps k).p q).es.length = (gPx x.ps k).p.es.length := fun k _ => turnE_len _ _ _
  refine styE_mk ?_ (fun k hk => ?_) (fun k hk => ?_) (fun k hk => ?_)
  · unfold wholeE at h1 ⊢
    rw [mapX_len]; exact h1
  · rw [mapX_len] at hk
    exact tnX_piece hk (hw k hk).1 (hw k hk).2 (h2 k hk)
  · have := h3 k hk
    unfold useE at this ⊢
    rw [mapX_len]; exact this
  · have := h4 k hk
    unfold joinE at this ⊢
    rw [mapX_edge hT, mapX_edge hT]; exact this
theorem tn_grd {p : Pc} {q m : Int} (hg : GOk p.es p.cs m) {k : Nat} (hk : k < p.es.length) : grdN (tnPc p q) m k = grdN p m k := by
  unfold grdN
  show lengthN (gE (gradedE (turnE false q p.es) (turnC false q p.es.length p.cs) m) k).2 = _
  rw [gradedE_turn' false q hg, tn_get (by rw [gradedE_len]; exact hk)]
  obtain ⟨_, _, hin⟩ := lcheck_zero (ocheck_line hg.ok' (i := k) (by rw [gradedE_len]; exact hk))
  exact tn_len fun j hj => inB_wf (hin j hj)
theorem tnX_targ {x : StyX} {q z : Int} {p : PomX} (hw : ∀ k, k < x.ps.length → WfE (gPx x.ps k).p.es ∧ WfL (gPx x.ps k).p.cs) (h : styE x = 0) : targE (mapX x fun p => tnPc p q) p z = targE x p z ∧ targV (mapX x fun p => tnPc p q) p z = targV x p z := by
  have hT : ∀ k, k < x.ps.length → (tnPc (gPx x.ps k).p q).es.length = (gPx x.ps k).p.es.length := fun k _ => turnE_len _ _ _
  have hs := mapX_spc hT h (tnX_ok hw h) [p]
  obtain ⟨h1, h2, _, _⟩ := styE_zero h
  obtain ⟨m1, m2⟩ := whole_ms h1
  have hE : targE (mapX x fun p => tnPc p q) p z = targE x p z := by
    unfold targE
    rw [hs]
    by_cases c1 : spcE x [p] ≠ 0
    · rw [if_pos c1, if_pos c1]
    rw [if_neg c1, if_neg c1]
    by_cases c2 : z < 0 ∨ (x.sz.length : Int) ≤ z
    · rw [if_pos c2, if_pos (show z < 0 ∨ ((mapX x fun p => tnPc p q).sz.length : Int) ≤ z from c2)]
    rw [if_neg c2, if_neg (show ¬ (z < 0 ∨ ((mapX x fun p => tnPc p q).sz.length : Int) ≤ z) from c2)]
    obtain ⟨_, hp⟩ := spcE_one.1 (Classical.not_not.1 c1)
    unfold tgE
    refine firstE_congr fun k hk => ?_
    have he := edgeB_iff (hp.rf k hk)
    have hk' : (gI p.ps k).toNat < x.ps.length := by have := he.2.1; simp [StyX.s] at this; omega
    unfold tgR
    rw [mapX_get hk']
    have hm := m2 z.toNat (by omega)
    exact graded_val (pieceE_ok (h2 _ hk')).g hm.1 hm.2 (hw _ hk').1 (hw _ hk').2
  refine ⟨hE, ?_⟩
  unfold targV
  rw [hE]
  by_cases c1 : targE x p z ≠ 0
  · rw [if_pos c1, if_pos c1]
  rw [if_neg c1, if_neg c1]
  obtain ⟨t1, t2, t3⟩ := targE_zero.1 (Classical.not_not.1 c1)
  obtain ⟨_, hp⟩ := spcE_one.1 t1
  rw [tgTo_sum, tgTo_sum]
  rw [sumN_congr (n := p.ps.length) (g := tgN (mapX x fun p => tnPc p q) p (gI (mapX x fun p => tnPc p q).ms z.toNat)) (h := tgN x p (gI x.ms z.toNat)) (fun k hk => ?_) _ (Nat.le_refl _)]
  have he := edgeB_iff (hp.rf k hk)
  have hk' : (gI p.ps k).toNat < x.ps.length := by have := he.2.1; simp [StyX.s] at this; omega
  unfold tgN
  rw [mapX_get hk']
  have e2 : gPc x.s.ps (gI p.ps k).toNat = (gPx x.ps (gI p.ps k).toNat).p := gPc_x hk'
  have h4 := he.2.2.2
  rw [e2] at h4
  exact tn_grd ((gradedR_iff _ _ _).1 (t3 k hk)) (by have := he.2.2.1; omega)
/- moved: every vertex by the same -/
def mvE (d : Spot) (es : List Edge) : List Edge := es.map fun e => (e.1, e.2.map (moveS d))
def mvP (d : Spot) (p : Pc) : Pc := ⟨mvE d p.es, p.cs, p.ws, p.ns⟩
theorem mvE_get {d : Spot} {es : List Edge} {k : Nat} (h : k < es.length) : gE (mvE d es) k = ((gE es k).1, (gE es k).2.map (moveS d)) := by
  unfold mvE gE; simp [h]
theorem mvE_len (d : Spot) (es : List Edge) : (mvE d es).length = es.length := by simp [mvE]
theorem mvS_shift {l : List Spot} {a b d : Spot} {k : Nat} (h : lcheck l = 0) (ha : inR 100000 a) (hb : inR 100000 b) (hd : inR 1000 d) (hl' : lcheck (l.map (moveS d)) = 0) (hk : k < l.length) :
    mvS (l.map (moveS d)) a b k = ((mvS l a b k).1 + d.1, (mvS l a b k).2 + d.2) := by
  obtain ⟨h2, _, hin⟩ := lcheck_zero h
  obtain ⟨_, _, hin'⟩ := lcheck_zero hl'
  obtain ⟨c1, c2, c3, c4⟩ := hin k hk
  obtain ⟨d1, d2, d3, d4⟩ := hd
  have e : gS (l.map (moveS d)) k = ((gS l k).1 + d.1, (gS l k).2 + d.2) := by
    rw [gS_map hk]
    unfold moveS
    rw [w64 (by omega) (by omega), w64 (by omega) (by omega)]
  obtain ⟨g1, g2, g3, g4⟩ := hin' k (by simpa using hk)
  rw [e] at g1 g2 g3 g4
  simp only at g1 g2 g3 g4
  obtain ⟨a1, a2, a3, a4⟩ := ha
  obtain ⟨b1, b2, b3, b4⟩ := hb
  unfold mvS
  rw [e, List.length_map]
  simp only
  have hs : (1 : Int) ≤ (l.length : Int) - 1 := by omega
  rw [mvx_eq hs (by omega) (by omega) ⟨a1, a2⟩ ⟨b1, b2⟩ ⟨g1, g2⟩, mvx_eq hs (by omega) (by omega) ⟨a3, a4⟩ ⟨b3, b4⟩ ⟨g3, g4⟩, mvx_eq hs (by omega) (by omega) ⟨a1, a2⟩ ⟨b1, b2⟩ ⟨c1, c2⟩, mvx_eq hs (by omega) (by omega) ⟨a3, a4⟩ ⟨b3, b4⟩ ⟨c3, c4⟩]
  refine Prod.ext ?_ ?_ <;> simp only <;> omega
theorem mv_grd {p : Pc} {m : Int} {d : Spot} {k : Nat} (h : GOk p.es p.cs m) (h' : GOk (mvP d p).es (mvP d p).cs m) (hd : inR 1000 d) (hk : k < p.es.length) : grdN (mvP d p) m k = grdN p m k := by
  have hk' : k < (mvP d p).es.length := by simp only [mvP, mvE_len]; exact hk
  have hl := ocheck_line h.ok hk
  have hl' := ocheck_line h'.ok hk'
  have hg := ocheck_line h.ok' (i := k) (by rw [gradedE_len]; exact hk)
  have hg' := ocheck_line h'.ok' (i := k) (by rw [gradedE_len]; exact hk')
  have eG : (gE (mvP d p).es k).2 = (gE p.es k).2.map (moveS d) := by simp only [mvP]; rw [mvE_get hk]
  rw [eG] at hl'
  have hn : 0 < p.cs.length := by have := h.len; omega
  have hcb := (cornF_iff p.cs).1 h.corn
  have A := (mulS_R h.m0 h.m1 (hcb (k % p.cs.length) (Nat.mod_lt _ hn))).2
  have B := (mulS_R h.m0 h.m1 (hcb ((k + 1) % p.cs.length) (Nat.mod_lt _ hn))).2
  have e1 : (gE (gradedE p.es p.cs m) k).2 = movedS (gE p.es k).2 (mulS m (gS p.cs (k % p.cs.length))) (mulS m (gS p.cs ((k + 1) % p.cs.length))) := by rw [gradedE_get hk]; rfl
  have e2 : (gE (gradedE (mvP d p).es (mvP d p).cs m) k).2 = movedS ((gE p.es k).2.map (moveS d)) (mulS m (gS p.cs (k % p.cs.length))) (mulS m (gS p.cs ((k + 1) % p.cs.length))) := by
    rw [gradedE_get hk']; unfold gradedAt; rw [eG]; rfl
  obtain ⟨h2, _, _⟩ := lcheck_zero hl
  unfold grdN lengthN
  rw [if_neg (fun hc => hc hg'), if_neg (fun hc => hc hg), e1, e2, movedS_len, movedS_len, List.length_map, lenTo_sum, lenTo_sum]
  refine sumN_congr (n := (gE p.es k).2.length - 1) (fun j hj => ?_) _ (Nat.le_refl _)
  rw [movedS_g (show j < ((gE p.es k).2.map (moveS d)).length by rw [List.length_map]; omega), movedS_g (show j + 1 < ((gE p.es k).2.map (moveS d)).length by rw [List.length_map]; omega), movedS_g (show j < (gE p.es k).2.length by omega), movedS_g (show j + 1 < (gE p.es k).2.length by omega)]
  rw [mvS_shift hl A B hd hl' (by omega), mvS_shift hl A B hd hl' (by omega)]
  generalize mvS (gE p.es k).2 _ _ j = u
  generalize mvS (gE p.es k).2 _ _ (j + 1) = v
  unfold seg sqN
  simp only
  rw [show v.1 + d.1 - (u.1 + d.1) = v.1 - u.1 by omega, show v.2 + d.2 - (u.2 + d.2) = v.2 - u.2 by omega]
theorem mvX_targ {x : StyX} {z : Int} {p : PomX} {d : Spot} (hd : inR 1000 d) (h0 : targE x p z = 0) (h1 : targE (mapX x (mvP d)) p z = 0) : targV (mapX x (mvP d)) p z = targV x p z := by
  obtain ⟨t1, t2, t3⟩ := targE_zero.1 h0
  obtain ⟨_, _, u3⟩ := targE_zero.1 h1
  obtain ⟨_, hp⟩ := spcE_one.1 t1
  unfold targV
  rw [if_neg (fun h => h h1), if_neg (fun h => h h0), tgTo_sum, tgTo_sum]
  rw [sumN_congr (n := p.ps.length) (g := tgN (mapX x (mvP d)) p (gI (mapX x (mvP d)).ms z.toNat)) (h := tgN x p (gI x.ms z.toNat)) (fun k hk => ?_) _ (Nat.le_refl _)]
  have he := edgeB_iff (hp.rf k hk)
  have hk' : (gI p.ps k).toNat < x.ps.length := by have := he.2.1; simp [StyX.s] at this; omega
  have e2 : gPc x.s.ps (gI p.ps k).toNat = (gPx x.ps (gI p.ps k).toNat).p := gPc_x hk'
  have h4 := he.2.2.2
  rw [e2] at h4
  have u := u3 k hk
  unfold tgR at u
  rw [mapX_get hk'] at u
  unfold tgN
  rw [mapX_get hk']
  exact mv_grd ((gradedR_iff _ _ _).1 (t3 k hk)) ((gradedR_iff _ _ _).1 u) hd (by have := he.2.2.1; omega)
end Go.Proofs.YtkigmpholnfkbaaGreat
/- spec.target, Target -/
namespace Go.Proofs.YtkigmpholnfkbaaGreat
open Go.RowKit
theorem tgN_bd (x : StyX) (p : PomX) (m : Int) (k : Nat) : tgN x p m k ≤ 1000000000000 := by unfold tgN grdN; exact lengthN_bd _
theorem tgTo_bd (x : StyX) (p : PomX) (m : Int) : ∀ k, tgTo x p m k ≤ k * 1000000000000
  | 0 => Nat.zero_le _
  | k + 1 => by have := tgTo_bd x p m k; have := tgN_bd x p m k; unfold tgTo; omega
def RetTg (w : World) (v r : Int) (e : Ending) (w' : World) : Prop := e = .returned (.tuple #[.int .i64 v, .int .i64 r]) ∧ Ext w w'
theorem tgV_ok {x : StyX} {p : PomX} {m : Int} (h : tgE x p m = 0) : tgV x p m = (tgTo x p m p.ps.length : Int) := by unfold tgV; rw [if_neg (fun h' => h' h)]
theorem tgV_bad {x : StyX} {p : PomX} {m : Int} (h : tgE x p m ≠ 0) : tgV x p m = 0 := by unfold tgV; rw [if_pos h]
set_option maxRecDepth 100000 in
set_option maxHeartbeats 3200000 in
theorem target_any (a : StyA) (x : StyX) (q : PomA) (p : PomX) (m : Int) (w : World) (hs : StyXAt w a x) (hp : PomAt w q p) (hes : p.es.length = p.ps.length) (h16 : p.ps.length ≤ 16)
    (hrf : ∀ k, k < p.ps.length → edgeB x.s (gI p.ps k) (gI p.es k) = true) :
    Calls Tryz.prog 35 #[a.val, q.val, .int .i64 m] w (RetTg w (tgV x p m) (tgE x p m)) := by
  have HS := Lib.hid hs
  have HP := Lib.hid hp
  have HRF := Lib.hid hrf
  clear hs hp hrf
  obtain ⟨nm, AS, nS, cS, AM, nM, cM, AP, nP, cP, AU, nU, cU, AK, nK, cK, AO, nO, cO⟩ := a
  have HLP : Hid (x.ps.length = nP) := HS.out.lP
  have hbP : nP ≤ 9223372036854775807 := HS.out.bP
  have HPS := Lib.hid HS.out.P
  clear HS
  obtain ⟨pn, pAP, pnP, pcP, pAE, pnE, pcE, ppl, pmi⟩ := q
  have HQP : Hid (p.ps.length = pnP) := HP.out.lP
  have HQE : Hid (p.es.length = pnE) := HP.out.lE
  have HQA := Lib.hid HP.out.P
  have HQB := Lib.hid HP.out.E
  have hn16 : pnP ≤ 16 := by have := HQP.out; omega
  obtain rfl : pnP = pnE := by have := HQP.out; have := HQE.out; omega
  clear HP hes h16
  simp only [StyA.val, PomA.val] at HPS HQA HQB ⊢
  go_enter Tryz.func35, Tryz.ntmps35
  go_upto_region 1 with fail
  refine wp_at fun W0 hW0 => ?_
  have HB0 : Hid (Blk 29 W0 w.heap.size [.string nm, .slice AS nS cS, .slice AM nM cM, .slice AP nP cP, .slice AU nU cU, .slice AK nK cK, .slice AO nO cO]) := by show Blk _ _ _ _; rw [hW0]; exact (Blk.new' rfl).ext ((Ext.refl _).alloc _)
  have HN0 : Hid (Blk 36 W0 (w.heap.size + 1) [.string pn, .slice pAP pnP pcP, .slice pAE pnP pcE, .int .i64 ppl, .int .i64 pmi]) := by show Blk _ _ _ _; rw [hW0]; exact Blk.new' (by simp)
  have HX0 : Hid (Ext w W0) := by show Ext _ _; rw [hW0]; exact ((Ext.refl _).alloc _).alloc _
  clear hW0
  obtain ⟨a0, a1, a2, a3, a4⟩ := blk5 HN0.out
  go_wp2_with fail
  clear a0 a1 a2 a3 a4
  go_loopw [8, 17] (fun s i wr => ∃ k : Nat, k ≤ pnP ∧ i = .int .i64 k ∧ s = .int .i64 (tgTo x p m k : Int) ∧ firstE (tgR x p m) k = 0 ∧ Ext W0 wr) (fun _ i _ => pnP - (intOf i).toNat)
  case atStart => exact ⟨0, Nat.zero_le _, rfl, rfl, rfl, Ext.refl _⟩
  case round =>
    obtain ⟨k, hk, rfl, rfl, hall, hx⟩ := hrel
    have HALL := Lib.hid hall; have HX := Lib.hid hx; clear hall hx
    have hbd := tgTo_bd x p m k
    have HTS : Hid (tgTo x p m (k + 1) = tgTo x p m k + tgN x p m k) := rfl
    obtain ⟨S, hS⟩ : ∃ S, S = tgTo x p m k := ⟨_, rfl⟩
    rw [← hS] at hbd HTS ⊢
    have hSb : S ≤ 16000000000000 := by omega
    have HSS := Lib.hid hS
    clear hbd hS
    by_cases hlt : k < pnP
    rotate_left
    · obtain rfl : k = pnP := by omega
      have HE : Hid (tgE x p m = 0) := by show _ = _; unfold tgE; rw [HQP.out]; exact HALL.out
      go_wp2_with fail
      go_ret2
      exact ⟨by rw [tgV_ok HE.out, HE.out, HQP.out, ← HSS.out]; rfl, HX0.out.trans HX.out⟩
    have HKL : Hid (k < p.ps.length) := by show _ < _; rw [HQP.out]; exact hlt
    obtain ⟨bi, oi, hAI, i0⟩ := (HQA.out.ext (HX0.out.trans HX.out)).g (k := k) HKL.out
    subst hAI
    have hed := HRF.out k HKL.out
    unfold edgeB at hed
    have hed' := of_decide_eq_true hed
    clear hed
    have HTR : Hid (tgR x p m k = gradedR (gPx x.ps (gI p.ps k).toNat).p.es (gPx x.ps (gI p.ps k).toNat).p.cs m) := rfl
    have HTN : Hid (tgN x p m k = lengthN (gE (gradedE (gPx x.ps (gI p.ps k).toNat).p.es (gPx x.ps (gI p.ps k).toNat).p.cs m) (gI p.es k).toNat).2) := rfl
    obtain ⟨pc, hpc⟩ : ∃ pc, pc = gI p.ps k := ⟨_, rfl⟩
    obtain ⟨ed, hed⟩ : ∃ ed, ed = gI p.es k := ⟨_, rfl⟩
    rw [← hpc] at i0 hed' HTR HTN
    rw [← hed] at hed' HTN
    have HED := Lib.hid hed
    clear hpc hed
    obtain ⟨q0, q1, q2, q3⟩ := hed'
    obtain ⟨PC, rfl⟩ := Int.eq_ofNat_of_zero_le q0
    obtain ⟨ED, rfl⟩ := Int.eq_ofNat_of_zero_le q2
    rw [sps_len, HLP.out] at q1
    have hPC : PC < nP := by omega
    have HPCL : Hid (PC < x.ps.length) := by show _ < _; rw [HLP.out]; exact hPC
    rw [Int.toNat_natCast, sps_get HPCL.out] at q3
    rw [Int.toNat_natCast] at HTR HTN
    rw [Int.toNat_natCast] at HTN
    obtain ⟨bz, oz, qa, hAZ, hq, hcq, hzz1, hzz2⟩ := (HPS.out.ext (HX0.out.trans HX.out)) PC HPCL.out
    subst hAZ
    clear hzz1 hzz2
    obtain ⟨es, hes⟩ : ∃ es, es = (gPx x.ps PC).p.es := ⟨_, rfl⟩
    obtain ⟨cs, hcs⟩ : ∃ cs, cs = (gPx x.ps PC).p.cs := ⟨_, rfl⟩
    have HGR := Lib.hid (fun W (h : Ext wr W) => graded_any qa.nm qa.AE qa.AN qa.AC qa.AW qa.nE qa.cE qa.nN qa.cN qa.nC qa.cC qa.nW qa.cW qa.gr m qa.mt es cs W (by rw [hes]; exact hq.e.ext h) (by rw [hes]; exact hq.le) hq.ce hq.ce' (by rw [hcs]; exact hq.c.ext h) (by rw [hcs]; exact hq.lc) hq.nc)
    have HLZ : Hid (es.length = qa.nE) := by show _ = _; rw [hes]; exact hq.le
    rw [← hes] at q3 HTR HTN
    rw [← hcs] at HTR HTN
    clear hq hes hcs
    obtain ⟨znm, zAE, znE, zcE, zgr, zAN, znN, zcN, zAC, znC, zcC, zAW, znW, zcW, zmt⟩ := qa
    obtain ⟨d0, d1, d2, d3, d4, d5, d6⟩ := hcq
    simp only at d0 d1 d2 d3 d4 d5 d6 HGR HLZ
    rw [HLZ.out] at q3
    have hED : ED < znE := by omega
    obtain ⟨c0, c1, c2, c3, c4, c5, c6⟩ := blk7 (HB0.out.ext HX.out)
    clear q0 q1 q2 q3
    go_wp2_with fail
    refine (HGR.out _ (Ext.refl _)).mono ?_
    rintro e w1 ⟨v1, rfl, hv, hv', he1⟩
    have HX1 := Lib.hid (HX.out.trans he1)
    clear he1 c0 c1 c2 c3 c4 c5 c6 d0 d1 d2 d3 d4 d5 d6 HGR i0
    by_cases hz : gradedR es cs m = 0
    rotate_left
    · have hvf := hv' hz
      subst hvf
      have hzb : (gradedR es cs m != 0) = true := by simp [hz]
      have HE : Hid (tgE x p m = gradedR es cs m) := by show _ = _; unfold tgE; rw [firstE_at HKL.out HALL.out (by rw [HTR.out]; exact hz), HTR.out]
      obtain ⟨R, hR⟩ : ∃ R, R = gradedR es cs m := ⟨_, rfl⟩
      rw [← hR] at hz hzb HE ⊢
      have HZ := Lib.hid hz
      clear hv hv' hz hR
      go_wp2_with fail
      go_ret2
      exact ⟨by rw [tgV_bad (by rw [HE.out]; exact HZ.out), HE.out]; rfl, HX0.out.trans HX1.out⟩
    have hO := hv hz
    have HLC := Lib.hid (graded_lines hz (show ED < es.length by rw [HLZ.out]; exact hED))
    have HTZ : Hid (tgR x p m k = 0) := by show _ = _; rw [HTR.out]; exact hz
    obtain ⟨A1, c1', hvf, hE1, _, _⟩ := OwnE.slice' (n := znE) hO (by rw [gradedE_len]; exact HLZ.out)
    subst hvf
    obtain ⟨bg, og, LG, cG, hA1, _, g1, hSG, _, _⟩ := hE1.g (k := ED) (by rw [gradedE_len, HLZ.out]; exact hED)
    subst hA1
    obtain ⟨lg, hlg⟩ : ∃ lg, lg = (gE (gradedE es cs m) ED).2 := ⟨_, rfl⟩
    rw [← hlg] at g1 hSG HLC HTN
    obtain ⟨ng, hng⟩ : ∃ ng, ng = lg.length := ⟨_, rfl⟩
    rw [← hng] at g1
    rw [hz]
    have HNG := Lib.hid hng; have HSG := Lib.hid hSG
    clear hv hv' hz hO hE1 hlg hng hSG HTR
    obtain ⟨a0, a1, a2, a3, a4⟩ := blk5 (HN0.out.ext HX1.out)
    obtain ⟨be, oe, hAE, e0⟩ := (HQB.out.ext (HX0.out.trans HX1.out)).g (k := k) (by rw [HQE.out]; exact hlt)
    subst hAE
    rw [← HED.out] at e0
    go_wp2_with fail
    refine (length_any LG ng cG lg _ HSG.out HNG.out.symm).mono ?_
    rintro e w2 ⟨rfl, he2⟩
    rw [HLC.out]
    have HX2 := Lib.hid (HX1.out.trans he2)
    have hnb := tgN_bd x p m k
    rw [HTN.out] at hnb
    have HTS' : Hid (tgTo x p m (k + 1) = S + lengthN lg) := by show _ = _; rw [HTS.out, HTN.out]
    obtain ⟨LN, hLN⟩ : ∃ LN, LN = lengthN lg := ⟨_, rfl⟩
    rw [← hLN] at hnb HTS' ⊢
    clear he2 a0 a1 a2 a3 a4 g1 e0 hLN
    go_wp2_with fail
    go_roundw
    case rel => exact ⟨k + 1, by omega, by go_num, by rw [HTS'.out]; go_num, firstE_succ HALL.out HTZ.out, HX2.out⟩
    case measure => simp [intOf]; omega
end Go.Proofs.YtkigmpholnfkbaaGreat
namespace Go.Proofs.YtkigmpholnfkbaaGreat
open Go.RowKit
theorem gPm_one (p : PomX) : gPm [p] 0 = p := rfl
theorem poms_one {w : World} {g : Nat} {q : PomA} {p : PomX} (h : Blk 36 w g (PomA.cells q)) (hp : PomAt w q p) : PomsAt w (some ⟨g, 0, none⟩) [p] := fun k hk => by
  obtain rfl : k = 0 := by simpa using hk
  obtain ⟨c0, c1, c2, c3, c4⟩ := blk5 h
  exact ⟨g, 0, q, rfl, hp, c0, c1, c2, c3, c4⟩
theorem targ_1 {x : StyX} {p : PomX} {z : Int} (h : spcE x [p] ≠ 0) : targE x p z = spcE x [p] ∧ targV x p z = 0 := by
  have e : targE x p z = spcE x [p] := by unfold targE; rw [if_pos h]
  refine ⟨e, ?_⟩
  unfold targV; rw [e, if_pos h]
theorem targ_2 {x : StyX} {p : PomX} {z : Int} (h : spcE x [p] = 0) (hz : z < 0 ∨ (x.sz.length : Int) ≤ z) : targE x p z = 3 ∧ targV x p z = 0 := by
  have e : targE x p z = 3 := by unfold targE; rw [if_neg (fun h' => h' h), if_pos hz]
  refine ⟨e, ?_⟩
  unfold targV; rw [e, if_pos (by decide)]
theorem targ_3 {x : StyX} {p : PomX} {z : Int} (h : spcE x [p] = 0) (hz : ¬ (z < 0 ∨ (x.sz.length : Int) ≤ z)) : targE x p z = tgE x p (gI x.ms z.toNat) ∧ targV x p z = tgV x p (gI x.ms z.toNat) := by
  have e : targE x p z = tgE x p (gI x.ms z.toNat) := by unfold targE; rw [if_neg (fun h' => h' h), if_neg hz]
  refine ⟨e, ?_⟩
  unfold targV tgV; rw [e]
theorem sty_ms {x : StyX} (h : styE x = 0) : x.ms.length = x.sz.length := (whole_ms (styE_zero h).1).1
set_option maxRecDepth 100000 in
set_option maxHeartbeats 3200000 in
theorem targX_any (a : StyA) (x : StyX) (q : PomA) (p : PomX) (z : Int) (w : World) (hs : StyXAt w a x) (hN : x.sz.length ≤ 1000) (hZ : ∀ k, k < x.sz.length → (gB x.sz k).size ≤ 1000) (hp : PomAt w q p) :
    Calls Tryz.prog 15 #[a.val, q.val, .int .i64 z] w (RetTg w (targV x p z) (targE x p z)) := by
  have HS := Lib.hid hs
  have HQ := Lib.hid hp
  have HCC := Lib.hid (fun W g (h : Ext w W) (hb : Blk 36 W g (PomA.cells q)) => spCheck_any a x (some ⟨g, 0, none⟩) 1 1 [p] W (hs.ext h) hN hZ (poms_one hb (hp.ext h)) rfl (Nat.le_refl _) (by omega))
  have HCT := Lib.hid (fun (hok : PomOk x p) W m (h : Ext w W) => target_any a x q p m W (hs.ext h) (hp.ext h) hok.le hok.n1 hok.rf)
  clear hs hp hN hZ
  obtain ⟨nm, AS, nS, cS, AM, nM, cM, AP, nP, cP, AU, nU, cU, AK, nK, cK, AO, nO, cO⟩ := a
  have HLS : Hid (x.sz.length = nS) := HS.out.lS
  have HLM : Hid (x.ms.length = nM) := HS.out.lM
  have HMS := Lib.hid HS.out.M
  have hbS : nS ≤ 9223372036854775807 := HS.out.bS
  clear HS HQ
  obtain ⟨pn, pAP, pnP, pcP, pAE, pnE, pcE, ppl, pmi⟩ := q
  simp only [StyA.val, PomA.val, PomA.cells] at HMS HCC HCT ⊢
  have HT1 := Lib.hid (@targ_1 x p z)
  have HT2 := Lib.hid (@targ_2 x p z)
  have HT3 := Lib.hid (@targ_3 x p z)
  have HS1 := Lib.hid (@spcE_one x p)
  obtain ⟨TE, hTE⟩ : ∃ y, y = targE x p z := ⟨_, rfl⟩
  obtain ⟨TV, hTV⟩ : ∃ y, y = targV x p z := ⟨_, rfl⟩
  rw [← hTE, ← hTV] at HT1 HT2 HT3 ⊢
  clear hTE hTV
  go_enter Tryz.func15, Tryz.ntmps15
  go_wp2_with fail
  refine (HCC.out _ (w.heap.size + 1 + 1) ((((Ext.refl _).alloc _).alloc _).alloc _) (Blk.new' (by simp))).mono ?_
  rintro e w1 ⟨rfl, he1⟩
  have HB1 : Hid (Blk 29 w1 w.heap.size [.string nm, .slice AS nS cS, .slice AM nM cM, .slice AP nP cP, .slice AU nU cU, .slice AK nK cK, .slice AO nO cO]) := (((Blk.new' rfl).ext ((Ext.refl _).alloc _)).ext ((Ext.refl _).alloc _)).ext he1
  have HN1 : Hid (Blk 36 w1 (w.heap.size + 1) [.string pn, .slice pAP pnP pcP, .slice pAE pnE pcE, .int .i64 ppl, .int .i64 pmi]) := ((Blk.new' (by simp)).ext ((Ext.refl _).alloc _)).ext he1
  have HX1 : Hid (Ext w w1) := ((((Ext.refl _).alloc _).alloc _).alloc _).trans he1
  clear he1 HCC
  obtain ⟨SP, hSP⟩ : ∃ y, y = spcE x [p] := ⟨_, rfl⟩
  rw [← hSP] at HT1 HT2 HT3 HS1 ⊢
  clear hSP
  by_cases hz : SP = 0
  rotate_left
  · have HR := Lib.hid (HT1.out hz)
    have hzb : (SP != 0) = true := by simp [hz]
    clear hz
    go_wp2_with fail
    go_ret2
    exact ⟨by rw [HR.out.1, HR.out.2]; rfl, HX1.out⟩
  obtain ⟨hse, hok⟩ := HS1.out.1 hz
  have HML : Hid (nM = nS) := by show _ = _; rw [← HLM.out, ← HLS.out]; exact sty_ms hse
  have HCU := Lib.hid (HCT.out hok)
  have HT2' := Lib.hid (HT2.out hz)
  have HT3' := Lib.hid (HT3.out hz)
  rw [HLS.out] at HT2' HT3'
  subst hz
  clear HT1 HT2 HT3 HS1 HCT hse hok
  obtain ⟨c0, c1, c2, c3, c4, c5, c6⟩ := blk7 HB1.out
  by_cases g0 : z < 0
  · have HR := Lib.hid (HT2'.out (Or.inl g0))
    go_wp2_with fail
    go_ret2
    exact ⟨by rw [HR.out.1, HR.out.2]; rfl, HX1.out⟩
  by_cases g1 : (nS : Int) ≤ z
  · have HR := Lib.hid (HT2'.out (Or.inr g1))
    go_wp2_with fail
    go_ret2
    exact ⟨by rw [HR.out.1, HR.out.2]; rfl, HX1.out⟩
  have HR := Lib.hid (HT3'.out (by omega))
  clear HT2' HT3'
  obtain ⟨Z, rfl⟩ := Int.eq_ofNat_of_zero_le (show 0 ≤ z by omega)
  rw [Int.toNat_natCast] at HR
  have hZM : Z < nM := by have := HML.out; omega
  obtain ⟨bm, om, hAM, m0⟩ := (HMS.out.ext HX1.out).g (k := Z) (by rw [HLM.out]; exact hZM)
  subst hAM
  obtain ⟨M, hM⟩ : ∃ M, M = gI x.ms Z := ⟨_, rfl⟩
  rw [← hM] at m0 HR
  clear hM
  obtain ⟨a0, a1, a2, a3, a4⟩ := blk5 HN1.out
  obtain ⟨ME, hME⟩ : ∃ y, y = tgE x p M := ⟨_, rfl⟩
  obtain ⟨MV, hMV⟩ : ∃ y, y = tgV x p M := ⟨_, rfl⟩
  rw [← hME, ← hMV] at HR
  have HCV : Hid (∀ W, Ext w1 W → Calls Tryz.prog 35 #[.agg #[.string nm, .slice AS nS cS, .slice (some ⟨bm, om, none⟩) nM cM, .slice AP nP cP, .slice AU nU cU, .slice AK nK cK, .slice AO nO cO], .agg #[.string pn, .slice pAP pnP pcP, .slice pAE pnE pcE, .int .i64 ppl, .int .i64 pmi], .int .i64 M] W fun e w' => e = .returned (.tuple #[.int .i64 MV, .int .i64 ME]) ∧ Ext W w') := fun W h => by
    rw [hME, hMV]; exact HCU.out W M (HX1.out.trans h)
  clear hME hMV HCU
  have z0 := fun z : After w1 => After.cell c0 z
  have z1 := fun z : After w1 => After.cell c1 z
  have z2 := fun z : After w1 => After.cell c2 z
  have z3 := fun z : After w1 => After.cell c3 z
  have z4 := fun z : After w1 => After.cell c4 z
  have z5 := fun z : After w1 => After.cell c5 z
  have z6 := fun z : After w1 => After.cell c6 z
  have y0 := fun z : After w1 => After.cell a0 z
  have y1 := fun z : After w1 => After.cell a1 z
  have y2 := fun z : After w1 => After.cell a2 z
  have y3 := fun z : After w1 => After.cell a3 z
  have y4 := fun z : After w1 => After.cell a4 z
  have x0 := fun z : After w1 => After.cell m0 z
  go_wp2_with fail
  refine region_ext (by kernel_rfl) (by kernel_rfl) ?_
  repeat (first | go_big_quiet_step ((go_at_call 35; exact after_call (HCV.out _ (After.ext _)))) | (go_big_quiet_want; go_simp; go_big_quiet_on))
  refine wpQuiet_nil ?_
  rintro w4 ⟨⟨_, he4⟩, rfl⟩
  have HX4 := Lib.hid (HX1.out.trans he4)
  clear z0 z1 z2 z3 z4 z5 z6 y0 y1 y2 y3 y4 x0 a0 a1 a2 a3 a4 c0 c1 c2 c3 c4 c5 c6 m0 he4 HCV
  go_wp2_with fail
  go_ret2
  exact ⟨by rw [HR.out.1, HR.out.2]; rfl, HX4.out⟩
end Go.Proofs.YtkigmpholnfkbaaGreat
