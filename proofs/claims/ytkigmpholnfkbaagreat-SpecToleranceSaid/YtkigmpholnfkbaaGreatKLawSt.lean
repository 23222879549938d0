/- the law SpecTolerance, walked -/
import Derived.Test.YtkigmpholnfkbaaGreatKLawSw
/- As Slots, over any relation R of worlds (what the steps keep), and with operations that leave no value (stores). No program in sight. -/
namespace Go.Proofs.YtkigmpholnfkbaaGreat
open Go.RowKit
section
variable {P : Program} {ops : Array Oper} {Q : Exit → Act → World → Prop}
theorem putAll_out : ∀ (ds : List Nat) (t : Array Value) (xs : Nat → Value) (i j : Nat) {d : Nat} (v : Value), ds.Nodup → ds[j]? = some d → t.size ≤ d → putAll t ds (upd xs (i + j) v) i = putAll t ds xs i
  | [], _, _, _, _, _, _, _, h, _ => by simp at h
  | d' :: ds, t, xs, i, 0, d, v, hn, h, hs => by
    obtain rfl : d' = d := by simpa using h
    unfold putAll
    rw [Array.setIfInBounds_eq_of_size_le hs, Array.setIfInBounds_eq_of_size_le hs]
    have key : ∀ (l : List Nat) (t : Array Value) (k : Nat), i < k → putAll t l (upd xs (i + 0) v) k = putAll t l xs k := by
      intro l
      induction l with
      | nil => intro t k _; rfl
      | cons e l ih => intro t k hk; unfold putAll; rw [upd_ne xs v (by omega)]; exact ih _ _ (by omega)
    exact key ds t (i + 1) (by omega)
  | d' :: ds, t, xs, i, j + 1, d, v, hn, h, hs => by
    unfold putAll
    rw [upd_ne xs v (show i ≠ i + (j + 1) by omega)]
    have := putAll_out ds (t.setIfInBounds d' (xs i)) xs (i + 1) j v (List.nodup_cons.1 hn).2 (by simpa using h) (by simpa using hs)
    rw [show i + 1 + j = i + (j + 1) by omega] at this
    exact this
theorem putAll_setI : ∀ (ds : List Nat) (t : Array Value) (xs : Nat → Value) (j : Nat) {d : Nat} (v : Value), ds.Nodup → ds[j]? = some d → d < t.size → (putAll t ds xs 0).setIfInBounds d v = putAll t ds (upd xs j v) 0 := by
  intro ds t xs j d v hn h hd
  apply Array.ext_getElem?
  intro k
  by_cases hk : k = d
  · subst hk
    have := putAll_at ds t (upd xs j v) 0 j hn h hd
    rw [Nat.zero_add] at this
    rw [this, upd_self, Array.getElem?_setIfInBounds]
    simp [putAll_size, hd]
  · rw [Array.getElem?_setIfInBounds_ne (Ne.symm hk)]
    by_cases hm : k ∈ ds
    · by_cases hks : k < t.size
      · obtain ⟨q, hq⟩ := List.mem_iff_getElem?.1 hm
        rw [putAll_at ds t _ 0 q hn hq hks, putAll_at ds t _ 0 q hn hq hks, upd_ne]
        intro e
        have : q = j := by omega
        subst this
        rw [hq] at h
        exact hk (Option.some.inj h)
      · rw [Array.getElem?_eq_none (by rw [putAll_size]; omega), Array.getElem?_eq_none (by rw [putAll_size]; omega)]
    · rw [putAll_other ds t _ 0 hm, putAll_other ds t _ 0 hm]
theorem putAll_sameI (ds : List Nat) (t : Array Value) (xs : Nat → Value) (hn : ds.Nodup) (h : ∀ j d, ds[j]? = some d → d < t.size → t.getD d undef = xs j) : putAll t ds xs 0 = t := by
  apply Array.ext_getElem?
  intro k
  by_cases hm : k ∈ ds
  · obtain ⟨q, hq⟩ := List.mem_iff_getElem?.1 hm
    by_cases hk : k < t.size
    · rw [putAll_at ds t xs 0 q hn hq hk, Nat.zero_add, ← h q k hq hk]
      simp [hk]
    · rw [Array.getElem?_eq_none (by rw [putAll_size]; omega), Array.getElem?_eq_none (by omega)]
  · rw [putAll_other ds t xs 0 hm]
def StepR (P : Program) (ops : Array Oper) (Q : Exit → Act → World → Prop) (a : Act) (ds : List Nat) (N : Nat) (R : World → World → Prop) (W0 : World) (T : Nat → Value → World → Prop) (i : Nat) : Prop :=
  ∀ o, ops[i]? = some o → ∀ (b : Act) (xs : Nat → Value) (w : World), R W0 w → (∀ k, ds.contains k = false → b.eval (.tmp k) = a.eval (.tmp k)) → (∀ j d, ds[j]? = some d → d < N → b.eval (.tmp d) = xs j) → (∀ j, onB' .any ops i j = true → T j (xs j) w) →
    ∀ K : Act → World → Prop, (∀ v w', R w w' → (∀ j u, j ≠ i → T j u w → T j u w') → T i v w' → K (b.put o.dst v) w') → if Region.wanted o (yielded ops b.tmps) = true then Oper.wp P o b w K Q else K (b.put o.dst undef) w
theorem region_slotsR {id l N : Nat} {a : Act} {w W0 : World} (R : World → World → Prop) (ds : List Nat) (T : Nat → Value → World → Prop) (hm : P.follows .mixedOrders = true)
    (hB : (ops.size == l + 1 && (List.range l).all (fun j => onB' .any ops l j) && slBackB ops) = true)
    (hD : (ds.length == l && decide ds.Nodup && (List.range l).all (fun i => match (ops[i]?).bind (·.dst) with | some d => decide (d < N) && (ds[i]? == some d) | none => decide (N ≤ ds.getD i 0))) = true) (hN : a.tmps.size = N) (hw : R W0 w.drew)
    (hR : ∀ a b c, R a b → R b c → R a c) (hstep : ∀ i, i < l → StepR P ops Q a ds N R W0 T i)
    (hlast : ∀ o, ops[l]? = some o → ∀ xs w, R W0 w → (∀ j, j < l → T j (xs j) w) → ∀ b, b = frOf a ds xs → (∀ k, ds.contains k = false → b.eval (.tmp k) = a.eval (.tmp k)) → (∀ j d, ds[j]? = some d → d < N → b.eval (.tmp d) = xs j) →
      ∀ K : Act → World → Prop, (∀ a' w', Q .normal a' w' → K a' w') → if Region.wanted o (yielded ops b.tmps) = true then Oper.wp P o b w K Q else K (b.put o.dst undef) w) :
    (Code.region id ops true).wp P Q a w := by
  simp only [Bool.and_eq_true, beq_iff_eq, decide_eq_true_eq] at hD
  obtain ⟨⟨hl, hnd⟩, hdst⟩ := hD
  have hev : ∀ xs j d, ds[j]? = some d → d < N → (frOf a ds xs).eval (.tmp d) = xs j := fun xs j d h hd => by
    show (putAll a.tmps ds xs 0).getD d undef = _
    have := putAll_at ds a.tmps xs 0 j hnd h (by rw [hN]; exact hd)
    rw [Nat.zero_add] at this
    rw [Array.getD_eq_getD_getElem?, this]; rfl
  have hot : ∀ xs k, ds.contains k = false → (frOf a ds xs).eval (.tmp k) = a.eval (.tmp k) := fun xs k h => by
    show (putAll a.tmps ds xs 0).getD k undef = a.tmps.getD k undef
    rw [Array.getD_eq_getD_getElem?, Array.getD_eq_getD_getElem?, putAll_other ds a.tmps xs 0 (by simpa using h)]
  have hput : ∀ i o, i < l → ops[i]? = some o → ∀ xs v, (frOf a ds xs).put o.dst v = frOf a ds (upd xs i v) := fun i o hi ho xs v => by
    have h1 := List.all_eq_true.1 hdst i (List.mem_range.2 hi)
    rw [ho] at h1
    simp only [Option.bind_some] at h1
    obtain ⟨d, hd⟩ : ∃ d, ds[i]? = some d := ⟨ds[i]'(by omega), by rw [List.getElem?_eq_getElem (by omega)]⟩
    cases hod : o.dst with
    | some d' =>
      rw [hod] at h1
      simp only [Bool.and_eq_true, decide_eq_true_eq, beq_iff_eq] at h1
      show ({ a with tmps := (putAll a.tmps ds xs 0).setIfInBounds d' v } : Act) = { a with tmps := putAll a.tmps ds (upd xs i v) 0 }
      rw [putAll_setI ds a.tmps xs i v hnd h1.2 (by rw [hN]; exact h1.1)]
    | none =>
      rw [hod] at h1
      simp only [decide_eq_true_eq] at h1
      have h2 : ds.getD i 0 = d := by simp [hd]
      rw [h2] at h1
      show ({ a with tmps := putAll a.tmps ds xs 0 } : Act) = { a with tmps := putAll a.tmps ds (upd xs i v) 0 }
      have := putAll_out ds a.tmps xs 0 i v hnd hd (by rw [hN]; exact h1)
      rw [Nat.zero_add] at this
      rw [this]
  simp only [Bool.and_eq_true, beq_iff_eq] at hB
  obtain ⟨⟨hn, hB⟩, hback⟩ := hB
  have hall : ∀ j, j < l → onB' .any ops l j = true := fun j hj => List.all_eq_true.1 hB j (List.mem_range.2 hj)
  refine region_inv hm (fun listed a' w => listed.size = l + 1 ∧ ((listed.getD l true = false ∧ R W0 w ∧ ∃ xs, a' = frOf a ds xs ∧ ∀ j, j < l → listed.getD j false = true → T j (xs j) w) ∨ ((∀ j, j < l + 1 → listed.getD j true = true) ∧ Q .normal a' w))) ?_ ?_ ?_
  · refine ⟨by simp [hn], .inl ⟨by simp [hn], hw, fun j => a.tmps.getD (ds.getD j 0) undef, ?_, fun j hj hl => ?_⟩⟩
    · show a = { a with tmps := putAll a.tmps ds _ 0 }
      rw [putAll_sameI ds a.tmps _ hnd (fun j d h _ => by simp [h])]
    · rw [hn] at hl
      simp [show j < l + 1 by omega] at hl
  · rintro listed a' w i hi ⟨hsz, hI⟩
    obtain ⟨hun, o, ho, hdep⟩ := mem_ready.1 hi
    have hil : i < l + 1 := by rw [← hn]; exact (Array.getElem?_eq_some_iff.1 ho).1
    rcases hI with ⟨hl', hx, xs, rfl, hxs⟩ | ⟨hfull, _⟩
    rotate_left
    · rw [hfull i hil] at hun; cases hun
    have hon : ∀ j, onB' .any ops i j = true → listed.getD j false = true := fun j hj => by
      obtain ⟨o', ho', e, he, hb, hk⟩ := onB_spec hj
      have : o = o' := Option.some.inj (ho.symm.trans ho')
      subst this
      rw [← hk]; exact hdep e he hb
    by_cases hi' : i = l
    · subst hi'
      have hdone : ∀ j, j < i → listed.getD j false = true := fun j hj => hon j (hall j hj)
      have hfin : ∀ j, j < i + 1 → (listed.setIfInBounds i true).getD j true = true := fun j hj => by
        by_cases hji : j = i
        · subst hji
          exact getD_false_true (getD_set_self hun)
        · rw [getD_set_other true (Ne.symm hji)]
          exact getD_false_true (hdone j (by omega))
      have h2 := hlast o ho xs w hx (fun j hj => hxs j hj (hdone j hj)) _ rfl (hot xs) (hev xs) (fun a' w' => (listed.setIfInBounds i true).size = i + 1 ∧ (((listed.setIfInBounds i true).getD i true = false ∧ R W0 w' ∧ ∃ xs, a' = frOf a ds xs ∧ ∀ j, j < i → (listed.setIfInBounds i true).getD j false = true → T j (xs j) w') ∨ ((∀ j, j < i + 1 → (listed.setIfInBounds i true).getD j true = true) ∧ Q .normal a' w'))) (fun a' w' hq => ⟨by simpa using hsz, .inr ⟨hfin, hq⟩⟩)
      unfold wpOp
      rw [ho]
      simp only
      split
      · rename_i hw'; rw [if_pos hw'] at h2; exact .inl h2
      · rename_i hw'; rw [if_neg hw'] at h2; exact h2
    · have hil' : i < l := by omega
      have h2 := hstep i hil' o ho (frOf a ds xs) xs w hx (hot xs) (hev xs) (fun j hj => by
        by_cases hjl : j < l
        · exact hxs j hjl (hon j hj)
        · have h3 := getD_false_true (hon j hj)
          have h4 : j < listed.size := by
            rcases Nat.lt_or_ge j listed.size with h' | h'
            · exact h'
            · have := hon j hj; simp [Array.getElem?_eq_none h'] at this
          obtain rfl : j = l := by omega
          rw [hl'] at h3; cases h3) (fun a' w' => (listed.setIfInBounds i true).size = l + 1 ∧ (((listed.setIfInBounds i true).getD l true = false ∧ R W0 w' ∧ ∃ xs, a' = frOf a ds xs ∧ ∀ j, j < l → (listed.setIfInBounds i true).getD j false = true → T j (xs j) w') ∨ ((∀ j, j < l + 1 → (listed.setIfInBounds i true).getD j true = true) ∧ Q .normal a' w'))) (fun v w' he hkeep hv => by
        refine ⟨by simpa using hsz, .inl ⟨by rw [getD_set_other true hi']; exact hl', hR _ _ _ hx he, upd xs i v, hput i o hil' ho xs v, fun j hj hl' => ?_⟩⟩
        by_cases hji : j = i
        · subst hji; rw [upd_self]; exact hv
        · rw [upd_ne xs v hji]
          rw [getD_set_other false (Ne.symm hji)] at hl'
          exact hkeep j _ hji (hxs j hj hl'))
      unfold wpOp
      rw [ho]
      simp only
      split
      · rename_i hw'; rw [if_pos hw'] at h2; exact .inl h2
      · rename_i hw'; rw [if_neg hw'] at h2; exact h2
  · rintro listed a' w hr ⟨hsz, hI⟩
    rcases hI with ⟨hl', _, xs, _, _⟩ | ⟨_, hq⟩
    · exfalso
      have hle : ∀ i, i < l + 1 → listed.getD i true = false → False := by
        intro i
        induction i using Nat.strongRecOn with
        | ind i ih =>
          intro hil hun
          obtain ⟨o, ho⟩ : ∃ o, ops[i]? = some o := ⟨ops[i]'(by omega), by rw [Array.getElem?_eq_getElem (by omega)]⟩
          by_cases hd : ∀ e ∈ o.after, Region.binds .any e = true → listed.getD e.on false = true
          · have : i ∈ Region.ready .any ops listed := mem_ready.2 ⟨hun, o, ho, hd⟩
            rw [hr] at this; cases this
          · simp only [Classical.not_forall] at hd
            obtain ⟨e, he, hb, hne⟩ := hd
            have hlt := slBackB_spec hback ho e he hb
            refine ih e.on hlt (by omega) ?_
            have h4 : e.on < listed.size := by omega
            simp [h4] at hne ⊢
            exact hne
      exact hle l (by omega) hl'
    · exact hq
end
end Go.Proofs.YtkigmpholnfkbaaGreat
namespace Go.Proofs.YtkigmpholnfkbaaGreat
open Go.RowKit
/- plain: one point of measure and one value -/
theorem judE_one {x : StyX} {p : PomX} {z v : Int} (h0 : spcE x [p] = 0) (h1 : 0 ≤ z ∧ z < x.sz.length) (h2 : 0 ≤ v ∧ v ≤ 35184372088832) (h3 : tgE x p (gI x.ms z.toNat) = 0) : judE x [p] z [v] = 0 := by
  unfold judE
  rw [if_neg (fun h => h h0), if_neg (by simp), if_neg (by omega)]
  refine (firstE_zero _ _).2 fun i hi => ?_
  obtain rfl : i = 0 := by simpa using hi
  unfold jdE
  rw [if_neg (by show ¬ ((v : Int) < 0 ∨ 35184372088832 < v); omega)]
  exact h3
theorem judL_one (x : StyX) (p : PomX) (z v : Int) : judL x [p] z [v] = [judV p (tgTo x p (gI x.ms z.toNat) p.ps.length : Int) v] := rfl
def wideP (p : PomX) (a b : Int) : PomX := ⟨p.nm, p.ps, p.es, p.pl + a, p.mi + b⟩
theorem wide_ok {x : StyX} {p : PomX} {a b : Int} (h : PomOk x p) (ha : 0 ≤ a) (hb : 0 ≤ b) (h1 : p.pl + a ≤ 1073741824) (h2 : p.mi + b ≤ 1073741824) : PomOk x (wideP p a b) :=
  ⟨h.nm, h.le, h.n0, h.n1, h.rf, by show 0 ≤ p.pl + a; have := h.p0; omega, h1, by show 0 ≤ p.mi + b; have := h.m0; omega, h2⟩
theorem wide_tg (x : StyX) (p : PomX) (a b m : Int) : tgE x (wideP p a b) m = tgE x p m := rfl
theorem wide_to (x : StyX) (p : PomX) (a b m : Int) : ∀ k, tgTo x (wideP p a b) m k = tgTo x p m k
  | 0 => rfl
  | k + 1 => by unfold tgTo; rw [wide_to x p a b m k]; rfl
theorem jud_bd {p : PomX} {t v : Int} (h0 : 0 ≤ p.pl ∧ p.pl ≤ 1073741824) (h1 : 0 ≤ p.mi ∧ p.mi ≤ 1073741824) (ht : 0 ≤ t ∧ t ≤ 16000000000000) (hv : 0 ≤ v ∧ v ≤ 35184372088832) : -1000000000000000 ≤ judV p t v ∧ judV p t v ≤ 1000000000000000 := by
  unfold judV
  split
  · omega
  · split <;> omega
structure TolOk (x : StyX) (p q : PomX) (z m mo : Int) (A0 B0 C0 : Int) : Prop where
  b : judE x [q] z [m] = 0
  bl : judL x [q] z [m] = [B0]
  c : judE x [p] z [m + mo] = 0
  cl : judL x [p] z [m + mo] = [C0]
  al : judL x [p] z [m] = [A0]
  le : max B0 (-B0) ≤ max A0 (-A0)
  mo : A0 ≤ C0
  a0 : -1000000000000000 ≤ A0 ∧ A0 ≤ 1000000000000000
  b0 : -1000000000000000 ≤ B0 ∧ B0 ≤ 1000000000000000
theorem tol_ok {x : StyX} {p : PomX} {z m mo pl mi : Int} (h : judE x [p] z [m] = 0) (hm : m ≤ 1099511627776) (hmo : 0 ≤ mo ∧ mo < 65536) (hpl : 0 ≤ pl ∧ pl < 65536) (hmi : 0 ≤ mi ∧ mi < 65536) (h1 : p.pl ≤ 536870912) (h2 : p.mi ≤ 536870912) :
    wrap64 (p.pl + pl) = p.pl + pl ∧ wrap64 (p.mi + mi) = p.mi + mi ∧ ∃ A0 B0 C0, TolOk x p (wideP p pl mi) z m mo A0 B0 C0 := by
  obtain ⟨g1, _, g3, g4⟩ := judE_zero h
  obtain ⟨g5, g6⟩ := g4 0 (by simp)
  have hv : gI [m] 0 = m := rfl
  rw [hv] at g5
  have hg : gPm [p] 0 = p := rfl
  rw [hg] at g6
  obtain ⟨s0, hok⟩ := spcE_one.1 g1
  have hp0 := hok.p0; have hm0 := hok.m0
  have hokw : PomOk x (wideP p pl mi) := wide_ok hok hpl.1 hmi.1 (by omega) (by omega)
  have hbd := tgTo_bd x p (gI x.ms z.toNat) p.ps.length
  have hn := hok.n1
  have ht : (0 : Int) ≤ (tgTo x p (gI x.ms z.toNat) p.ps.length : Int) ∧ (tgTo x p (gI x.ms z.toNat) p.ps.length : Int) ≤ 16000000000000 := by omega
  refine ⟨IntWalk.wrap64_in _ ⟨by omega, by omega⟩, IntWalk.wrap64_in _ ⟨by omega, by omega⟩, judV p (tgTo x p (gI x.ms z.toNat) p.ps.length : Int) m, judV (wideP p pl mi) (tgTo x p (gI x.ms z.toNat) p.ps.length : Int) m, judV p (tgTo x p (gI x.ms z.toNat) p.ps.length : Int) (m + mo), ?_⟩
  refine ⟨judE_one (spcE_one.2 ⟨s0, hokw⟩) g3 g5 g6, ?_, judE_one g1 g3 (by omega) g6, judL_one _ _ _ _, judL_one _ _ _ _, ?_, jud_more hp0 hm0 (by omega), jud_bd ⟨hp0, by omega⟩ ⟨hm0, by omega⟩ ht g5, ?_⟩
  · rw [judL_one]
    show [judV (wideP p pl mi) (tgTo x (wideP p pl mi) (gI x.ms z.toNat) p.ps.length : Int) m] = _
    rw [wide_to]
  · exact jud_wide hp0 hm0 (by show p.pl ≤ p.pl + pl; omega) (by show p.mi ≤ p.mi + mi; omega)
  · exact jud_bd ⟨by show 0 ≤ p.pl + pl; omega, by show p.pl + pl ≤ _; omega⟩ ⟨by show 0 ≤ p.mi + mi; omega, by show p.mi + mi ≤ _; omega⟩ ht g5
def tolC (pn : ByteArray) (pAP pAE : Option Addr) (pnP pcP pnE pcE : Nat) (pmi y : Int) : List Value := [.string pn, .slice pAP pnP pcP, .slice pAE pnE pcE, .int .i64 y, .int .i64 pmi]
def tolR (NB : Nat) (wc : Int → List Value) (w w' : World) : Prop := Kept (fun k => k = NB) w w' ∧ ((∃ y, Blk 36 w NB (wc y)) → ∃ y, Blk 36 w' NB (wc y))
theorem tolR_refl (NB : Nat) (wc : Int → List Value) (w : World) : tolR NB wc w w := ⟨Kept.refl _ _, fun h => h⟩
def tolV (PB NB : Nat) (ppl pmi : Int) (pl mi : Nat) : Nat → Value
  | 0 => .pointer (some ⟨PB, 3, none⟩)
  | 1 => .int .i64 ppl
  | 2 => .int .u16 (pl : Int)
  | 3 => .int .i64 (pl : Int)
  | 4 => .int .i64 (wrap64 (ppl + (pl : Int)))
  | 5 => .pointer (some ⟨PB, 4, none⟩)
  | 6 => .int .i64 pmi
  | 7 => .int .u16 (mi : Int)
  | 8 => .int .i64 (mi : Int)
  | 9 => .int .i64 (wrap64 (pmi + (mi : Int)))
  | 10 => .pointer (some ⟨NB, 3, none⟩)
  | 11 => undef
  | 12 => .pointer (some ⟨NB, 4, none⟩)
  | _ => undef
def tolT (PB NB : Nat) (ppl pmi : Int) (pl mi : Nat) (wc : Int → List Value) (i : Nat) (v : Value) (w : World) : Prop := v = tolV PB NB ppl pmi pl mi i ∧ (i = 11 → Blk 36 w NB (wc (wrap64 (ppl + (pl : Int)))))
set_option maxRecDepth 100000 in
set_option maxHeartbeats 6400000 in
theorem tolL_any (a : StyA) (x : StyX) (q : PomA) (p : PomX) (z m : Int) (mo pl mi : Nat) (w : World) (hs : StyXAt w a x) (hp : PomAt w q p) (hmo : mo < 65536) (hpl : pl < 65536) (hmi : mi < 65536) :
    Calls Tryz.prog 9 #[a.val, q.val, .int .i64 z, .int .i64 m, .int .u16 (mo : Int), .int .u16 (pl : Int), .int .u16 (mi : Int)] w fun e w' => e = .returned (.bool true) ∧ Ext w w' := by
  have HSM := Lib.hid (fun W g (h : Ext w W) (hb : Blk 36 W g (PomA.cells q)) => small_any a x (some ⟨g, 0, none⟩) 1 1 [p] W (hs.ext h) (poms_one hb (hp.ext h)) rfl (by omega))
  have HJU := Lib.hid (fun (hlt : LtX x) (qp : PomA) (pp : PomX) W g gi v (h : Ext w W) (hb : Blk 36 W g (PomA.cells qp)) (hpp : PomAt W qp pp) (hi : Blk 3 W gi (icells [v])) =>
    judge_any a x (some ⟨g, 0, none⟩) 1 1 [pp] z (some ⟨gi, 0, none⟩) 1 1 [v] W (hs.ext h) hlt.n hlt.zz (poms_one hb hpp) rfl (Nat.le_refl _) (by omega) (ints_blk hi (Nat.le_of_ble_eq_true rfl)) rfl (by omega))
  have HPQ := Lib.hid hp
  clear hs hp
  obtain ⟨nm, AS, nS, cS, AM, nM, cM, AP, nP, cP, AU, nU, cU, AK, nK, cK, AO, nO, cO⟩ := a
  obtain ⟨pn, pAP, pnP, pcP, pAE, pnE, pcE, ppl, pmi⟩ := q
  have HPL : Hid (p.pl = ppl) := HPQ.out.pl.symm
  have HMI : Hid (p.mi = pmi) := HPQ.out.mi.symm
  simp only [StyA.val, PomA.val, PomA.cells] at HSM HJU ⊢
  go_enter Tryz.func9, Tryz.ntmps9
  go_wp2_with fail
  refine (HSM.out _ (w.heap.size + 1 + 1) ((((Ext.refl _).alloc _).alloc _).alloc _) (Blk.new' (by simp))).mono ?_
  rintro e w1 ⟨b, rfl, he1, hb⟩
  have HB1 : Hid (Blk 29 w1 w.heap.size [.string nm, .slice AS nS cS, .slice AM nM cM, .slice AP nP cP, .slice AU nU cU, .slice AK nK cK, .slice AO nO cO]) := (((Blk.new' rfl).ext ((Ext.refl _).alloc _)).ext ((Ext.refl _).alloc _)).ext he1
  have HN1 : Hid (Blk 36 w1 (w.heap.size + 1) [.string pn, .slice pAP pnP pcP, .slice pAE pnE pcE, .int .i64 ppl, .int .i64 pmi]) := ((Blk.new' (by simp)).ext ((Ext.refl _).alloc _)).ext he1
  have HX1 : Hid (Ext w w1) := ((((Ext.refl _).alloc _).alloc _).alloc _).trans he1
  have HB := Lib.hid hb
  clear he1 hb HSM
  cases b
  · go_wp2_with fail
    refine (awake_any _).mono ?_
    rintro e w2 ⟨rfl, he2⟩
    go_wp2_with fail
    go_ret
    exact ⟨rfl, HX1.out.trans he2⟩
  obtain ⟨hlt, _⟩ := HB.out rfl
  have HJ := Lib.hid (HJU.out hlt)
  clear HJU hlt HB
  obtain ⟨a0, a1, a2, a3, a4⟩ := blk5 HN1.out
  by_cases g0 : m < 0
  · go_wp2_with fail
    refine (awake_any _).mono ?_
    rintro e w2 ⟨rfl, he2⟩
    go_wp2_with fail
    go_ret
    exact ⟨rfl, HX1.out.trans he2⟩
  by_cases g1 : 1099511627776 < m
  · go_wp2_with fail
    refine (awake_any _).mono ?_
    rintro e w2 ⟨rfl, he2⟩
    go_wp2_with fail
    go_ret
    exact ⟨rfl, HX1.out.trans he2⟩
  by_cases g2 : 536870912 < ppl
  · go_wp2_with fail
    refine (awake_any _).mono ?_
    rintro e w2 ⟨rfl, he2⟩
    go_wp2_with fail
    go_ret
    exact ⟨rfl, HX1.out.trans he2⟩
  by_cases g3 : 536870912 < pmi
  · go_wp2_with fail
    refine (awake_any _).mono ?_
    rintro e w2 ⟨rfl, he2⟩
    go_wp2_with fail
    go_ret
    exact ⟨rfl, HX1.out.trans he2⟩
  have hwl : w.heap.size < w1.heap.size := HB1.out.lt
  have hwl1 : w.heap.size + 1 < w1.heap.size := HN1.out.lt
  go_upto_region 4 with fail
  refine wp_at fun w2 hw2 => ?_
  have hW2 : Blk 36 w2 w1.heap.size [.string pn, .slice pAP pnP pcP, .slice pAE pnE pcE, .int .i64 ppl, .int .i64 pmi] := by rw [hw2]; exact Blk.new' rfl
  have hx2 : Ext w1 w2 := by rw [hw2]; exact (Ext.refl _).alloc _
  obtain ⟨NB, hNB⟩ : ∃ y, y = w1.heap.size := ⟨_, rfl⟩
  obtain ⟨PB, hPB⟩ : ∃ y, y = w.heap.size + 1 := ⟨_, rfl⟩
  rw [← hNB] at hW2 ⊢
  rw [← hPB] at HN1 ⊢
  have HPN : Hid (¬ PB = NB) := by show ¬ _; omega
  have HGN : Hid (w.heap.size < NB ∧ PB < NB) := ⟨by omega, by omega⟩
  have HN2 := Lib.hid (HN1.out.ext hx2); have HB2 := Lib.hid (HB1.out.ext hx2); have HX2 := Lib.hid (HX1.out.trans hx2)
  have HW2 : Hid (∃ y, Blk 36 w2 NB (tolC pn pAP pAE pnP pcP pnE pcE pmi y)) := ⟨ppl, hW2⟩
  clear hw2 hW2 hx2 hNB hPB hwl hwl1 a0 a1 a2 a3 a4 HN1 HB1 HX1
  refine region_slotsR (l := 13) (N := 150) (W0 := w2) (tolR NB (tolC pn pAP pAE pnP pcP pnE pcE pmi)) [47, 48, 49, 50, 51, 52, 53, 54, 55, 56, 57, 1000, 58] (tolT PB NB ppl pmi pl mi (tolC pn pAP pAE pnP pcP pnE pcE pmi)) (by kernel_rfl) (by kernel_rfl) (by kernel_rfl) (by kernel_rfl) ⟨(Kept.refl _ _).drew, fun h => h⟩ (fun _ _ _ h1 h2 => ⟨h1.1.trans h2.1, fun h => h2.2 (h1.2 h)⟩) (fun i hi => ?_) ?_
  · match i, hi with
    -- D begin
    | 0, _ =>
      intro o ho b xs w hR hb hv hd K hK
      simp only [List.getElem?_toArray, List.getElem?_cons_zero, List.getElem?_cons_succ, Option.some.injEq] at ho
      subst ho
      have e1 : b.eval (.tmp 8) = .pointer (some ⟨PB, 0, none⟩) := hb 8 (by kernel_rfl)
      obtain ⟨a0, a1, a2, a3, a4⟩ := blk5 (hR.1.blk HN2.out HPN.out)
      refine step_valR (wanted_all rfl) (v := .pointer (some ⟨PB, 3, none⟩)) (w' := w) (fun ρ hρ hc => ?_) (hK _ _ (tolR_refl _ _ _) (fun _ _ _ h => h) ⟨rfl, fun e => by cases e⟩)
      have re1 := (hρ (.tmp 8)).trans e1
      simp [execOp, go_sem, hc, re1, a3]
    | 1, _ =>
      intro o ho b xs w hR hb hv hd K hK
      simp only [List.getElem?_toArray, List.getElem?_cons_zero, List.getElem?_cons_succ, Option.some.injEq] at ho
      subst ho
      have e1 : b.eval (.tmp 47) = .pointer (some ⟨PB, 3, none⟩) := (hv 0 47 rfl (by omega)).trans (hd 0 (by kernel_rfl)).1
      obtain ⟨a0, a1, a2, a3, a4⟩ := blk5 (hR.1.blk HN2.out HPN.out)
      refine step_valR (wanted_all rfl) (v := .int .i64 ppl) (w' := w) (fun ρ hρ hc => ?_) (hK _ _ (tolR_refl _ _ _) (fun _ _ _ h => h) ⟨rfl, fun e => by cases e⟩)
      have re1 := (hρ (.tmp 47)).trans e1
      simp [execOp, go_sem, hc, re1, a3]
    | 2, _ =>
      intro o ho b xs w hR hb hv hd K hK
      simp only [List.getElem?_toArray, List.getElem?_cons_zero, List.getElem?_cons_succ, Option.some.injEq] at ho
      subst ho
      have e1 : b.eval (.tmp 5) = .int .u16 (pl : Int) := hb 5 (by kernel_rfl)
      refine step_valR (wanted_all rfl) (v := .int .u16 (pl : Int)) (w' := w) (fun ρ hρ hc => ?_) (hK _ _ (tolR_refl _ _ _) (fun _ _ _ h => h) ⟨rfl, fun e => by cases e⟩)
      have re1 := (hρ (.tmp 5)).trans e1
      simp [execOp, go_sem, hc, re1]
    | 3, _ =>
      intro o ho b xs w hR hb hv hd K hK
      simp only [List.getElem?_toArray, List.getElem?_cons_zero, List.getElem?_cons_succ, Option.some.injEq] at ho
      subst ho
      have e1 : b.eval (.tmp 49) = .int .u16 (pl : Int) := (hv 2 49 rfl (by omega)).trans (hd 2 (by kernel_rfl)).1
      have hw : wrap64 (pl : Int) = pl := IntWalk.wrap64_in _ ⟨by omega, by omega⟩
      refine step_valR (wanted_all rfl) (v := .int .i64 (pl : Int)) (w' := w) (fun ρ hρ hc => ?_) (hK _ _ (tolR_refl _ _ _) (fun _ _ _ h => h) ⟨rfl, fun e => by cases e⟩)
      have re1 := (hρ (.tmp 49)).trans e1
      simp [execOp, go_sem, hc, re1, hw]
      exact IntWalk.i64_left _ ▸ hw
    | 4, _ =>
      intro o ho b xs w hR hb hv hd K hK
      simp only [List.getElem?_toArray, List.getElem?_cons_zero, List.getElem?_cons_succ, Option.some.injEq] at ho
      subst ho
      have e1 : b.eval (.tmp 48) = .int .i64 ppl := (hv 1 48 rfl (by omega)).trans (hd 1 (by kernel_rfl)).1
      have e2 : b.eval (.tmp 50) = .int .i64 (pl : Int) := (hv 3 50 rfl (by omega)).trans (hd 3 (by kernel_rfl)).1
      refine step_valR (wanted_all rfl) (v := .int .i64 (wrap64 (ppl + (pl : Int)))) (w' := w) (fun ρ hρ hc => ?_) (hK _ _ (tolR_refl _ _ _) (fun _ _ _ h => h) ⟨rfl, fun e => by cases e⟩)
      have re1 := (hρ (.tmp 48)).trans e1
      have re2 := (hρ (.tmp 50)).trans e2
      simp [execOp, go_sem, hc, re1, re2]
      exact IntWalk.i64_left _
    | 5, _ =>
      intro o ho b xs w hR hb hv hd K hK
      simp only [List.getElem?_toArray, List.getElem?_cons_zero, List.getElem?_cons_succ, Option.some.injEq] at ho
      subst ho
      have e1 : b.eval (.tmp 8) = .pointer (some ⟨PB, 0, none⟩) := hb 8 (by kernel_rfl)
      obtain ⟨a0, a1, a2, a3, a4⟩ := blk5 (hR.1.blk HN2.out HPN.out)
      refine step_valR (wanted_all rfl) (v := .pointer (some ⟨PB, 4, none⟩)) (w' := w) (fun ρ hρ hc => ?_) (hK _ _ (tolR_refl _ _ _) (fun _ _ _ h => h) ⟨rfl, fun e => by cases e⟩)
      have re1 := (hρ (.tmp 8)).trans e1
      simp [execOp, go_sem, hc, re1, a4]
    | 6, _ =>
      intro o ho b xs w hR hb hv hd K hK
      simp only [List.getElem?_toArray, List.getElem?_cons_zero, List.getElem?_cons_succ, Option.some.injEq] at ho
      subst ho
      have e1 : b.eval (.tmp 52) = .pointer (some ⟨PB, 4, none⟩) := (hv 5 52 rfl (by omega)).trans (hd 5 (by kernel_rfl)).1
      obtain ⟨a0, a1, a2, a3, a4⟩ := blk5 (hR.1.blk HN2.out HPN.out)
      refine step_valR (wanted_all rfl) (v := .int .i64 pmi) (w' := w) (fun ρ hρ hc => ?_) (hK _ _ (tolR_refl _ _ _) (fun _ _ _ h => h) ⟨rfl, fun e => by cases e⟩)
      have re1 := (hρ (.tmp 52)).trans e1
      simp [execOp, go_sem, hc, re1, a4]
    | 7, _ =>
      intro o ho b xs w hR hb hv hd K hK
      simp only [List.getElem?_toArray, List.getElem?_cons_zero, List.getElem?_cons_succ, Option.some.injEq] at ho
      subst ho
      have e1 : b.eval (.tmp 6) = .int .u16 (mi : Int) := hb 6 (by kernel_rfl)
      refine step_valR (wanted_all rfl) (v := .int .u16 (mi : Int)) (w' := w) (fun ρ hρ hc => ?_) (hK _ _ (tolR_refl _ _ _) (fun _ _ _ h => h) ⟨rfl, fun e => by cases e⟩)
      have re1 := (hρ (.tmp 6)).trans e1
      simp [execOp, go_sem, hc, re1]
    | 8, _ =>
      intro o ho b xs w hR hb hv hd K hK
      simp only [List.getElem?_toArray, List.getElem?_cons_zero, List.getElem?_cons_succ, Option.some.injEq] at ho
      subst ho
      have e1 : b.eval (.tmp 54) = .int .u16 (mi : Int) := (hv 7 54 rfl (by omega)).trans (hd 7 (by kernel_rfl)).1
      have hw : wrap64 (mi : Int) = mi := IntWalk.wrap64_in _ ⟨by omega, by omega⟩
      refine step_valR (wanted_all rfl) (v := .int .i64 (mi : Int)) (w' := w) (fun ρ hρ hc => ?_) (hK _ _ (tolR_refl _ _ _) (fun _ _ _ h => h) ⟨rfl, fun e => by cases e⟩)
      have re1 := (hρ (.tmp 54)).trans e1
      simp [execOp, go_sem, hc, re1, hw]
      exact IntWalk.i64_left _ ▸ hw
    | 9, _ =>
      intro o ho b xs w hR hb hv hd K hK
      simp only [List.getElem?_toArray, List.getElem?_cons_zero, List.getElem?_cons_succ, Option.some.injEq] at ho
      subst ho
      have e1 : b.eval (.tmp 53) = .int .i64 pmi := (hv 6 53 rfl (by omega)).trans (hd 6 (by kernel_rfl)).1
      have e2 : b.eval (.tmp 55) = .int .i64 (mi : Int) := (hv 8 55 rfl (by omega)).trans (hd 8 (by kernel_rfl)).1
      refine step_valR (wanted_all rfl) (v := .int .i64 (wrap64 (pmi + (mi : Int)))) (w' := w) (fun ρ hρ hc => ?_) (hK _ _ (tolR_refl _ _ _) (fun _ _ _ h => h) ⟨rfl, fun e => by cases e⟩)
      have re1 := (hρ (.tmp 53)).trans e1
      have re2 := (hρ (.tmp 55)).trans e2
      simp [execOp, go_sem, hc, re1, re2]
      exact IntWalk.i64_left _
    | 10, _ =>
      intro o ho b xs w hR hb hv hd K hK
      simp only [List.getElem?_toArray, List.getElem?_cons_zero, List.getElem?_cons_succ, Option.some.injEq] at ho
      subst ho
      have e1 : b.eval (.tmp 15) = .pointer (some ⟨NB, 0, none⟩) := hb 15 (by kernel_rfl)
      obtain ⟨y, hy⟩ := hR.2 HW2.out
      obtain ⟨a0, a1, a2, a3, a4⟩ := blk5 hy
      refine step_valR (wanted_all rfl) (v := .pointer (some ⟨NB, 3, none⟩)) (w' := w) (fun ρ hρ hc => ?_) (hK _ _ (tolR_refl _ _ _) (fun _ _ _ h => h) ⟨rfl, fun e => by cases e⟩)
      have re1 := (hρ (.tmp 15)).trans e1
      simp [execOp, go_sem, hc, re1, a3]
    | 11, _ =>
      intro o ho b xs w hR hb hv hd K hK
      simp only [List.getElem?_toArray, List.getElem?_cons_zero, List.getElem?_cons_succ, Option.some.injEq] at ho
      subst ho
      have e1 : b.eval (.tmp 57) = .pointer (some ⟨NB, 3, none⟩) := (hv 10 57 rfl (by omega)).trans (hd 10 (by kernel_rfl)).1
      have e2 : b.eval (.tmp 51) = .int .i64 (wrap64 (ppl + (pl : Int))) := (hv 4 51 rfl (by omega)).trans (hd 4 (by kernel_rfl)).1
      obtain ⟨y, hy⟩ := hR.2 HW2.out
      have a3 := hy.cell 3; have f3 := hy.frozen 3
      simp only [tolC, List.getElem?_cons_succ, List.getElem?_cons_zero] at a3
      refine step_skipR (wanted_all rfl) (w' := w.setCell ⟨NB, 3, none⟩ (.int .i64 (wrap64 (ppl + (pl : Int))))) (fun ρ hρ hc => ?_) (hK _ _ ⟨kset (Kept.refl _ _) _ _, fun _ => ⟨_, hy.set 3 _⟩⟩ (fun j u hj h => ⟨h.1, fun e => absurd e hj⟩) ⟨rfl, fun _ => hy.set 3 _⟩)
      have re1 := (hρ (.tmp 57)).trans e1; have re2 := (hρ (.tmp 51)).trans e2
      simp [execOp, go_sem, re1, re2, a3, f3]
    | 12, _ =>
      intro o ho b xs w hR hb hv hd K hK
      simp only [List.getElem?_toArray, List.getElem?_cons_zero, List.getElem?_cons_succ, Option.some.injEq] at ho
      subst ho
      have e1 : b.eval (.tmp 15) = .pointer (some ⟨NB, 0, none⟩) := hb 15 (by kernel_rfl)
      obtain ⟨y, hy⟩ := hR.2 HW2.out
      obtain ⟨a0, a1, a2, a3, a4⟩ := blk5 hy
      refine step_valR (wanted_all rfl) (v := .pointer (some ⟨NB, 4, none⟩)) (w' := w) (fun ρ hρ hc => ?_) (hK _ _ (tolR_refl _ _ _) (fun _ _ _ h => h) ⟨rfl, fun e => by cases e⟩)
      have re1 := (hρ (.tmp 15)).trans e1
      simp [execOp, go_sem, hc, re1, a4]
    -- D end
    | n + 13, hn => exact absurd hn (by omega)
  intro o ho xs w3 hR hT b hb1 hb hv K hK
  simp only [List.getElem?_toArray, List.getElem?_cons_zero, List.getElem?_cons_succ, Option.some.injEq] at ho
  subst ho
  have hS := (hT 11 (by decide)).2 rfl
  have e1 : b.eval (.tmp 58) = .pointer (some ⟨NB, 4, none⟩) := (hv 12 58 rfl (by omega)).trans (hT 12 (by decide)).1
  have e2 : b.eval (.tmp 56) = .int .i64 (wrap64 (pmi + (mi : Int))) := (hv 9 56 rfl (by omega)).trans (hT 9 (by decide)).1
  have a4 := hS.cell 4; have f4 := hS.frozen 4
  simp only [tolC, List.getElem?_cons_succ, List.getElem?_cons_zero] at a4
  obtain ⟨w4, hw4⟩ : ∃ w4, w4 = w3.setCell ⟨NB, 4, none⟩ (.int .i64 (wrap64 (pmi + (mi : Int)))) := ⟨_, rfl⟩
  refine step_skipR (wanted_all rfl) (w' := w4) (fun ρ hρ hc => ?_) ?_
  · have re1 := (hρ (.tmp 58)).trans e1; have re2 := (hρ (.tmp 56)).trans e2
    rw [hw4]
    simp [execOp, go_sem, re1, re2, a4, f4]
  refine hK _ _ ?_
  have hk4 : Kept (fun k => k = NB) w2 w4 := by rw [hw4]; exact kset hR.1 _ _
  have hW4 : Blk 36 w4 NB [.string pn, .slice pAP pnP pcP, .slice pAE pnE pcE, .int .i64 (wrap64 (ppl + (pl : Int))), .int .i64 (wrap64 (pmi + (mi : Int)))] := by rw [hw4]; exact hS.set 4 _
  have HW4 := Lib.hid hW4
  have HN4 := Lib.hid (hk4.blk HN2.out HPN.out); have HB4 := Lib.hid (hk4.blk HB2.out (by have := HGN.out; omega))
  have HX4 : Hid (Ext w w4) := hk4.ext HX2.out (fun k e => by have := HGN.out; omega)
  have q0 := (hT 0 (by decide)).1; have q1 := (hT 1 (by decide)).1; have q2 := (hT 2 (by decide)).1
  subst hb1
  clear hK K hb hv e1 e2 hT hR hS a4 f4 hw4 hk4 hW4 HN2 HB2 HX2 HW2 q0 q1 q2
  simp only [Act.put, frOf, putAll, List.setIfInBounds_toArray, List.set_cons_succ, List.set_cons_zero, List.set_nil]
  generalize xs (0 + 1 + 1 + 1 + 1 + 1 + 1 + 1 + 1 + 1 + 1 + 1 + 1) = y12
  generalize xs (0 + 1 + 1 + 1 + 1 + 1 + 1 + 1 + 1 + 1 + 1 + 1) = y11
  generalize xs (0 + 1 + 1 + 1 + 1 + 1 + 1 + 1 + 1 + 1 + 1) = y10
  generalize xs (0 + 1 + 1 + 1 + 1 + 1 + 1 + 1 + 1 + 1) = y9
  generalize xs (0 + 1 + 1 + 1 + 1 + 1 + 1 + 1 + 1) = y8
  generalize xs (0 + 1 + 1 + 1 + 1 + 1 + 1 + 1) = y7
  generalize xs (0 + 1 + 1 + 1 + 1 + 1 + 1) = y6
  generalize xs (0 + 1 + 1 + 1 + 1 + 1) = y5
  generalize xs (0 + 1 + 1 + 1 + 1) = y4
  generalize xs (0 + 1 + 1 + 1) = y3
  generalize xs (0 + 1 + 1) = y2
  generalize xs (0 + 1) = y1
  generalize xs 0 = y0
  clear xs
  obtain ⟨c0, c1, c2, c3, c4, c5, c6⟩ := blk7 HB4.out
  obtain ⟨a0, a1, a2, a3, a4⟩ := blk5 HN4.out
  have HPA := Lib.hid HPQ.out
  go_wp2_with fail
  refine (HJ.out ⟨pn, pAP, pnP, pcP, pAE, pnE, pcE, ppl, pmi⟩ p _ w4.heap.size (w4.heap.size + 1) m ((HX4.out.alloc _).alloc _) ((Blk.new' rfl).ext ((Ext.refl _).alloc _)) (HPQ.out.ext ((HX4.out.alloc _).alloc _)) (Blk.new' (by simp))).mono ?_
  rintro e w5 ⟨v5, rfl, ho5, hn5, he5⟩
  have HX5 : Hid (Ext w4 w5) := (((Ext.refl _).alloc _).alloc _).trans he5
  clear he5 c0 c1 c2 c3 c4 c5 c6 a0 a1 a2 a3 a4
  have HTO : Hid (judE x [p] z [m] = 0 → wrap64 (ppl + (pl : Int)) = ppl + pl ∧ wrap64 (pmi + (mi : Int)) = pmi + mi ∧ ∃ A0 B0 C0, TolOk x p (wideP p pl mi) z m mo A0 B0 C0) := fun h => by
    rw [← HPL.out, ← HMI.out]
    exact tol_ok h (by omega) ⟨by omega, by omega⟩ ⟨by omega, by omega⟩ ⟨by omega, by omega⟩ (by rw [HPL.out]; omega) (by rw [HMI.out]; omega)
  obtain ⟨JE, hJE⟩ : ∃ y, y = judE x [p] z [m] := ⟨_, rfl⟩
  rw [← hJE] at ho5 hn5 HTO ⊢
  clear hJE
  by_cases hz : JE = 0
  rotate_left
  · have hvf := hn5 hz
    subst hvf
    have hzb : (JE != 0) = true := by simp [hz]
    clear hz ho5 hn5
    go_wp2_with fail
    refine (awake_any _).mono ?_
    rintro e w6 ⟨rfl, he6⟩
    go_wp2_with fail
    go_ret
    exact ⟨rfl, (HX4.out.trans HX5.out).trans he6⟩
  obtain ⟨hw1, hw2, A0, B0, C0, htol⟩ := HTO.out hz
  have HTL := Lib.hid htol
  have ho := ho5 hz
  rw [HTL.out.al] at ho
  subst hz
  obtain ⟨A5, c5', hv5, hI5, _⟩ := OwnI.slice' (n := 1) ho rfl
  subst hv5
  have HI5 := Lib.hid hI5
  have HB5 := Lib.hid (HB4.out.ext HX5.out); have HN5 := Lib.hid (HN4.out.ext HX5.out)
  have HW5 : Hid (Blk 36 w5 NB [.string pn, .slice pAP pnP pcP, .slice pAE pnE pcE, .int .i64 (ppl + (pl : Int)), .int .i64 (pmi + (mi : Int))]) := by
    have h := HW4.out.ext HX5.out
    rw [hw1, hw2] at h; exact h
  have HXt := Lib.hid (HX4.out.trans HX5.out)
  clear htol ho ho5 hn5 hI5 HTO HW4 HB4 HN4 HX4 HX5 hw1 hw2
  obtain ⟨c0, c1, c2, c3, c4, c5, c6⟩ := blk7 HB5.out
  obtain ⟨d0, d1, d2, d3, d4⟩ := blk5 HW5.out
  have HWA : Hid (∀ W, Ext w5 W → PomAt W ⟨pn, pAP, pnP, pcP, pAE, pnE, pcE, ppl + (pl : Int), pmi + (mi : Int)⟩ (wideP p pl mi)) := fun W h => by
    have hq := HPQ.out.ext (HXt.out.trans h)
    exact ⟨hq.nm, hq.P, hq.lP, hq.E, hq.lE, by show ppl + (pl : Int) = p.pl + pl; rw [HPL.out], by show pmi + (mi : Int) = p.mi + mi; rw [HMI.out], hq.bP, hq.bE⟩
  have hb1 : decide (m < 0) = false := decide_eq_false (by omega)
  go_wp2_with fail
  refine (HJ.out ⟨pn, pAP, pnP, pcP, pAE, pnE, pcE, ppl + (pl : Int), pmi + (mi : Int)⟩ (wideP p pl mi) _ w5.heap.size (w5.heap.size + 1) m ((HXt.out.alloc _).alloc _) ((Blk.new' rfl).ext ((Ext.refl _).alloc _)) (HWA.out _ (((Ext.refl _).alloc _).alloc _)) (Blk.new' (by simp))).mono ?_
  rintro e w6 ⟨v6, rfl, ho6, _, he6⟩
  have HX6 : Hid (Ext w5 w6) := (((Ext.refl _).alloc _).alloc _).trans he6
  have ho := ho6 HTL.out.b
  rw [HTL.out.bl] at ho
  rw [HTL.out.b]
  obtain ⟨A6, c6', hv6, hI6, _⟩ := OwnI.slice' (n := 1) ho rfl
  subst hv6
  have HI6 := Lib.hid hI6
  clear ho ho6 hI6 he6 c0 c1 c2 c3 c4 c5 c6 d0 d1 d2 d3 d4
  have HB6 := Lib.hid (HB5.out.ext HX6.out); have HN6 := Lib.hid (HN5.out.ext HX6.out)
  obtain ⟨c0, c1, c2, c3, c4, c5, c6⟩ := blk7 HB6.out
  obtain ⟨a0, a1, a2, a3, a4⟩ := blk5 HN6.out
  go_wp2_with fail
  refine (HJ.out ⟨pn, pAP, pnP, pcP, pAE, pnE, pcE, ppl, pmi⟩ p _ w6.heap.size (w6.heap.size + 1) (m + (mo : Int)) (((HXt.out.trans HX6.out).alloc _).alloc _) ((Blk.new' rfl).ext ((Ext.refl _).alloc _)) (HPQ.out.ext (((HXt.out.trans HX6.out).alloc _).alloc _)) (Blk.new' (by simp))).mono ?_
  rintro e w7 ⟨v7, rfl, ho7, _, he7⟩
  have HX7 : Hid (Ext w6 w7) := (((Ext.refl _).alloc _).alloc _).trans he7
  have ho := ho7 HTL.out.c
  rw [HTL.out.cl] at ho
  rw [HTL.out.c]
  obtain ⟨A7, c7', hv7, hI7, _⟩ := OwnI.slice' (n := 1) ho rfl
  subst hv7
  have HI7 := Lib.hid hI7
  clear ho ho7 hI7 he7 c0 c1 c2 c3 c4 c5 c6 a0 a1 a2 a3 a4
  obtain ⟨b5, o5, h5, i5⟩ := (HI5.out.ext (HX6.out.trans HX7.out)).g (k := 0) (show 0 < 1 from by omega)
  obtain ⟨b6, o6, h6, i6⟩ := (HI6.out.ext HX7.out).g (k := 0) (show 0 < 1 from by omega)
  obtain ⟨b7, o7, h7, i7⟩ := HI7.out.g (k := 0) (show 0 < 1 from by omega)
  subst h5; subst h6; subst h7
  simp only [gI, List.getD_cons_zero, Nat.add_zero] at i5 i6 i7
  have ha := HTL.out.a0; have hb := HTL.out.b0
  have e1 : wrap64 (-A0) = -A0 := IntWalk.wrap64_in _ ⟨by omega, by omega⟩
  have e2 : wrap64 (-B0) = -B0 := IntWalk.wrap64_in _ ⟨by omega, by omega⟩
  have k1 : decide ((if B0 < -B0 then -B0 else B0) ≤ if A0 < -A0 then -A0 else A0) = true := decide_eq_true (by have := HTL.out.le; split <;> split <;> omega)
  have k2 : decide (A0 ≤ C0) = true := decide_eq_true HTL.out.mo
  have HXz := Lib.hid ((HXt.out.trans HX6.out).trans HX7.out)
  have z5 := fun z : After w7 => After.cell i5 z
  have z6 := fun z : After w7 => After.cell i6 z
  have z7 := fun z : After w7 => After.cell i7 z
  go_wp2_with fail
  refine region_ext (by kernel_rfl) (by kernel_rfl) ?_
  repeat (first | go_big_quiet_step ((go_at_call 12; exact after_call (awake_any _))) | (go_big_quiet_want; go_simp; go_big_quiet_on))
  refine wpQuiet_nil ?_
  rintro w8 ⟨⟨_, he8⟩, rfl⟩
  have HX8 := Lib.hid (HXz.out.trans he8)
  clear e1 e2 k1 k2 z5 z6 z7 i5 i6 i7 ha hb
  go_wp2_with fail
  all_goals
    go_ret
    exact ⟨rfl, HX8.out⟩
end Go.Proofs.YtkigmpholnfkbaaGreat
