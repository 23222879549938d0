/- TopPattern returns true. Written by genltp.py. -/
import Derived.Test.YtfegbaokcbjllaaGreatKTpY
import Derived.Test.YtfegbaokcbjllaaGreatKPatt
/- what is kept behind an append to a field; plain words on rows -/
namespace Go.Proofs.YtfegbaokcbjllaaGreat
open Go.RowKit
theorem Kept.grown {K : Nat → Prop} {a b c : World} {row : Option Nat} (h : Kept K a b) (hg : b.grownBy c row) (hr : ∀ k, row = some k → a.heap.size ≤ k ∨ K k) : Kept K a c :=
 ⟨hg.os.trans h.os, hg.tape.trans h.tape, hg.output.trans h.output, Nat.le_trans h.size hg.size, fun i hi hn => (hg.block i (Nat.lt_of_lt_of_le hi h.size) (fun e => by rcases hr i e.symm with q | q; omega; exact hn q)).trans (h.block i hi hn)⟩
def StK (base : Nat) (w : World) (k : Nat) : Prop := base ≤ k ∧ ∃ cs, Blk 29 w k cs ∨ Blk 40 w k cs
def St (base : Nat) (w w' : World) : Prop := Kept (StK base w) w w'
theorem St.ofExt {base : Nat} {w w' : World} (h : Ext w w') : St base w w' := h.kept _
theorem St.refl (base : Nat) (w : World) : St base w w := Kept.refl _ _
theorem St.trans {base : Nat} {a b c : World} (h : St base a b) (k : St base b c) : St base a c :=
 ⟨k.os.trans h.os, k.tape.trans h.tape, k.output.trans h.output, Nat.le_trans h.size k.size, fun i hi hn => by
  have h1 := h.block i hi hn
  refine (k.block i (Nat.lt_of_lt_of_le hi h.size) (fun hb => hn ?_)).trans h1
  obtain ⟨hb1, cs, hb2⟩ := hb
  unfold Blk at hb2
  rw [h1] at hb2
  exact ⟨hb1, cs, hb2⟩⟩
theorem St.ofKept {base : Nat} {K : Nat → Prop} {w w' : World} (h : Kept K w w') (hk : ∀ k, k < w.heap.size → K k → StK base w k) : St base w w' := h.mono hk
theorem St.ext {z w w' : World} (h : St z.heap.size w w') (he : Ext z w) : Ext z w' := Kept.ext h he (fun _ hk => hk.1)
/- a piece that stays -/
def PcS (base : Nat) (w : World) (a : PcA) (p : Pc) : Prop := ∀ w', St base w w' → PcAt w' a p
theorem PcS.here {base : Nat} {w : World} {a : PcA} {p : Pc} (h : PcS base w a p) : PcAt w a p := h w (St.refl _ _)
theorem PcS.st {base : Nat} {w w' : World} {a : PcA} {p : Pc} (h : PcS base w a p) (hs : St base w w') : PcS base w' a p := fun w'' h' => h w'' (hs.trans h')
theorem stk_ne {base : Nat} {w : World} {k : Nat} (h : StK base w k) : ∃ t cs, Blk t w k cs ∧ (t = 29 ∨ t = 40) := by
 obtain ⟨_, cs, h | h⟩ := h
 ·exact ⟨_, cs, h, .inl rfl⟩
 ·exact ⟨_, cs, h, .inr rfl⟩
theorem own_st {base b1 : Nat} {w w' : World} {t : TypeId} {size : Nat} {v : Value} {n : Nat} {xs : List Value} (h : w.ownsRow b1 t size v n xs) (hs : St base w w') (ht : t ≠ 29 ∧ t ≠ 40) : w'.ownsRow b1 t size v n xs :=
 own_kept h hs (fun k hk hK => by
  obtain ⟨t', cs, hB, h1 | h1⟩ := stk_ne hK
  ·subst h1; exact own_blk_ne h hB ht.1 hk
  ·subst h1; exact own_blk_ne h hB ht.2 hk)
theorem ownE_st {base b1 : Nat} {w w' : World} {v : Value} {es : List Edge} (h : OwnE w b1 v es) (hs : St base w w') : OwnE w' b1 v es :=
 h.kept hs (fun k _ hK => by
  obtain ⟨t', cs, hB, h1 | h1⟩ := stk_ne hK
  ·subst h1; exact ⟨_, cs, hB, by decide, by decide⟩
  ·subst h1; exact ⟨_, cs, hB, by decide, by decide⟩)
theorem pcs_own {base b1 : Nat} {w : World} {nm : ByteArray} {gr : Int} {mt : Bool} {vE vC vW vN : Value} {es : List Edge} {cs ns : List Spot} {ws : List Int} (hE : OwnE w b1 vE es) (hC : OwnT 49 w b1 vC cs) (hW : OwnI w b1 vW ws) (hN : OwnT 79 w b1 vN ns)
  (lc : cs.length ≤ 1000) (lw : ws.length ≤ 1000) (ln : ns.length ≤ 1000) :
  ∃ a : PcA, [.string nm, vE, .int .i64 gr, vN, vC, vW, .bool mt] = PcA.cells a ∧ a.nm = nm ∧ a.gr = gr ∧ PcS base w a ⟨es, cs, ws, ns⟩ := by
 obtain ⟨AE, cE, rfl, _, hcE, hcE'⟩ := hE.slice
 obtain ⟨AC, cC, rfl, _, _⟩ := OwnT.slice' hC rfl
 obtain ⟨AN, cN, rfl, _, _⟩ := OwnT.slice' hN rfl
 obtain ⟨AW, cW, rfl, _, _⟩ := OwnI.slice' hW rfl
 refine ⟨⟨nm, AE, es.length, cE, gr, AN, ns.length, cN, AC, cs.length, cC, AW, ws.length, cW, mt⟩, rfl, rfl, rfl, fun w' hs => ?_⟩
 obtain ⟨A1, c1, e1, h1, _⟩ := (ownE_st hE hs).slice
 injection e1 with e1 _ _
 subst e1
 obtain ⟨A2, c2, e2, h2, _⟩ := OwnT.slice' (t := 49) (own_st hC hs ⟨by decide, by decide⟩) rfl
 injection e2 with e2 _ _
 subst e2
 obtain ⟨A3, c3, e3, h3, _⟩ := OwnT.slice' (t := 79) (own_st hN hs ⟨by decide, by decide⟩) rfl
 injection e3 with e3 _ _
 subst e3
 obtain ⟨A4, c4, e4, h4, _⟩ := OwnI.slice' (own_st hW hs ⟨by decide, by decide⟩) rfl
 injection e4 with e4 _ _
 subst e4
 exact ⟨h1, rfl, hcE, hcE', h2, rfl, by simp only; omega, h4, rfl, h3, rfl, by simp only; omega, by simp only; omega⟩
/- a row of pieces of the call's own -/
def aP0 : PcA := ⟨⟨#[]⟩, none, 0, 0, 0, none, 0, 0, none, 0, 0, none, 0, 0, false⟩
def gA (l : List PcA) (k : Nat) : PcA := l.getD k aP0
theorem gA_eq {l : List PcA} {k : Nat} (h : k < l.length) : gA l k = l[k] := by simp [gA, h]
def pxs (l : List PcA) : List Value := l.flatMap PcA.cells
theorem pxs_append (a b : List PcA) : pxs (a ++ b) = pxs a ++ pxs b := by simp [pxs]
theorem pxs_get (l : List PcA) (k j : Nat) (hj : j < 7) : (pxs l)[k * 7 + j]? = (l[k]?).bind fun a => (PcA.cells a)[j]? := by
 induction l generalizing k with
 |nil => simp [pxs]
 |cons a l ih =>
  cases k with
  |zero =>
   have : (PcA.cells a).length = 7 := rfl
   unfold pxs
   rw [List.flatMap_cons, List.getElem?_append_left (by omega)]
   simp
  |succ k =>
   unfold pxs at ih ⊢
   rw [List.flatMap_cons, List.getElem?_append_right (by simp; omega), show (k + 1) * 7 + j - (PcA.cells a).length = k * 7 + j by simp; omega, ih k]
   simp
def XParts (base : Nat) (w : World) (ps : List PcA) (l : List PcX) : Prop := ps.length = l.length ∧ ∀ k, k < l.length → PcS base w (gA ps k) (gPx l k).p ∧ (gA ps k).nm = (gPx l k).nm ∧ (gA ps k).gr = (gPx l k).gr
def OwnX (w : World) (base : Nat) (v : Value) (l : List PcX) : Prop := ∃ ps, XParts base w ps l ∧ w.ownsRow base 40 7 v l.length (pxs ps)
theorem OwnX.nil (w : World) (base : Nat) : OwnX w base (.slice none 0 0) [] := ⟨[], ⟨rfl, fun _ hk => absurd hk (Nat.not_lt_zero _)⟩, World.ownsRow_nil w base _ _⟩
theorem XParts.st {base : Nat} {w w' : World} {ps : List PcA} {l : List PcX} (h : XParts base w ps l) (hs : St base w w') : XParts base w' ps l := ⟨h.1, fun k hk => ⟨(h.2 k hk).1.st hs, (h.2 k hk).2⟩⟩
theorem OwnX.slice {w : World} {base : Nat} {v : Value} {l : List PcX} (h : OwnX w base v l) : ∃ A cap, v = .slice A l.length cap ∧ PiecesX w A l ∧ l.length ≤ cap ∧ cap ≤ 9223372036854775807 := by
 obtain ⟨ps, hp, ho⟩ := h
 rcases ho.2 with ⟨rfl, h0⟩ | ⟨g, cap, cur, rfl, hb, hh, hn, hm, hs, ht⟩
 ·rw [List.eq_nil_of_length_eq_zero h0]
  exact ⟨none, 0, rfl, fun _ hk => absurd hk (Nat.not_lt_zero _), Nat.le_refl _, by omega⟩
 ·refine ⟨_, cap, rfl, fun k hk => ?_, hn, hm⟩
  obtain ⟨h1, h2, h3⟩ := hp.2 k hk
  have hkp : k < ps.length := by rw [hp.1]; exact hk
  refine ⟨g, 0, gA ps k, rfl, h1.here, ?_, h2, h3⟩
  have hc : ∀ j u, (PcA.cells (gA ps k))[j]? = some u → w.cell? ⟨g, 0 + k * 7 + j, none⟩ = some u := fun j u hu => by
   have hj : j < 7 := by have := (List.getElem?_eq_some_iff.1 hu).1; simpa using this
   have := World.ownsRow.cells ho (g := g) rfl (k * 7 + j) u (by rw [pxs_get _ _ _ hj, List.getElem?_eq_getElem hkp, ← gA_eq hkp]; exact hu)
   rw [addr_add] at this
   rw [Nat.add_assoc]; exact this
  exact ⟨hc 0 _ rfl, hc 1 _ rfl, hc 2 _ rfl, hc 3 _ rfl, hc 4 _ rfl, hc 5 _ rfl, hc 6 _ rfl⟩
theorem gA_snoc {ps : List PcA} {a : PcA} {k : Nat} (h : k = ps.length) : gA (ps ++ [a]) k = a := by subst h; simp [gA]
theorem gA_left {ps : List PcA} {a : PcA} {k : Nat} (h : k < ps.length) : gA (ps ++ [a]) k = gA ps k := by simp [gA, List.getElem?_append_left h]
theorem gPx_snoc {l : List PcX} {a : PcX} {k : Nat} (h : k = l.length) : gPx (l ++ [a]) k = a := by subst h; simp [gPx]
theorem gPx_left {l : List PcX} {a : PcX} {k : Nat} (h : k < l.length) : gPx (l ++ [a]) k = gPx l k := by simp [gPx, List.getElem?_append_left h]
theorem XParts.snoc {base : Nat} {w : World} {ps : List PcA} {l : List PcX} {a : PcA} {X : PcX} (h : XParts base w ps l) (hp : PcS base w a X.p) (h1 : a.nm = X.nm) (h2 : a.gr = X.gr) : XParts base w (ps ++ [a]) (l ++ [X]) := by
 refine ⟨by simp [h.1], fun k hk => ?_⟩
 rcases Nat.lt_or_ge k l.length with hl | hl
 ·rw [gA_left (by rw [h.1]; exact hl), gPx_left hl]; exact h.2 k hl
 ·obtain rfl : k = l.length := by simp at hk; omega
  rw [gA_snoc h.1.symm, gPx_snoc rfl]; exact ⟨hp, h1, h2⟩
theorem piece_info : (Tryz.prog.info? 40).map (fun i => (i.zero, i.size, i.bytes)) = some (some (.agg #[.string ⟨#[]⟩, .slice none 0 0, .int .i64 0, .slice none 0 0, .slice none 0 0, .slice none 0 0, .bool false]), 7, 128) := by kernel_rfl
/- the field of a style set to a longer row -/
theorem OwnX.app {base : Nat} {W w1 : World} {B : Nat} {bc : List Value} {v : Value} {ps : List PcA} {l : List PcX} {a : PcA} {X : PcX} {g cap : Nat}
  (hB : Blk 29 W B bc) (hbB : base ≤ B) (hv : W.ownsRow base 40 7 v l.length (pxs ps)) (hp : XParts base W ps l) (ha : PcS base W a X.p) (hn : a.nm = X.nm) (hr : a.gr = X.gr)
  (hg : W.grownBy w1 v.ownBlock) (ho : w1.ownsRow base 40 7 (.slice (some ⟨g, 0, none⟩) (l.length + 1) cap) (l.length + 1) (pxs ps ++ PcA.cells a)) (j : Nat) :
  ∃ w2, w2 = w1.setCell ⟨B, j, none⟩ (.slice (some ⟨g, 0, none⟩) (l.length + 1) cap) ∧ St base W w2 ∧ Kept (fun k => k = B ∨ v.ownBlock = some k) W w2 ∧ OwnX w2 base (.slice (some ⟨g, 0, none⟩) (l.length + 1) cap) (l ++ [X]) ∧ Blk 29 w2 B (bc.set j (.slice (some ⟨g, 0, none⟩) (l.length + 1) cap)) := by
 have h1 : v.ownBlock ≠ some B := own_blk_ne hv hB (by decide)
 have hB1 : Blk 29 w1 B bc := (hg.block _ hB.lt (Ne.symm h1)).trans hB
 have hk : Kept (fun k => k = B ∨ v.ownBlock = some k) W (w1.setCell ⟨B, j, none⟩ (.slice (some ⟨g, 0, none⟩) (l.length + 1) cap)) :=
  ((Kept.refl _ W).grown hg (fun k hk => .inr (.inr hk))).set (p := ⟨B, j, none⟩) (.inr (.inl rfl)) _
 have hs : St base W (w1.setCell ⟨B, j, none⟩ (.slice (some ⟨g, 0, none⟩) (l.length + 1) cap)) := St.ofKept hk (fun k hkl hkk => by
  rcases hkk with rfl | hkk
  ·exact ⟨hbB, _, .inl hB⟩
  ·refine ⟨own_ge hv hkk, ?_⟩
   rcases hv.2 with ⟨rfl, _⟩ | ⟨g', cap', cur, rfl, _, hh, _⟩
   ·simp [Value.ownBlock] at hkk
   ·have : g' = k := by simpa [Value.ownBlock] using hkk
    subst this
    exact ⟨cur.toList, .inr hh⟩)
 refine ⟨_, rfl, hs, hk, ⟨ps ++ [a], (hp.st hs).snoc (ha.st hs) hn hr, ?_⟩, hB1.set j _⟩
 have h2 : (Value.slice (some ⟨g, 0, none⟩) (l.length + 1) cap).ownBlock ≠ some B := own_blk_ne ho hB1 (by decide)
 have := own_set ho (p := ⟨B, j, none⟩) h2 (.slice (some ⟨g, 0, none⟩) (l.length + 1) cap)
 rw [List.length_append, pxs_append]
 simpa [pxs] using this
section
variable {P : Program} {ops : Array Oper} {Q : Exit → Act → World → Prop}
def tailsD (ops : Array Oper) (l m : Nat) : Bool := (ops.size == l + m) && (List.range m).all (fun t => (List.range (l + t)).all fun j => onT ops 9 (l + t) j) && slBackB ops
theorem region_slotsD {id l m N : Nat} {a : Act} {w W0 : World} {L : List Oper} (ds : List Nat) (Ts : List (Value → World → Prop)) (hm : P.follows .mixedOrders = true) (hpos : 0 < m)
  (hB : tailsD L.toArray l m = true) (hD : (ds.length == l && decide ds.Nodup && ds.all (fun d => decide (d < N)) && (List.range l).all (fun i => (L.toArray[i]?).bind (·.dst) == ds[i]?)) = true) (hN : a.tmps.size = N) (hw : Ext W0 w)
  (hT : KpL Ts) (hstep : ∀ i, i < l → StepB P L.toArray Q a ds W0 (tAt Ts) i)
  (hlast : ∀ xs w, Ext W0 w → (∀ j, j < l → tAt Ts j (xs j) w) → wpList P L.toArray Q (L.drop l) (frOf a ds xs) w) :
  (Code.region id L.toArray true).wp P Q a w := by
 simp only [tailsD, Bool.and_eq_true, beq_iff_eq] at hB
 obtain ⟨⟨hn, hB⟩, hback⟩ := hB
 have hall : ∀ t j, l ≤ t → t < l + m → j < t → onT L.toArray 9 t j = true := fun t j h1 h2 h3 => by
  have h4 := List.all_eq_true.1 hB (t - l) (List.mem_range.2 (by omega))
  have h5 := List.all_eq_true.1 h4 j (List.mem_range.2 (by omega))
  rwa [show l + (t - l) = t by omega] at h5
 simp only [Bool.and_eq_true, beq_iff_eq, decide_eq_true_eq] at hD
 obtain ⟨⟨⟨hl, hnd⟩, hlt⟩, hdst⟩ := hD
 have hs : ∀ d ∈ ds, d < a.tmps.size := fun d hd => by rw [hN]; exact of_decide_eq_true (List.all_eq_true.1 hlt d hd)
 have hev : ∀ xs j d, ds[j]? = some d → (frOf a ds xs).eval (.tmp d) = xs j := fun xs j d h => by
  show (putAll a.tmps ds xs 0).getD d undef = _
  have := putAll_at ds a.tmps xs 0 j hnd h (hs d (List.mem_of_getElem? h))
  rw [Nat.zero_add] at this
  rw [Array.getD_eq_getD_getElem?, this]; rfl
 have hot : ∀ xs k, ds.contains k = false → (frOf a ds xs).eval (.tmp k) = a.eval (.tmp k) := fun xs k h => by
  show (putAll a.tmps ds xs 0).getD k undef = a.tmps.getD k undef
  rw [Array.getD_eq_getD_getElem?, Array.getD_eq_getD_getElem?, putAll_other ds a.tmps xs 0 (by simpa using h)]
 have hput : ∀ i o, i < l → L.toArray[i]? = some o → ∀ xs v, (frOf a ds xs).put o.dst v = frOf a ds (upd xs i v) := fun i o hi ho xs v => by
  have h1 := List.all_eq_true.1 hdst i (List.mem_range.2 hi)
  rw [ho] at h1
  have h2 : o.dst = ds[i]? := by simpa using h1
  obtain ⟨d, hd⟩ : ∃ d, ds[i]? = some d := ⟨ds[i]'(by omega), by rw [List.getElem?_eq_getElem (by omega)]⟩
  rw [h2, hd]
  show ({ a with tmps := (putAll a.tmps ds xs 0).setIfInBounds d v } : Act) = { a with tmps := putAll a.tmps ds (upd xs i v) 0 }
  have := putAll_set ds a.tmps xs 0 i v hnd hd hs
  rw [Nat.zero_add] at this
  rw [this]
 have hsz : L.length = l + m := by simpa using hn
 refine region_inv hm (fun listed a' w => Closed .any L.toArray listed ∧ listed.size = l + m ∧ (((∀ t, l ≤ t → t < l + m → listed.getD t true = false) ∧ Ext W0 w ∧ ∃ xs, a' = frOf a ds xs ∧ ∀ j, j < l → listed.getD j false = true → tAt Ts j (xs j) w) ∨ ∃ t, l < t ∧ t ≤ l + m ∧ (∀ j, j < t → listed.getD j true = true) ∧ (∀ j, t ≤ j → j < l + m → listed.getD j true = false) ∧ wpList P L.toArray Q (L.drop t) a' w)) ?_ ?_ ?_
 ·refine ⟨fun j oj _ hl' => (by rw [getD_replicate_false] at hl'; cases hl'), by simp [hsz], .inl ⟨fun t h1 h2 => by simp [hsz, h2], hw.drew, fun j => a.tmps.getD (ds.getD j 0) undef, ?_, fun j hj hl => ?_⟩⟩
  ·show a = { a with tmps := putAll a.tmps ds _ 0 }
   rw [putAll_same ds a.tmps _ hnd hs (fun j d h => by simp [h])]
  ·rw [hn] at hl
   simp [show j < l + m by omega] at hl
 ·rintro listed a' w i hi ⟨hcl, hsl, hI⟩
  obtain ⟨hun, o, ho, hdep⟩ := mem_ready.1 hi
  have hil : i < l + m := by rw [← hn]; exact (Array.getElem?_eq_some_iff.1 ho).1
  have hon : ∀ j, onB' .any L.toArray i j = true → listed.getD j false = true := fun j hj => by
   obtain ⟨o', ho', e, he, hb, hk⟩ := onB_spec hj
   have : o = o' := Option.some.inj (ho.symm.trans ho')
   subst this
   rw [← hk]; exact hdep e he hb
  have hcl' := hcl.set hi
  have honT : ∀ j, onT L.toArray 9 i j = true → listed.getD j false = true := fun j hj => by
   unfold onT at hj
   rw [Bool.or_eq_true] at hj
   rcases hj with h | h
   ·exact hon j h
   ·obtain ⟨k, _, h⟩ := List.any_eq_true.1 h
    rw [Bool.and_eq_true] at h
    exact closed_onT hcl 8 k j h.2 (hon k h.1)
  have hLo : L[i]? = some o := by simpa using ho
  have hdrop : L.drop i = o :: L.drop (i + 1) := by
   rw [List.drop_eq_getElem_cons (by omega)]
   rw [List.getElem?_eq_getElem (by omega)] at hLo
   rw [Option.some.inj hLo]
  have tail : l ≤ i → (∀ j, j < i → listed.getD j true = true) → (∀ j, i ≤ j → j < l + m → listed.getD j true = false) → wpList P L.toArray Q (L.drop i) a' w →
    wpOp P L.toArray Q i (fun a'' w' => Closed .any L.toArray (listed.setIfInBounds i true) ∧ (listed.setIfInBounds i true).size = l + m ∧ (((∀ t, l ≤ t → t < l + m → (listed.setIfInBounds i true).getD t true = false) ∧ Ext W0 w' ∧ ∃ xs, a'' = frOf a ds xs ∧ ∀ j, j < l → (listed.setIfInBounds i true).getD j false = true → tAt Ts j (xs j) w') ∨ ∃ t, l < t ∧ t ≤ l + m ∧ (∀ j, j < t → (listed.setIfInBounds i true).getD j true = true) ∧ (∀ j, t ≤ j → j < l + m → (listed.setIfInBounds i true).getD j true = false) ∧ wpList P L.toArray Q (L.drop t) a'' w')) a' w := by
   intro h1 h2 h3 h4
   rw [hdrop] at h4
   have h5 : wpOp P L.toArray Q i (wpList P L.toArray Q (L.drop (i + 1))) a' w := by
    unfold wpOp
    rw [ho]
    exact h4
   refine wpOp_mono (fun a'' w' hq => ⟨hcl', by simpa using hsl, .inr ⟨i + 1, by omega, by omega, fun j hj => ?_, fun j hj hj' => ?_, hq⟩⟩) h5
   ·by_cases hji : j = i
    ·subst hji; exact getD_false_true (getD_set_self hun)
    ·rw [getD_set_other true (Ne.symm hji)]; exact h2 j (by omega)
   ·rw [getD_set_other true (by omega)]; exact h3 j (by omega) hj'
  rcases hI with ⟨hfree, hx, xs, rfl, hxs⟩ | ⟨t, h1, h2, h3, h4, h5⟩
  ·by_cases hi' : l ≤ i
   ·have hdone : ∀ j, j < i → listed.getD j false = true := fun j hj => honT j (hall i j hi' hil hj)
    have hil2 : i = l := by
     rcases Nat.lt_or_ge l i with h | h
     ·have e1 := getD_false_true (hdone l h)
      rw [hfree l (Nat.le_refl _) (by omega)] at e1; cases e1
     ·omega
    subst hil2
    exact tail (Nat.le_refl _) (fun j hj => getD_false_true (hdone j hj)) (fun j hj hj' => hfree j hj hj') (hlast xs w hx (fun j hj => hxs j hj (hdone j hj)))
   ·have hil' : i < l := by omega
    have h1 := hstep i hil' o ho (frOf a ds xs) w hx (hot xs) (fun j d h hj => by
     rw [hev xs j d h]
     have hjl : j < l := by rw [← hl]; exact (List.getElem?_eq_some_iff.1 h).1
     exact hxs j hjl (hon j hj)) (fun a'' w' => Closed .any L.toArray (listed.setIfInBounds i true) ∧ (listed.setIfInBounds i true).size = l + m ∧ (((∀ t, l ≤ t → t < l + m → (listed.setIfInBounds i true).getD t true = false) ∧ Ext W0 w' ∧ ∃ xs, a'' = frOf a ds xs ∧ ∀ j, j < l → (listed.setIfInBounds i true).getD j false = true → tAt Ts j (xs j) w') ∨ ∃ t, l < t ∧ t ≤ l + m ∧ (∀ j, j < t → (listed.setIfInBounds i true).getD j true = true) ∧ (∀ j, t ≤ j → j < l + m → (listed.setIfInBounds i true).getD j true = false) ∧ wpList P L.toArray Q (L.drop t) a'' w')) (fun v w' he hv => by
     refine ⟨hcl', by simpa using hsl, .inl ⟨fun t ht ht' => by rw [getD_set_other true (by omega)]; exact hfree t ht ht', hx.trans he, upd xs i v, hput i o hil' ho xs v, fun j hj hl' => ?_⟩⟩
     by_cases hji : j = i
     ·subst hji; rw [upd_self]; exact hv
     ·rw [upd_ne xs v hji]
      rw [getD_set_other false (Ne.symm hji)] at hl'
      exact KpL.at hT j _ _ _ he (hxs j hj hl'))
    unfold wpOp
    rw [ho]
    simp only
    split
    ·rename_i hw'; rw [if_pos hw'] at h1; exact .inl h1
    ·rename_i hw'; rw [if_neg hw'] at h1; exact h1
  ·have hit : i = t := by
    rcases Nat.lt_trichotomy i t with h | h | h
    ·rw [h3 i h] at hun; cases hun
    ·exact h
    ·have e1 := getD_false_true (honT t (hall i t (by omega) hil h))
     rw [h4 t (Nat.le_refl _) (by omega)] at e1; cases e1
   subst hit
   exact tail (by omega) h3 h4 h5
 ·rintro listed a' w hr ⟨hcl, hsl, hI⟩
  have hle : ∀ i, i < l + m → listed.getD i true = false → False := by
   intro i
   induction i using Nat.strongRecOn with
   |ind i ih =>
    intro hil hun
    obtain ⟨o, ho⟩ : ∃ o, L.toArray[i]? = some o := ⟨L.toArray[i]'(by omega), by rw [Array.getElem?_eq_getElem (by omega)]⟩
    by_cases hd : ∀ e ∈ o.after, Region.binds .any e = true → listed.getD e.on false = true
    ·have : i ∈ Region.ready .any L.toArray listed := mem_ready.2 ⟨hun, o, ho, hd⟩
     rw [hr] at this; cases this
    ·simp only [Classical.not_forall] at hd
     obtain ⟨e, he, hb, hne⟩ := hd
     have hlt := slBackB_spec hback ho e he hb
     refine ih e.on hlt (by omega) ?_
     have h4 : e.on < listed.size := by omega
     simp [h4] at hne ⊢
     exact hne
  rcases hI with ⟨hfree, _⟩ | ⟨t, h1, h2, h3, h4, h5⟩
  ·exact absurd (hfree l (Nat.le_refl _) (by omega)) (fun h => hle l (by omega) h)
  ·rcases Nat.lt_or_ge t (l + m) with h | h
   ·exact absurd (h4 t (Nat.le_refl _) h) (fun h' => hle t h h')
   ·rw [List.drop_of_length_le (by omega)] at h5
    exact h5
end
/- the row after k rounds -/
def polF (f : Bool) (q : Int) (l : List Spot) (k p : Nat) : Spot := if f = true then (if l.length - k ≤ p then applyT f q (gS l (l.length - 1 - p)) else (0, 0)) else (if p < k then applyT f q (gS l p) else (0, 0))
def polL (f : Bool) (q : Int) (l : List Spot) (k : Nat) : List Spot := (List.range l.length).map (polF f q l k)
theorem polL_len (f : Bool) (q : Int) (l : List Spot) (k : Nat) : (polL f q l k).length = l.length := by simp [polL]
theorem polL_get {f : Bool} {q : Int} {l : List Spot} {k p : Nat} (h : p < l.length) : gS (polL f q l k) p = polF f q l k p := by simp [gS, polL, h]
theorem polL_zero (f : Bool) (q : Int) (l : List Spot) : polL f q l 0 = List.replicate l.length (0, 0) := list_ext_gS (by simp [polL]) fun p hp => by
 rw [polL_len] at hp
 rw [polL_get hp]
 unfold polF
 have e : gS (List.replicate l.length ((0, 0) : Spot)) p = (0, 0) := by rw [gS_eq (by simpa using hp)]; simp
 rw [e]
 cases f
 ·simp
 ·rw [if_pos rfl, if_neg (by omega)]
theorem polL_succ {f : Bool} {q : Int} {l : List Spot} {k : Nat} (h : k < l.length) : (polL f q l k).set (if f = true then l.length - 1 - k else k) (applyT f q (gS l k)) = polL f q l (k + 1) := list_ext_gS (by simp [polL]) fun p hp => by
 rw [List.length_set, polL_len] at hp
 rw [polL_get hp]
 have hset : gS ((polL f q l k).set (if f = true then l.length - 1 - k else k) (applyT f q (gS l k))) p = if p = (if f = true then l.length - 1 - k else k) then applyT f q (gS l k) else gS (polL f q l k) p := by
  by_cases e : p = (if f = true then l.length - 1 - k else k)
  ·rw [if_pos e, gS_eq (by rw [List.length_set, polL_len]; exact hp)]
   simp [e]
  ·rw [if_neg e]
   simp only [gS, List.getD_eq_getElem?_getD]
   rw [List.getElem?_set_ne (Ne.symm e)]
 rw [hset, polL_get hp]
 cases f with
 |false =>
  simp only [Bool.false_eq_true, if_false]
  unfold polF
  simp only [Bool.false_eq_true, if_false]
  by_cases e : p = k
  ·subst e; rw [if_pos rfl, if_pos (by omega)]
  ·rw [if_neg e]
   by_cases e2 : p < k
   ·rw [if_pos e2, if_pos (by omega)]
   ·rw [if_neg e2, if_neg (by omega)]
 |true =>
  simp only [if_true]
  unfold polF
  simp only [if_true]
  by_cases e : p = l.length - 1 - k
  ·subst e; rw [if_pos rfl, if_pos (by omega), show l.length - 1 - (l.length - 1 - k) = k by omega]
  ·rw [if_neg e]
   by_cases e2 : l.length - k ≤ p
   ·rw [if_pos e2, if_pos (by omega)]
   ·rw [if_neg e2, if_neg (by omega)]
theorem polL_all (f : Bool) (q : Int) (l : List Spot) : polL f q l l.length = turnL f q l := list_ext_gS (by rw [polL_len, turnL_len]) fun p hp => by
 rw [polL_len] at hp
 rw [polL_get hp, turnL_get hp]
 unfold polF
 cases f
 ·simp [hp]
 ·simp
set_option maxRecDepth 100000 in
set_option maxHeartbeats 1600000 in
theorem poly_any (A : Option Addr) (n c : Nat) (f : Bool) (q : Int) (l : List Spot) (w : World) (ha : SpotsAt w A l) (hl : l.length = n) (hn : n ≤ 1000) :
  Calls Tryz.prog 11 #[TV f q, .slice A n c] w fun e w' => ∃ g, e = .returned (.slice (some ⟨g, 0, none⟩) n n) ∧ SpotsAt w' (some ⟨g, 0, none⟩) (turnL f q l) ∧ Ext w w' := by
 have HA := Lib.hid ha; have HL := Lib.hid hl
 clear ha hl
 have hmk := fun W : World => make_spots n (by omega) W
 go_enter Tryz.func11, Tryz.ntmps11
 go_wp2_with fail
 refine wp_at fun w1 hw1 => ?_
 have HT1 : Hid (Blk 31 w1 w.heap.size [.bool f, .int .i64 q]) := by show Blk _ _ _ _; rw [hw1]; exact (Blk.new' rfl).ext ((Ext.refl _).alloc _)
 have HB1 : Hid (Blk 49 w1 (w.heap.size + 1) (scells (polL f q l 0))) := by show Blk _ _ _ _; rw [hw1, made_two, polL_zero, HL.out]; exact Blk.new' (by simp)
 have HX1 : Hid (Ext w w1) := by show Ext _ _; rw [hw1]; exact ((Ext.refl _).alloc _).alloc _
 clear hw1 hmk
 have HGT : Hid (w.heap.size < w1.heap.size) := HT1.out.lt
 go_loopw [13] (fun i wr => ∃ k : Nat, k ≤ n ∧ i = .int .i64 (k : Int) ∧ Blk 49 wr (w.heap.size + 1) (scells (polL f q l k)) ∧ Blk 31 wr w.heap.size [.bool f, .int .i64 q] ∧ Ext w wr) (fun i _ => n - (intOf i).toNat)
 case atStart => exact ⟨0, Nat.zero_le _, rfl, HB1.out, HT1.out, HX1.out⟩
 case round =>
  obtain ⟨k, hk, rfl, hb, ht, hx⟩ := hrel
  have HB := Lib.hid hb; have HT := Lib.hid ht; have HX := Lib.hid hx
  clear hb ht hx
  by_cases hlt : k < n
  ·obtain ⟨ba, oa, rfl, q0, q1⟩ := (HA.out.ext HX.out).g (k := k) (by rw [HL.out]; exact hlt)
   obtain ⟨⟨sx, sy⟩, hs⟩ : ∃ s, s = gS l k := ⟨_, rfl⟩
   rw [← hs] at q0 q1
   have HS := Lib.hid hs
   have HAP := Lib.hid (fun W => apply_any f q (sx, sy) W)
   clear hs
   obtain ⟨t0, t1⟩ := blk2 HT.out
   obtain ⟨⟨ex, ey⟩, he⟩ : ∃ s, s = applyT f q (sx, sy) := ⟨_, rfl⟩
   rw [← he] at HAP
   have HE : Hid ((ex, ey) = applyT f q (gS l k)) := by show _ = _; rw [he, HS.out]
   clear he
   have hk1 : (k : Int) < n := by omega
   have hLN : (scells (polL f q l k)).length = n * 2 := by rw [scells_length, polL_len, HL.out]
   have HLNH := Lib.hid hLN
   clear hLN
   have hgs : w.heap.size + 1 < wr.heap.size := HB.out.lt
   have hgt : w.heap.size < wr.heap.size := HT.out.lt
   have hwn : IntKind.i64.wrap ((n : Int) - 1) = (n : Int) - 1 := IntWalk.i64_in _ (by omega)
   cases f with
   |false =>
    go_wp2_with fail
    refine (HAP.out _).mono ?_
    rintro e w3 ⟨rfl, he3⟩
    have HX3 : Hid (Ext wr w3) := ((Ext.refl _).alloc _).trans he3
    have HB3 : Hid (Blk 49 w3 (w.heap.size + 1) (scells (polL false q l k) ++ [])) := by show Blk _ _ _ _; rw [List.append_nil]; exact HB.out.ext HX3.out
    have HT3 := Lib.hid (HT.out.ext HX3.out)
    clear he3 t0 t1 q0 q1
    have hpl : k < (polL false q l k).length := by rw [polL_len, HL.out]; omega
    obtain ⟨c0, c1, f0, f1⟩ := pair_cells HB3.out hpl
    go_wp2_with fail
    go_roundw
    case rel =>
     refine ⟨k + 1, by omega, by go_num, ?_, (HT3.out.other (p := ⟨w.heap.size + 1, k * 2, none⟩) (Nat.ne_of_lt (Nat.lt_succ_self _)) _).other (p := ⟨w.heap.size + 1, k * 2 + 1, none⟩) (Nat.ne_of_lt (Nat.lt_succ_self _)) _, Ext.setCell (p := ⟨w.heap.size + 1, k * 2 + 1, none⟩) (Ext.setCell (p := ⟨w.heap.size + 1, k * 2, none⟩) (HX.out.trans HX3.out) (Nat.le_succ _) _) (Nat.le_succ _) _⟩
     have h := pair_set HB3.out hpl (ex, ey)
     rw [List.append_nil] at h
     have e2 := polL_succ (f := false) (q := q) (l := l) (k := k) (by rw [HL.out]; exact hlt)
     rw [if_neg (by decide)] at e2
     rw [← HE.out] at e2
     rw [← e2]
     exact h
    case measure => simp [intOf]; omega
   |true =>
    obtain ⟨p, hp⟩ : ∃ p, p = n - 1 - k := ⟨_, rfl⟩
    have hwk : IntKind.i64.wrap ((n : Int) - 1 - (k : Int)) = (p : Int) := by rw [IntWalk.i64_in _ (by omega)]; omega
    have hp0 : (0 : Int) ≤ p := by omega
    have hp1 : (p : Int) < n := by omega
    have HP := Lib.hid hp
    clear hp
    go_wp2_with fail
    refine (HAP.out _).mono ?_
    rintro e w3 ⟨rfl, he3⟩
    have HX3 : Hid (Ext wr w3) := ((Ext.refl _).alloc _).trans he3
    have HB3 : Hid (Blk 49 w3 (w.heap.size + 1) (scells (polL true q l k) ++ [])) := by show Blk _ _ _ _; rw [List.append_nil]; exact HB.out.ext HX3.out
    have HT3 := Lib.hid (HT.out.ext HX3.out)
    clear he3 t0 t1 q0 q1
    have hpl : p < (polL true q l k).length := by rw [polL_len, HL.out]; omega
    obtain ⟨c0, c1, f0, f1⟩ := pair_cells HB3.out hpl
    go_wp2_with fail
    go_roundw
    case rel =>
     refine ⟨k + 1, by omega, by go_num, ?_, (HT3.out.other (p := ⟨w.heap.size + 1, p * 2, none⟩) (Nat.ne_of_lt (Nat.lt_succ_self _)) _).other (p := ⟨w.heap.size + 1, p * 2 + 1, none⟩) (Nat.ne_of_lt (Nat.lt_succ_self _)) _, Ext.setCell (p := ⟨w.heap.size + 1, p * 2 + 1, none⟩) (Ext.setCell (p := ⟨w.heap.size + 1, p * 2, none⟩) (HX.out.trans HX3.out) (Nat.le_succ _) _) (Nat.le_succ _) _⟩
     have h := pair_set HB3.out hpl (ex, ey)
     rw [List.append_nil] at h
     have e2 := polL_succ (f := true) (q := q) (l := l) (k := k) (by rw [HL.out]; exact hlt)
     rw [if_pos rfl, HL.out, ← HP.out] at e2
     rw [← HE.out] at e2
     rw [← e2]
     exact h
    case measure => simp [intOf]; omega
  ·obtain rfl : k = n := by omega
   go_wp2_with fail
   go_ret
   exact ⟨_, rfl, by rw [← polL_all, HL.out]; exact SpotsAt.of_cells fun j u hu => by rw [Nat.zero_add, HB.out.cell]; exact hu, HX.out⟩
def RetMo (w : World) (x : StyX) (e : Ending) (w' : World) : Prop := ∃ b, e = .returned (.bool b) ∧ Ext w w' ∧ (b = true → x.sz.length ≤ 4)
set_option maxRecDepth 100000 in
set_option maxHeartbeats 1600000 in
theorem modest_any (a : StyA) (x : StyX) (w : World) (hs : StyXAt w a x) : Calls Tryz.prog 5 #[a.val] w (RetMo w x) := by
 have HS := Lib.hid hs; clear hs
 obtain ⟨nm, AS, nS, cS, AM, nM, cM, AP, nP, cP, AU, nU, cU, AK, nK, cK, AO, nO, cO⟩ := a
 have HLS : Hid (x.sz.length = nS) := HS.out.lS
 have HLP : Hid (x.ps.length = nP) := HS.out.lP
 simp only [StyA.val]
 go_enter Tryz.func5, Tryz.ntmps5
 go_upto_region 1 with fail
 refine wp_at fun w0 hw0 => ?_
 have HB0 : Hid (Blk 29 w0 w.heap.size [.string nm, .slice AS nS cS, .slice AM nM cM, .slice AP nP cP, .slice AU nU cU, .slice AK nK cK, .slice AO nO cO]) := by show Blk _ _ _ _; rw [hw0]; exact Blk.new' rfl
 have HX0 : Hid (Ext w w0) := by show Ext _ _; rw [hw0]; exact (Ext.refl _).alloc _
 clear hw0
 obtain ⟨s0, s1, s2, s3, s4, s5, s6⟩ := blk7 HB0.out
 by_cases g0 : (4 : Int) < nP
 ·go_wp2_with fail
  go_ret
  exact ⟨_, rfl, HX0.out, fun h => by cases h⟩
 by_cases g1 : (4 : Int) < nU
 ·go_wp2_with fail
  go_ret
  exact ⟨_, rfl, HX0.out, fun h => by cases h⟩
 by_cases g2 : (4 : Int) < nS
 ·go_wp2_with fail
  go_ret
  exact ⟨_, rfl, HX0.out, fun h => by cases h⟩
 by_cases g3 : (4 : Int) < nM
 ·go_wp2_with fail
  go_ret
  exact ⟨_, rfl, HX0.out, fun h => by cases h⟩
 by_cases g4 : (6 : Int) < nK
 ·go_wp2_with fail
  go_ret
  exact ⟨_, rfl, HX0.out, fun h => by cases h⟩
 have HN4 : Hid (nS ≤ 4) := by show _ ≤ _; omega
 have hnP : nP ≤ 4 := by omega
 go_wp2_with fail
 clear s0 s1 s2 s3 s4 s5 s6 g0 g1 g2 g3 g4
 go_loopw [3] (fun i wr => ∃ k : Nat, k ≤ nP ∧ i = .int .i64 k ∧ Ext w0 wr) (fun i _ => nP - (intOf i).toNat)
 case atStart => exact ⟨0, Nat.zero_le _, rfl, Ext.refl _⟩
 case round =>
  obtain ⟨k, hk, rfl, hx⟩ := hrel
  obtain ⟨wR, rfl⟩ : ∃ wR : World, wR = wr := ⟨_, rfl⟩
  have HX := Lib.hid hx; clear hx
  have HBR := Lib.hid (HB0.out.ext HX.out)
  obtain ⟨s0, s1, s2, s3, s4, s5, s6⟩ := blk7 HBR.out
  by_cases hlt : k < nP
  rotate_left
  ·obtain rfl : k = nP := by omega
   go_wp2_with fail
   go_ret
   exact ⟨_, rfl, HX0.out.trans HX.out, fun _ => by rw [HLS.out]; exact HN4.out⟩
  obtain ⟨b, off, A, hAP, hpc, hcc, _, _⟩ := HS.out.P k (by rw [HLP.out]; exact hlt)
  obtain rfl : AP = some ⟨b, off, none⟩ := hAP
  have hpe := hpc.e; have hle := hpc.le
  have hcx := hcc.ext (HX0.out.trans HX.out)
  have hc1 := hcx.c1
  clear hcc hcx hpc
  obtain ⟨nmA, AE, nE, cE, gr, AN, nN, cN, AC, nC, cC, AW, nW, cW, mt⟩ := A
  simp only at hc1 hpe hle
  obtain ⟨es, hes⟩ : ∃ es, es = (gPx x.ps k).p.es := ⟨_, rfl⟩
  rw [← hes] at hpe hle
  have HPE := Lib.hid hpe; have HLE := Lib.hid hle; have HC1 := Lib.hid hc1
  clear hes hpe hle hc1 s0 s1 s2 s4 s5 s6
  have hk1 : (k : Int) < nP := by omega
  go_wp2_with fail
  clear s3
  go_loopw [4, 5] (fun n j wr => ∃ (m t : Nat), m ≤ nE ∧ m ≤ 17 ∧ j = .int .i64 m ∧ n = .int .i64 t ∧ t ≤ 30 * m ∧ Ext wR wr) (fun _ j _ => nE - (intOf j).toNat)
  case atStart => exact ⟨0, 0, Nat.zero_le _, Nat.zero_le _, rfl, rfl, Nat.zero_le _, Ext.refl _⟩
  case round =>
   obtain ⟨m, t, hm, hm17, rfl, rfl, ht, hx⟩ := hrel
   obtain ⟨wS, rfl⟩ : ∃ wS : World, wS = wr := ⟨_, rfl⟩
   have HXS := Lib.hid hx; clear hx
   have HBS := Lib.hid (HBR.out.ext HXS.out)
   obtain ⟨s0, s1, s2, s3, s4, s5, s6⟩ := blk7 HBS.out
   have e1 := HXS.out.cell HC1.out
   clear s0 s1 s2 s4 s5 s6
   by_cases hl : m < nE
   ·by_cases h17 : m < 17
    ·obtain ⟨bE, oE, L, c, hAE, _, q1, _⟩ := (HPE.out.ext ((HX0.out.trans HX.out).trans HXS.out)).g (k := m) (by rw [HLE.out]; exact hl)
     subst hAE
     obtain ⟨Z, hZ⟩ : ∃ Z, Z = (gE es m).2.length := ⟨_, rfl⟩
     rw [← hZ] at q1
     clear hZ
     have hm1 : (m : Int) < nE := by omega
     have hm2 : (m : Int) < 17 := by omega
     have hwt : ∀ z : Int, 0 ≤ z → z ≤ 30 → IntKind.i64.wrap ((t : Int) + z) = (t : Int) + z := fun z h0 h1 => IntWalk.i64_in _ (by omega)
     by_cases hz : (Z : Int) < 30
     ·have hw := hwt (Z : Int) (by omega) (by omega)
      go_wp2_with fail
      go_roundw
      case rel => exact ⟨m + 1, t + Z, by omega, by omega, by go_num, by go_num, by omega, HXS.out⟩
      case measure => simp [intOf]; omega
     ·have hw := hwt 30 (by omega) (by omega)
      go_wp2_with fail
      go_roundw
      case rel => exact ⟨m + 1, t + 30, by omega, by omega, by go_num, by go_num, by omega, HXS.out⟩
      case measure => simp [intOf]; omega
    ·obtain rfl : m = 17 := by omega
     by_cases h24 : (24 : Int) < t
     ·go_wp2_with fail
      go_ret
      exact ⟨_, rfl, (HX0.out.trans HX.out).trans HXS.out, fun h => by cases h⟩
     ·go_wp2_with fail
      go_roundw
      case rel => exact ⟨k + 1, by omega, by go_num, HX.out.trans HXS.out⟩
      case measure => simp [intOf]; omega
   ·obtain rfl : m = nE := by omega
    by_cases h24 : (24 : Int) < t
    ·go_wp2_with fail
     go_ret
     exact ⟨_, rfl, (HX0.out.trans HX.out).trans HXS.out, fun h => by cases h⟩
    ·go_wp2_with fail
     go_roundw
     case rel => exact ⟨k + 1, by omega, by go_num, HX.out.trans HXS.out⟩
     case measure => simp [intOf]; omega
theorem blk_newsP {t : TypeId} {w : World} {g : Nat} {cs : List Value} (h : Blk t w g cs) : ∀ j u, cs[j]? = some u → w.cell? ((⟨g, 0, none⟩ : Addr).add j) = some u := fun j u hj => by
 rw [addr_add, Nat.zero_add, h.cell j]; exact hj
/- a turned piece, as a value and as a row of one -/
def IsTp (base : Nat) (X : PcX) (f : Bool) (q : Int) : Value → World → Prop := fun v w => ∃ a : PcA, v = a.val ∧ PcS base w a (tPc f q X.p) ∧ a.nm = X.nm ∧ a.gr = X.gr
theorem IsTp.kp (base : Nat) (X : PcX) (f : Bool) (q : Int) : Kp (IsTp base X f q) := fun v w w' he h => by
 obtain ⟨a, h1, h2, h3⟩ := h
 exact ⟨a, h1, h2.st (St.ofExt he), h3⟩
def IsTr (base : Nat) (X : PcX) (f : Bool) (q : Int) : Value → World → Prop := fun v w => ∃ g, ∃ a : PcA, v = .slice (some ⟨g, 0, none⟩) 1 1 ∧ Blk 40 w g (PcA.cells a) ∧ PcS base w a (tPc f q X.p) ∧ a.nm = X.nm ∧ a.gr = X.gr
theorem IsTr.kp (base : Nat) (X : PcX) (f : Bool) (q : Int) : Kp (IsTr base X f q) := fun v w w' he h => by
 obtain ⟨g, a, h1, h2, h3, h4⟩ := h
 exact ⟨g, a, h1, h2.ext he, h3.st (St.ofExt he), h4⟩
theorem isTr_new {base : Nat} {X : PcX} {f : Bool} {q : Int} {w : World} {a : PcA} (h : PcS base w a (tPc f q X.p)) (hn : a.nm = X.nm ∧ a.gr = X.gr) :
  IsTr base X f q (.slice (some ⟨w.heap.size, 0, none⟩) 1 1) (w.alloc (.cells #[.string a.nm, .slice a.AE a.nE a.cE, .int .i64 a.gr, .slice a.AN a.nN a.cN, .slice a.AC a.nC a.cC, .slice a.AW a.nW a.cW, .bool a.mt] 40)) :=
 ⟨_, a, rfl, Blk.new' rfl, h.st (St.ofExt ((Ext.refl _).alloc _)), hn⟩
theorem turnedP_any {base : Nat} {W : World} {a : PcA} {X : PcX} (f : Bool) (q : Int) (ha : PcAt W a X.p) (hn : a.nm = X.nm ∧ a.gr = X.gr) (hE : a.nE ≤ 1000) (hl : ∀ k, k < a.nE → (gE X.p.es k).2.length ≤ 1000) (hC : a.nC ≤ 1000) (hW : a.nW ≤ 1000) (hN : a.nN ≤ 1000) :
  Calls Tryz.prog 8 #[a.val, TV f q] W (Ret (IsTp base X f q) W) := by
 have h := turned_any0 a.nm a.AE a.AN a.AC a.AW a.nE a.cE a.nN a.cN a.nC a.cC a.nW a.cW a.gr a.mt f q X.p.es X.p.cs X.p.ws X.p.ns W ha.e ha.le hE hl ha.c ha.lc hC ha.i ha.li hW ha.n ha.ln hN
 refine h.mono ?_
 rintro e w6 ⟨vE, vC, vW, vN, rfl, hoE, hoC, hoW, hoN, he6⟩
 obtain ⟨aN, hcl, hnm, hgr, hps⟩ := pcs_own (base := base) (nm := a.nm) (gr := a.gr) (mt := a.mt) hoE hoC hoW hoN (by rw [turnC_len, ha.lc]; exact hC) (by rw [turnW_len, ha.li]; exact hW) (by rw [turnNs_len, ha.ln]; exact hN)
 refine ⟨aN.val, ?_, ⟨aN, rfl, ?_, hnm.trans hn.1, hgr.trans hn.2⟩, he6⟩
 ·have h2 : #[Value.string a.nm, vE, .int .i64 a.gr, vN, vC, vW, .bool a.mt] = (PcA.cells aN).toArray := by rw [← hcl]
  show Ending.returned (.agg _) = Ending.returned (.agg _)
  rw [h2]
 ·rw [← ha.le] at hps
  exact hps
/- one size and one use -/
structure TpZ (x : StyX) (f : Bool) (q : Int) (z u pi : Nat) (p : Pc) (m : Int) : Prop where
 pc : (gU x.us u).pc = (pi : Int)
 lt : pi < x.ps.length
 hp : (gPx x.ps pi).p = p
 ht : (gPx (tSt f q x).ps pi).p = tPc f q p
 hm : gI x.ms z = m
 w : p.ws.length = p.es.length
 w' : (tPc f q p).ws.length = (tPc f q p).es.length
 c : gradedR p.es p.cs m = 0 → CutOk p m
 c' : gradedR (tPc f q p).es (tPc f q p).cs m = 0 → CutOk (tPc f q p) m
 iff : cutE (tPc f q p) m = 0 ↔ cutE p m = 0
 fin : cutE p m = 0 → pcheck (turnL f q (ptsA (gradedE p.es p.cs m) p.ws)) = 0 ∧ pcheck (ptsA (gradedE (tPc f q p).es (tPc f q p).cs m) (tPc f q p).ws) = 0 ∧ normG (turnL f q (ptsA (gradedE p.es p.cs m) p.ws)) = normG (ptsA (gradedE (tPc f q p).es (tPc f q p).cs m) (tPc f q p).ws)
theorem use_pc {x : StyX} {u : Nat} (h : useE x u = 0) : ∃ pi : Nat, (gU x.us u).pc = (pi : Int) ∧ pi < x.ps.length := by
 unfold useE at h
 split at h
 ·cases h
 rename_i h1
 exact ⟨(gU x.us u).pc.toNat, by omega, by omega⟩
theorem tpz {x : StyX} (f : Bool) (q : Int) (hw : ∀ k, k < x.ps.length → WfE (gPx x.ps k).p.es ∧ WfL (gPx x.ps k).p.cs) (h : styE x = 0) (z : Nat) {u : Nat} (hu : u < x.us.length) : ∃ pi p m, TpZ x f q z u pi p m := by
 obtain ⟨_, h2, h3, _⟩ := styE_zero h
 obtain ⟨pi, h4, h5⟩ := use_pc (h3 u hu)
 have hk := pieceE_ok (h2 pi h5)
 have hW := pieceE_w (h2 pi h5)
 have hW' : WOk (tPc f q (gPx x.ps pi).p).ws := turnW_ok hk.w hW
 have hl' : (tPc f q (gPx x.ps pi).p).ws.length = (tPc f q (gPx x.ps pi).p).es.length := by
  show (turnW f _ _).length = (turnE f q _).length
  rw [turnW_len, turnE_len]; exact hk.w
 have ct := cut_turn (m := gI x.ms z) f q (hw pi h5).1 (hw pi h5).2 hk.w hW
 exact ⟨pi, _, _, h4, h5, rfl, by rw [tSt_get h5], rfl, hk.w, hl', cutOk_of hk.w hW, cutOk_of hl' hW', ct.1, ct.2⟩
def RetCu (w : World) (C : Int) (L : List Spot) (e : Ending) (w' : World) : Prop := ∃ v, e = .returned (.tuple #[v, .int .i64 C]) ∧ (C = 0 → OwnS w' w.heap.size v L) ∧ Ext w w'
theorem cutX_any {a : StyA} {x : StyX} {z u pi : Nat} {p : Pc} {m : Int} {C : Int} {L : List Spot} {W : World} (hs : StyXAt W a x) (hN : x.sz.length ≤ 1000) (hZ : ∀ k, k < x.sz.length → (gB x.sz k).size ≤ 9223372036854775807) (hok : styE x = 0) (hz : z < x.sz.length) (hu : u < x.us.length)
  (hpc : (gU x.us u).pc = (pi : Int)) (hlt : pi < x.ps.length) (hp : (gPx x.ps pi).p = p) (hm : gI x.ms z = m) (hw : p.ws.length = p.es.length) (hc : gradedR p.es p.cs m = 0 → CutOk p m) (hC : C = cutE p m) (hL : L = ptsA (gradedE p.es p.cs m) p.ws) :
  Calls Tryz.prog 9 #[a.val, .int .i64 (z : Int), .int .i64 (u : Int)] W (RetCu W C L) := by
 subst hp hm hC hL
 refine (cut_any a x z u pi W hs hN hZ hok hz (whole_ms (styE_zero hok).1).1 hu hpc hlt hw hc).mono ?_
 rintro e w' ⟨v, h1, h2, _, h4⟩
 exact ⟨v, h1, h2, h4⟩
/- Normal of a polygon in order -/
def RetNo (w : World) (N : List Spot) (e : Ending) (w' : World) : Prop := ∃ v, e = .returned (.tuple #[v, .int .i64 0]) ∧ OwnS w' w.heap.size v N ∧ Ext w w'
theorem normalO_any {A : Option Addr} {n c : Nat} {l N : List Spot} {w : World} (ha : SpotsAt w A l) (hl : l.length = n) (hn : n ≤ c) (h0 : pcheck l = 0) (hN : N = normG l) :
  Calls Tryz.prog 10 #[.slice A n c] w (RetNo w N) := by
 subst hN
 refine (normalG_any A n c l w ha hl hn (fun h => by rw [← hl]; exact corner_ne h)).mono ?_
 rintro e w' ⟨v, h1, h2, _, h4⟩
 rw [h0] at h1
 exact ⟨v, h1, h2 h0, h4⟩
theorem good_piece {x : StyX} (h : styE x = 0) {k : Nat} (hk : k < x.ps.length) : (gPx x.ps k).p.es.length ≤ 16 ∧ (gPx x.ps k).p.cs.length ≤ 16 ∧ (gPx x.ps k).p.ws.length ≤ 16 ∧ (gPx x.ps k).p.ns.length ≤ 16 ∧ ∀ j, j < (gPx x.ps k).p.es.length → (gE (gPx x.ps k).p.es j).2.length ≤ 40 := by
 have ho := pieceE_ok ((styE_zero h).2.1 k hk)
 have h1 := ocheck_ok ho.g.ok
 exact ⟨h1.2.1, by rw [ho.g.len]; exact h1.2.1, by rw [ho.w]; exact h1.2.1, (plE_zero.1 ho.n).n, fun j hj => (lcheck_len (ocheck_line ho.g.ok hj)).2⟩
theorem whole_len {x : StyX} (h : styE x = 0) : x.ps.length ≤ 12 := by
 have h1 := (styE_zero h).1
 unfold wholeE at h1
 split at h1
 ·cases h1
 split at h1
 ·cases h1
 split at h1
 ·cases h1
 split at h1
 ·cases h1
 split at h1
 ·cases h1
 rename_i c5
 omega
set_option maxRecDepth 100000 in
set_option maxHeartbeats 6400000 in
theorem topPattern_any (a : StyA) (x : StyX) (f : Bool) (q : Int) (w : World) (hs : StyXAt w a x) (hwf : ∀ k, k < x.ps.length → WfE (gPx x.ps k).p.es ∧ WfL (gPx x.ps k).p.cs) (hz : ∀ k, k < x.sz.length → (gB x.sz k).size ≤ 9223372036854775807) :
  Calls Tryz.prog 3 #[a.val, TV f q] w fun e w' => e = .returned (.bool true) ∧ Ext w w' := by
 have HS := Lib.hid hs; have HWF := Lib.hid hwf; have HZ := Lib.hid hz
 have HMO : Hid (∀ W, Ext w W → Calls Tryz.prog 5 #[a.val] W (RetMo W x)) := fun W h => modest_any a x W (hs.ext h)
 have HCK : Hid (x.sz.length ≤ 1000 → ∀ W, Ext w W → Calls Tryz.prog 6 #[a.val] W fun e w' => e = .returned (.int .i64 (styE x)) ∧ Ext W w') := fun hN W h => styCheck_any a x W (hs.ext h) hN hz
 clear hs hwf hz
 obtain ⟨nm, AS, nS, cS, AM, nM, cM, AP, nP, cP, AU, nU, cU, AK, nK, cK, AO, nO, cO⟩ := a
 have HLP : Hid (x.ps.length = nP) := HS.out.lP
 have HLS : Hid (x.sz.length = nS) := HS.out.lS
 have HLU : Hid (x.us.length = nU) := HS.out.lU
 simp only [StyA.val] at HMO HCK ⊢
 go_enter Tryz.func3, Tryz.ntmps3
 go_upto_region 1 with fail
 refine wp_at fun W0 hW0 => ?_
 have HB0 : Hid (Blk 29 W0 w.heap.size [.string nm, .slice AS nS cS, .slice AM nM cM, .slice AP nP cP, .slice AU nU cU, .slice AK nK cK, .slice AO nO cO]) := by show Blk _ _ _ _; rw [hW0]; exact (Blk.new' rfl).ext ((Ext.refl _).alloc _)
 have HT0 : Hid (Blk 31 W0 (w.heap.size + 1) [.bool f, .int .i64 q]) := by show Blk _ _ _ _; rw [hW0]; exact Blk.new' (by simp)
 have HX0 : Hid (Ext w W0) := by show Ext _ _; rw [hW0]; exact ((Ext.refl _).alloc _).alloc _
 clear hW0
 obtain ⟨G, hG⟩ : ∃ G, G = w.heap.size := ⟨_, rfl⟩
 obtain ⟨G1, hG1⟩ : ∃ G, G = w.heap.size + 1 := ⟨_, rfl⟩
 rw [← hG1] at HT0 ⊢
 rw [← hG] at HB0 ⊢
 clear hG hG1
 obtain ⟨s0, s1, s2, s3, s4, s5, s6⟩ := blk7 HB0.out
 go_wp2_with fail
 refine (HMO.out _ HX0.out).mono ?_
 rintro e w1 ⟨bb, rfl, he1, hb⟩
 have HX1 := Lib.hid (HX0.out.trans he1); have HB1 := Lib.hid (HB0.out.ext he1); have HT1 := Lib.hid (HT0.out.ext he1)
 clear s0 s1 s2 s3 s4 s5 s6 he1 HB0 HT0 HX0 HMO
 cases bb with
 |false =>
  clear hb
  go_wp2_with fail
  refine (patterns_any _).mono ?_
  rintro e w2 ⟨rfl, he2⟩
  have HX2 := Lib.hid (HX1.out.trans he2)
  clear he2
  go_wp2_with fail
  go_ret
  exact ⟨rfl, HX2.out⟩
 |true =>
  have HN4 : Hid (x.sz.length ≤ 1000) := Nat.le_trans (hb rfl) (by omega)
  clear hb
  obtain ⟨s0, s1, s2, s3, s4, s5, s6⟩ := blk7 HB1.out
  go_wp2_with fail
  refine (HCK.out HN4.out _ HX1.out).mono ?_
  rintro e w2 ⟨rfl, he2⟩
  have HX2 := Lib.hid (HX1.out.trans he2); have HB2 := Lib.hid (HB1.out.ext he2); have HT2 := Lib.hid (HT1.out.ext he2)
  clear s0 s1 s2 s3 s4 s5 s6 he2 HB1 HT1 HX1 HCK
  obtain ⟨E, hE⟩ : ∃ E, E = styE x := ⟨_, rfl⟩
  rw [← hE]
  have HE := Lib.hid hE
  clear hE
  by_cases hz : E = 0
  rotate_left
  ·have hzb : (E != 0) = true := by simp [hz]
   clear hz
   go_wp2_with fail
   refine (patterns_any _).mono ?_
   rintro e w3 ⟨rfl, he3⟩
   have HX4 := Lib.hid (HX2.out.trans he3)
   clear he3
   go_wp2_with fail
   go_ret
   exact ⟨rfl, HX4.out⟩
  subst hz
  have HOK : Hid (styE x = 0) := HE.out.symm
  clear HE
  obtain ⟨s0, s1, s2, s3, s4, s5, s6⟩ := blk7 HB2.out
  go_upto_region 6 with fail
  refine wp_at fun W3 hW3 => ?_
  have HBT3 : Hid (Blk 29 W3 w2.heap.size [.string nm, .slice AS nS cS, .slice AM nM cM, .slice none 0 0, .slice AU nU cU, .slice none 0 0, .slice AO nO cO]) := by show Blk _ _ _ _; rw [hW3]; exact Blk.new' rfl
  have HX3 : Hid (Ext w2 W3) := by show Ext _ _; rw [hW3]; exact (Ext.refl _).alloc _
  obtain ⟨T, hT⟩ : ∃ T, T = w2.heap.size := ⟨_, rfl⟩
  have HTB : Hid (w2.heap.size ≤ T) := Nat.le_of_eq hT.symm
  rw [← hT] at HBT3 ⊢
  clear hW3 hT s0 s1 s2 s3 s4 s5 s6
  have HNP : Hid (nP ≤ 12) := by have h := whole_len HOK.out; rw [HLP.out] at h; exact h
  obtain ⟨LT, hLT⟩ : ∃ L, L = (tSt f q x).ps := ⟨_, rfl⟩
  have HLTG : Hid (∀ k, k < nP → gPx LT k = ⟨(gPx x.ps k).nm, (gPx x.ps k).gr, tPc f q (gPx x.ps k).p⟩) := fun k hk => by rw [hLT]; exact tSt_get (by rw [HLP.out]; exact hk)
  have HLTL : Hid (LT.length = nP) := by show _ = _; rw [hLT, tSt_len]; exact HLP.out
  have HLTE := Lib.hid hLT
  clear hLT
  obtain ⟨i0, hi0, hv0, hv1, hv2⟩ := info_parts piece_info
  go_wp2_with fail
  go_loopw [6] (fun i wr => ∃ (k : Nat) (vT : Value), k ≤ nP ∧ i = .int .i64 k ∧ OwnX wr w2.heap.size vT (LT.take k) ∧ Blk 29 wr T [.string nm, .slice AS nS cS, .slice AM nM cM, vT, .slice AU nU cU, .slice none 0 0, .slice AO nO cO] ∧ Ext w2 wr) (fun i _ => nP - (intOf i).toNat)
  case atStart => exact ⟨0, .slice none 0 0, Nat.zero_le _, rfl, OwnX.nil _ _, HBT3.out, HX3.out⟩
  case round =>
   obtain ⟨wR, rfl⟩ : ∃ wR : World, wR = wr := ⟨_, rfl⟩
   obtain ⟨k, vT, hk, rfl, hoT, hbT, hx⟩ := hrel
   have HOT := Lib.hid hoT; have HTr := Lib.hid hbT; have HX := Lib.hid hx
   clear hoT hbT hx HBT3 HX3
   have HBr := Lib.hid (HB2.out.ext HX.out); have HUr := Lib.hid (HT2.out.ext HX.out)
   obtain ⟨s0, s1, s2, s3, s4, s5, s6⟩ := blk7 HBr.out
   by_cases hlt : k < nP
   ·obtain ⟨b, off, A, hAP, hpc, hcc, hnn, hgg⟩ := HS.out.P k (by rw [HLP.out]; exact hlt)
    obtain rfl : AP = some ⟨b, off, none⟩ := hAP
    have hgp := good_piece HOK.out (by rw [HLP.out]; exact hlt)
    obtain ⟨X, hX⟩ : ∃ X, X = gPx x.ps k := ⟨_, rfl⟩
    have HXE : Hid (gPx x.ps k = X) := hX.symm
    rw [← hX] at hpc hnn hgg hgp
    clear hX
    have HTP : Hid (∀ W, Ext wR W → Calls Tryz.prog 8 #[A.val, TV f q] W (Ret (IsTp w2.heap.size X f q) W)) := fun W h => turnedP_any f q (hpc.ext ((HX2.out.trans HX.out).trans h)) ⟨hnn, hgg⟩ (by rw [← hpc.le]; omega) (fun j hj => Nat.le_trans (hgp.2.2.2.2 j (by rw [hpc.le]; exact hj)) (by omega)) (by rw [← hpc.lc]; omega) (by rw [← hpc.li]; omega) (by rw [← hpc.ln]; omega)
    have HCC := Lib.hid (hcc.ext (HX2.out.trans HX.out))
    obtain ⟨nmA, AE, nE, cE, gr, AN, nN, cN, AC, nC, cC, AW, nW, cW, mt⟩ := A
    simp only [PcA.val] at HTP
    clear hpc hcc hnn hgg hgp
    have hk1 : (k : Int) < nP := by omega
    obtain ⟨ps, hpp, hor⟩ := HOT.out
    obtain ⟨LK, hLK⟩ : ∃ y, y = LT.take k := ⟨_, rfl⟩
    have HLKL : Hid (LK.length = k) := by show _ = _; rw [hLK, List.length_take, HLTL.out]; omega
    have HLKE : Hid (LT.take (k + 1) = LK ++ [⟨X.nm, X.gr, tPc f q X.p⟩]) := by
     show _ = _
     have hkl : k < LT.length := by rw [HLTL.out]; exact hlt
     rw [hLK, take_succ _ _ hkl]
     have e := HLTG.out k hlt
     rw [HXE.out, gPx_eq hkl] at e
     rw [e]
    rw [← hLK] at hpp hor
    have HPP := Lib.hid hpp; have HOR := Lib.hid hor
    clear hpp hor hLK HOT
    go_upto_region 9 with fail
    refine region_slotsD (m := 3) (l := 10) (N := 115) (W0 := wR) [36, 37, 38, 39, 40, 41, 42, 43, 44, 45] [Fx (.pointer (some ⟨T, 3, none⟩)), Fx (vT), Fx (.pointer (some ⟨G, 3, none⟩)), Fx (.slice (some ⟨b, off, none⟩) nP cP), Fx (.int .i64 (k : Int)), Fx (.pointer (some ⟨b, off + k * 7, none⟩)), Fx (.agg #[.string nmA, .slice AE nE cE, .int .i64 gr, .slice AN nN cN, .slice AC nC cC, .slice AW nW cW, .bool mt]), Fx (TV f q), IsTp w2.heap.size X f q, IsTr w2.heap.size X f q] (by kernel_rfl) (by omega) (by kernel_rfl) (by kernel_rfl) (by kernel_rfl) (Ext.refl _) ?kp (fun i hi => ?_) (fun xs w1 hx hT => ?_)
    case kp => exact ⟨Fx.kp _, Fx.kp _, Fx.kp _, Fx.kp _, Fx.kp _, Fx.kp _, Fx.kp _, Fx.kp _, IsTp.kp _ _ _ _, IsTr.kp _ _ _ _, trivial⟩
    ·match i, hi with
     |0, _ =>
      refine so rfl ?_
      intro fb wi hx hb hd K hK
      have x5 : fb.eval (.tmp 5) = .pointer (some ⟨T, 0, none⟩) := hb 5 rfl
      refine sv rfl (v := .pointer (some ⟨T, 3, none⟩)) (w' := wi) (fun ρ hρ hc => ?_) (hK _ _ (Ext.refl _) (rfl))
      have r5 := (hρ (.tmp 5)).trans x5
      simp [execOp, go_sem, r5]
     |1, _ =>
      refine so rfl ?_
      intro fb wi hx hb hd K hK
      have x36 : fb.eval (.tmp 36) = .pointer (some ⟨T, 3, none⟩) := hd 0 36 rfl (by kernel_rfl)
      have cf0 := (HTr.out.ext hx).cell 3
      simp only [List.getElem?_cons_zero, List.getElem?_cons_succ] at cf0
      refine sv rfl (v := vT) (w' := wi) (fun ρ hρ hc => ?_) (hK _ _ (Ext.refl _) (rfl))
      have r36 := (hρ (.tmp 36)).trans x36
      simp [execOp, go_sem, r36, cf0]
     |2, _ =>
      refine so rfl ?_
      intro fb wi hx hb hd K hK
      have x2 : fb.eval (.tmp 2) = .pointer (some ⟨G, 0, none⟩) := hb 2 rfl
      refine sv rfl (v := .pointer (some ⟨G, 3, none⟩)) (w' := wi) (fun ρ hρ hc => ?_) (hK _ _ (Ext.refl _) (rfl))
      have r2 := (hρ (.tmp 2)).trans x2
      simp [execOp, go_sem, r2]
     |3, _ =>
      refine so rfl ?_
      intro fb wi hx hb hd K hK
      have x38 : fb.eval (.tmp 38) = .pointer (some ⟨G, 3, none⟩) := hd 2 38 rfl (by kernel_rfl)
      have cf0 := (HBr.out.ext hx).cell 3
      simp only [List.getElem?_cons_zero, List.getElem?_cons_succ] at cf0
      refine sv rfl (v := .slice (some ⟨b, off, none⟩) nP cP) (w' := wi) (fun ρ hρ hc => ?_) (hK _ _ (Ext.refl _) (rfl))
      have r38 := (hρ (.tmp 38)).trans x38
      simp [execOp, go_sem, r38, cf0]
     |4, _ =>
      refine so rfl ?_
      intro fb wi hx hb hd K hK
      have x6 : fb.eval (.tmp 6) = .int .i64 (k : Int) := hb 6 rfl
      refine sv rfl (v := .int .i64 (k : Int)) (w' := wi) (fun ρ hρ hc => ?_) (hK _ _ (Ext.refl _) (rfl))
      have r6 := (hρ (.tmp 6)).trans x6
      simp [execOp, go_sem, r6]
     |5, _ =>
      refine so rfl ?_
      intro fb wi hx hb hd K hK
      have x39 : fb.eval (.tmp 39) = .slice (some ⟨b, off, none⟩) nP cP := hd 3 39 rfl (by kernel_rfl)
      have x40 : fb.eval (.tmp 40) = .int .i64 (k : Int) := hd 4 40 rfl (by kernel_rfl)
      refine sv rfl (v := .pointer (some ⟨b, off + k * 7, none⟩)) (w' := wi) (fun ρ hρ hc => ?_) (hK _ _ (Ext.refl _) (rfl))
      have r39 := (hρ (.tmp 39)).trans x39
      have r40 := (hρ (.tmp 40)).trans x40
      simp [execOp, go_sem, r39, r40, hk1, hlt]
     |6, _ =>
      refine so rfl ?_
      intro fb wi hx hb hd K hK
      have x41 : fb.eval (.tmp 41) = .pointer (some ⟨b, off + k * 7, none⟩) := hd 5 41 rfl (by kernel_rfl)
      obtain ⟨d0, d1, d2, d3, d4, d5, d6⟩ := HCC.out.ext hx
      refine sv rfl (v := .agg #[.string nmA, .slice AE nE cE, .int .i64 gr, .slice AN nN cN, .slice AC nC cC, .slice AW nW cW, .bool mt]) (w' := wi) (fun ρ hρ hc => ?_) (hK _ _ (Ext.refl _) (rfl))
      have r41 := (hρ (.tmp 41)).trans x41
      simp [execOp, go_sem, r41, d0, d1, d2, d3, d4, d5, d6]
     |7, _ =>
      refine so rfl ?_
      intro fb wi hx hb hd K hK
      have x3 : fb.eval (.tmp 3) = .pointer (some ⟨G1, 0, none⟩) := hb 3 rfl
      have cf0 := (HUr.out.ext hx).cell 0
      have cf1 := (HUr.out.ext hx).cell 1
      simp only [List.getElem?_cons_zero, List.getElem?_cons_succ] at cf0 cf1
      refine sv rfl (v := TV f q) (w' := wi) (fun ρ hρ hc => ?_) (hK _ _ (Ext.refl _) (rfl))
      have r3 := (hρ (.tmp 3)).trans x3
      simp [execOp, go_sem, r3, cf0, cf1]
     |8, _ =>
      refine so rfl ?_
      intro fb wi hx hb hd K hK
      have x42 : fb.eval (.tmp 42) = .agg #[.string nmA, .slice AE nE cE, .int .i64 gr, .slice AN nN cN, .slice AC nC cC, .slice AW nW cW, .bool mt] := hd 6 42 rfl (by kernel_rfl)
      have x43 : fb.eval (.tmp 43) = TV f q := hd 7 43 rfl (by kernel_rfl)
      refine sc rfl 8 [.tmp 42, .tmp 43] #[40, 31] rfl _ Tryz.func8 rfl (by decide +kernel) [.agg #[.string nmA, .slice AE nE cE, .int .i64 gr, .slice AN nN cN, .slice AC nC cC, .slice AW nW cW, .bool mt], TV f q] (by simp only [List.map_cons, List.map_nil, x42, x43]) (HTP.out wi hx) (fun e w' h => rk hK h)
     |9, _ =>
      refine so rfl ?_
      intro fb wi hx hb hd K hK
      have y44 : IsTp w2.heap.size X f q (fb.eval (.tmp 44)) wi := hd 8 44 rfl (by kernel_rfl)
      obtain ⟨aN, x44, hpsN, hnnN⟩ := y44
      refine sv rfl (v := .slice (some ⟨wi.heap.size, 0, none⟩) 1 1) (w' := wi.alloc (.cells #[.string aN.nm, .slice aN.AE aN.nE aN.cE, .int .i64 aN.gr, .slice aN.AN aN.nN aN.cN, .slice aN.AC aN.nC aN.cC, .slice aN.AW aN.nW aN.cW, .bool aN.mt] 40)) (fun ρ hρ hc => ?_) (hK _ _ ((Ext.refl _).alloc _) (isTr_new hpsN hnnN))
      have r44 := (hρ (.tmp 44)).trans x44
      simp [execOp, go_sem, r44]
     |n + 10, hn => exact absurd hn (by omega)
    ·skip
     have t37 : Fx (vT) (xs 1) w1 := hT 1 (by decide)
     have t45 : IsTr w2.heap.size X f q (xs 9) w1 := hT 9 (by decide)
     simp only [frOf, putAll, List.drop_succ_cons, List.drop_zero, List.setIfInBounds_toArray, List.set_cons_succ, List.set_cons_zero, Nat.zero_add, Nat.reduceAdd]
     have hT9 : IsTr w2.heap.size X f q (xs 9) w1 := hT 9 (by decide)
     have hT1 : xs 1 = vT := hT 1 (by decide)
     obtain ⟨gR, aN, hgR, hbR, hpsR, hnmR, hgrR⟩ := hT9
     rw [hgR, hT1]
     have HBR := Lib.hid hbR; have HPSR := Lib.hid hpsR; have HNMR := Lib.hid hnmR; have HGRR := Lib.hid hgrR
     have HX7 := Lib.hid hx
     have hs7 : w2.heap.size ≤ w1.heap.size := (HX.out.trans hx).size
     clear hT hgR hT1 hbR hpsR hnmR hgrR hx
     refine wpList_append_lies _ rfl (.tmp 37) (.tmp 45) 24 rfl w2.heap.size 40 i0 (.agg #[.string ⟨#[]⟩, .slice none 0 0, .int .i64 0, .slice none 0 0, .slice none 0 0, .slice none 0 0, .bool false]) 7 128 Tryz.underlying24 hi0 hv0 hv1 hv2 rfl (by decide) vT LK.length (pxs ps) rfl (own_ext HOR.out HX7.out) ⟨gR, 0, none⟩ 1 1 (PcA.cells aN) rfl rfl (blk_newsP HBR.out) (by simp [Value.oneCell']) (by decide) (by have := HNP.out; rw [HLKL.out]; unfold maxLen; omega) (by have := HNP.out; rw [HLKL.out]; omega) hs7 w1.heap.size rfl ?_
     intro gg cap wn hown hgrow hat hltn
     have HFIN := Lib.hid (OwnX.app (X := ⟨X.nm, X.gr, tPc f q X.p⟩) (HTr.out.ext HX7.out) HTB.out (own_ext HOR.out HX7.out) (HPP.out.st (St.ofExt HX7.out)) HPSR.out HNMR.out HGRR.out hgrow hown 3)
     have HTn : Hid (Blk 29 wn T [.string nm, .slice AS nS cS, .slice AM nM cM, vT, .slice AU nU cU, .slice none 0 0, .slice AO nO cO]) := (hgrow.block _ (HTr.out.ext HX7.out).lt (Ne.symm (own_blk_ne (own_ext HOR.out HX7.out) (HTr.out.ext HX7.out) (by decide)))).trans (HTr.out.ext HX7.out)
     clear hown hgrow hat hltn hs7
     obtain ⟨y0, y1, y2, y3, y4, y5, y6⟩ := blk7 HTn.out
     have yf := HTn.out.frozen 3
     generalize xs 0 = z0
     generalize xs 2 = z2
     generalize xs 3 = z3
     generalize xs 4 = z4
     generalize xs 5 = z5
     generalize xs 6 = z6
     generalize xs 7 = z7
     generalize xs 8 = z8
     clear t37 t45 xs
     have hk12 : k ≤ 12 := by have := HNP.out; omega
     go_wp2_with fail
     go_roundw
     case rel =>
      obtain ⟨w8, hw8, hst, _, hox, hbl⟩ := HFIN.out
      rw [← hw8]
      refine ⟨k + 1, _, by omega, by go_num, ?_, hbl, hst.ext (HX.out.trans HX7.out)⟩
      rw [HLKE.out]
      exact hox
     case measure => simp [intOf]; omega
   ·obtain rfl : k = nP := by omega
    have hTK : LT.take k = LT := List.take_of_length_le (by rw [HLTL.out]; exact Nat.le_refl _)
    rw [hTK] at HOT
    obtain ⟨AT, cT, hvT, hpT, hcT, hcT'⟩ := HOT.out.slice
    rw [HLTL.out] at hvT
    subst hvT
    obtain ⟨t0, t1, t2, t3, t4, t5, t6⟩ := blk7 HTr.out
    have HSW : Hid (StyXAt wR ⟨nm, AS, nS, cS, AM, nM, cM, AP, k, cP, AU, nU, cU, AK, nK, cK, AO, nO, cO⟩ x) := HS.out.ext (HX2.out.trans HX.out)
    have HSV : Hid (StyXAt wR ⟨nm, AS, nS, cS, AM, nM, cM, AT, k, cT, AU, nU, cU, none, 0, 0, AO, nO, cO⟩ (tSt f q x)) := by
     have h := HSW.out
     rw [HLTE.out] at hpT
     exact ⟨h.nm, h.S, h.M, hpT, h.U, fun _ hk => absurd hk (Nat.not_lt_zero _), h.lS, h.lM, by rw [← HLTE.out]; exact HLTL.out, h.lU, rfl, h.lO, h.bS, h.bM, by rw [HLTL.out] at hcT; exact Nat.le_trans hcT hcT', h.bU, Nat.zero_le _, h.bO, by rw [HLTL.out] at hcT; exact hcT, h.cS⟩
    have HOKT : Hid (styE (tSt f q x) = 0) := tSt_ok HWF.out HOK.out
    have HCT : Hid (∀ W, Ext wR W → Calls Tryz.prog 6 #[.agg #[.string nm, .slice AS nS cS, .slice AM nM cM, .slice AT k cT, .slice AU nU cU, .slice none 0 0, .slice AO nO cO]] W fun e w' => e = .returned (.int .i64 0) ∧ Ext W w') := fun W h => by
     have h1 := styCheck_any ⟨nm, AS, nS, cS, AM, nM, cM, AT, k, cT, AU, nU, cU, none, 0, 0, AO, nO, cO⟩ (tSt f q x) W (HSV.out.ext h) HN4.out HZ.out
     rw [HOKT.out] at h1
     exact h1
    clear hTK hpT hcT hcT' HOT
    go_wp2_with fail
    refine (HCT.out _ (Ext.refl _)).mono ?_
    rintro e wC ⟨rfl, heC⟩
    have HXC := Lib.hid heC; have HBC := Lib.hid (HBr.out.ext heC); have HTC := Lib.hid (HTr.out.ext heC); have HUC := Lib.hid (HUr.out.ext heC)
    have HXA := Lib.hid ((HX2.out.trans HX.out).trans heC)
    clear heC s0 s1 s2 s3 s4 s5 s6 t0 t1 t2 t3 t4 t5 t6 HCT HBr HTr HUr HX HX2 HT2 HB2
    go_wp2_with fail
    go_loopw [7] (fun i wr => ∃ z : Nat, z ≤ nS ∧ i = .int .i64 z ∧ Ext wC wr) (fun i _ => nS - (intOf i).toNat)
    case atStart => exact ⟨0, Nat.zero_le _, rfl, Ext.refl _⟩
    case round =>
     obtain ⟨wZ, rfl⟩ : ∃ wZ : World, wZ = wr := ⟨_, rfl⟩
     obtain ⟨z, hz, rfl, hxz⟩ := hrel
     have HXZ := Lib.hid hxz
     clear hxz
     obtain ⟨s0, s1, s2, s3, s4, s5, s6⟩ := blk7 (HBC.out.ext HXZ.out)
     have hns : nS ≤ 1000 := by rw [← HLS.out]; exact HN4.out
     by_cases hzl : z < nS
     rotate_left
     ·obtain rfl : z = nS := by omega
      go_wp2_with fail
      refine (patterns_any _).mono ?_
      rintro e w3 ⟨rfl, he3⟩
      have HX4 := Lib.hid ((HXA.out.trans HXZ.out).trans he3)
      clear he3 s0 s1 s2 s3 s4 s5 s6
      go_wp2_with fail
      go_ret
      exact ⟨rfl, HX4.out⟩
     have hz1 : (z : Int) < nS := by omega
     go_wp2_with fail
     clear s0 s1 s2 s3 s4 s5 s6
     have hbu : nU ≤ 9223372036854775807 := HSW.out.bU
     go_loopw [8] (fun j wr => ∃ u : Nat, u ≤ nU ∧ j = .int .i64 u ∧ Ext wC wr) (fun j _ => nU - (intOf j).toNat)
     case atStart => exact ⟨0, Nat.zero_le _, rfl, HXZ.out⟩
     case round =>
      obtain ⟨wU, rfl⟩ : ∃ wU : World, wU = wr := ⟨_, rfl⟩
      obtain ⟨u, hu, rfl, hxu⟩ := hrel
      have HXU : Hid (Ext wC wU) := hxu
      clear hxu
      obtain ⟨s0, s1, s2, s3, s4, s5, s6⟩ := blk7 (HBC.out.ext HXU.out)
      by_cases hul : u < nU
      rotate_left
      ·obtain rfl : u = nU := by omega
       go_wp2_with fail
       go_roundw
       case rel => exact ⟨z + 1, by omega, by go_num, HXU.out⟩
       case measure => simp [intOf]; omega
      have hu1 : (u : Int) < nU := by omega
      obtain ⟨pi, p, m, hZ⟩ := tpz f q HWF.out HOK.out z (u := u) (by rw [HLU.out]; exact hul)
      obtain ⟨CE, hCE⟩ : ∃ C, C = cutE p m := ⟨_, rfl⟩
      obtain ⟨CF, hCF⟩ : ∃ C, C = cutE (tPc f q p) m := ⟨_, rfl⟩
      obtain ⟨L, hL⟩ : ∃ L, L = ptsA (gradedE p.es p.cs m) p.ws := ⟨_, rfl⟩
      obtain ⟨L', hL'⟩ : ∃ L, L = ptsA (gradedE (tPc f q p).es (tPc f q p).cs m) (tPc f q p).ws := ⟨_, rfl⟩
      have HCA : Hid (∀ W, Ext wC W → Calls Tryz.prog 9 #[.agg #[.string nm, .slice AS nS cS, .slice AM nM cM, .slice AP k cP, .slice AU nU cU, .slice AK nK cK, .slice AO nO cO], .int .i64 (z : Int), .int .i64 (u : Int)] W (RetCu W CE L)) := fun W h => cutX_any (a := ⟨nm, AS, nS, cS, AM, nM, cM, AP, k, cP, AU, nU, cU, AK, nK, cK, AO, nO, cO⟩) (HSW.out.ext (HXC.out.trans h)) HN4.out HZ.out HOK.out (by rw [HLS.out]; exact hzl) (by rw [HLU.out]; exact hul) hZ.pc hZ.lt hZ.hp hZ.hm hZ.w hZ.c hCE hL
      have HCB : Hid (∀ W, Ext wC W → Calls Tryz.prog 9 #[.agg #[.string nm, .slice AS nS cS, .slice AM nM cM, .slice AT k cT, .slice AU nU cU, .slice none 0 0, .slice AO nO cO], .int .i64 (z : Int), .int .i64 (u : Int)] W (RetCu W CF L')) := fun W h => cutX_any (a := ⟨nm, AS, nS, cS, AM, nM, cM, AT, k, cT, AU, nU, cU, none, 0, 0, AO, nO, cO⟩) (x := tSt f q x) (HSV.out.ext (HXC.out.trans h)) HN4.out HZ.out HOKT.out (by show z < x.sz.length; rw [HLS.out]; exact hzl) (by show u < x.us.length; rw [HLU.out]; exact hul) hZ.pc (by rw [tSt_len]; exact hZ.lt) hZ.ht hZ.hm hZ.w' hZ.c' hCF hL'
      have HIF : Hid (CF = 0 ↔ CE = 0) := by show _ ↔ _; rw [hCE, hCF]; exact hZ.iff
      have HFN : Hid (CE = 0 → pcheck (turnL f q L) = 0 ∧ pcheck L' = 0 ∧ normG (turnL f q L) = normG L') := fun h0 => by rw [hL, hL']; exact hZ.fin (hCE ▸ h0)
      clear hCE hCF hL hL' hZ
      go_wp2_with fail
      refine (HCA.out _ HXU.out).mono ?_
      rintro e w3 ⟨v9, rfl, ho9, he3⟩
      have HX3 := Lib.hid (HXU.out.trans he3); have HO9 := Lib.hid ho9
      clear he3 ho9 s0 s1 s2 s3 s4 s5 s6
      obtain ⟨t0, t1, t2, t3, t4, t5, t6⟩ := blk7 (HTC.out.ext HX3.out)
      go_wp2_with fail
      refine (HCB.out _ HX3.out).mono ?_
      rintro e w4 ⟨v11, rfl, ho11, he4⟩
      have HX4 := Lib.hid (HX3.out.trans he4); have HE4 := Lib.hid he4; have HO11 := Lib.hid ho11
      clear he4 ho11 t0 t1 t2 t3 t4 t5 t6 HCA HCB
      by_cases hc : CE = 0
      rotate_left
      ·have hcf : ¬ CF = 0 := fun h => hc (HIF.out.1 h)
       have b1 : (CE != 0) = true := by simp [hc]
       have b2 : (CF != 0) = true := by simp [hcf]
       have b3 : (CE == 0) = false := by simp [hc]
       have b4 : (CF == 0) = false := by simp [hcf]
       clear hc hcf
       go_wp2_with fail
       go_roundw
       case rel => exact ⟨u + 1, by omega, by go_num, HX4.out⟩
       case measure => simp [intOf]; omega
      have hcf : CF = 0 := HIF.out.2 hc
      subst hc hcf
      obtain ⟨A9, c9, rfl, h9, hc9, _⟩ := (HO9.out rfl).slice
      obtain ⟨A11, c11, rfl, h11, hc11, _⟩ := (HO11.out rfl).slice
      obtain ⟨hp1, hp2, hnn⟩ := HFN.out rfl
      have h40 := (pcheck_len hp1).2
      rw [turnL_len] at h40
      obtain ⟨N, hN⟩ : ∃ N, N = normG L' := ⟨_, rfl⟩
      obtain ⟨M, hM⟩ : ∃ M, M = turnL f q L := ⟨_, rfl⟩
      have hML : M.length = L.length := by rw [hM, turnL_len]
      rw [← hM] at hp1 hnn
      obtain ⟨nN, hnN⟩ : ∃ n, n = N.length := ⟨_, rfl⟩
      obtain ⟨n9, hn9⟩ : ∃ n, n = L.length := ⟨_, rfl⟩
      obtain ⟨n11, hn11⟩ : ∃ n, n = L'.length := ⟨_, rfl⟩
      have HPO : Hid (∀ W, Ext w4 W → Calls Tryz.prog 11 #[TV f q, .slice A9 n9 c9] W fun e w' => ∃ g, e = .returned (.slice (some ⟨g, 0, none⟩) n9 n9) ∧ SpotsAt w' (some ⟨g, 0, none⟩) M ∧ Ext W w') := fun W h => by
       rw [hM]
       exact poly_any A9 n9 c9 f q L W (h9.ext (HE4.out.trans h)) hn9.symm (by omega)
      have HNA : Hid (∀ g W, SpotsAt W (some ⟨g, 0, none⟩) M → Calls Tryz.prog 10 #[.slice (some ⟨g, 0, none⟩) n9 n9] W (RetNo W N)) := fun g W h => normalO_any h (by omega) (Nat.le_refl _) hp1 (hN.trans hnn.symm)
      have HNB : Hid (∀ W, Ext w4 W → Calls Tryz.prog 10 #[.slice A11 n11 c11] W (RetNo W N)) := fun W h => normalO_any (h11.ext h) hn11.symm (by rw [hn11]; exact hc11) hp2 hN
      have HSA : Hid (∀ A B c d W, SpotsAt W A N → SpotsAt W B N → nN ≤ 9223372036854775807 → Calls Tryz.prog 12 #[.slice A nN c, .slice B nN d] W fun e w' => e = .returned (.bool true) ∧ Ext W w') := fun A B c d W h1 h2 h3 => (topSame_len A B nN c d N N W h1 h2 hnN.symm hnN.symm h3).mono (fun e w' h => ⟨h.1.trans (by simp), h.2⟩)
      rw [← hn9, ← hn11]
      have HNN := Lib.hid hnN
      clear h9 hc9 h11 hc11 hp1 hp2 hnn h40 hM hML hN hnN hn9 hn11 HO9 HO11 HFN HIF
      obtain ⟨g0, g1⟩ := blk2 (HUC.out.ext HX4.out)
      go_wp2_with fail
      refine (HPO.out _ (Ext.refl _)).mono ?_
      rintro e w5 ⟨g, rfl, hg, he5⟩
      have HX5 := Lib.hid he5; have HG5 := Lib.hid hg
      clear hg he5 g0 g1
      go_wp2_with fail
      refine (HNA.out g _ HG5.out).mono ?_
      rintro e w6 ⟨v13, rfl, ho13, he6⟩
      have HX6 := Lib.hid (HX5.out.trans he6); have HO13 := Lib.hid ho13
      clear ho13 he6
      go_wp2_with fail
      refine (HNB.out _ HX6.out).mono ?_
      rintro e w7 ⟨v15, rfl, ho15, he7⟩
      have HX7 := Lib.hid (HX6.out.trans he7)
      obtain ⟨A13, c13, rfl, h13, _, hb13⟩ := (HO13.out.ext he7).slice
      obtain ⟨A15, c15, rfl, h15, _, _⟩ := ho15.slice
      rw [← HNN.out]
      have HSM := Lib.hid (HSA.out A13 A15 c13 c15 w7 h13 h15 (by rw [HNN.out]; omega))
      clear ho15 he7 h13 h15 hb13 HO13 HSA
      go_wp2_with fail
      refine (HSM.out).mono ?_
      rintro e w8 ⟨rfl, he8⟩
      have HX8 := Lib.hid ((HX4.out.trans HX7.out).trans he8)
      clear he8
      go_wp2_with fail
      go_roundw
      case rel => exact ⟨u + 1, by omega, by go_num, HX8.out⟩
      case measure => simp [intOf]; omega
end Go.Proofs.YtfegbaokcbjllaaGreat
