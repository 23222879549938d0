/- rows of pieces of the call's own; what a piece's memory keeps while only blocks of styles and of pieces turn. No program in sight. -/
import Derived.Test.YtkigmpholnfkbaaGreatKTurned
import Derived.Test.YtkigmpholnfkbaaGreatKStX
import Derived.Test.YtkigmpholnfkbaaGreatKFld
namespace Go.Proofs.YtkigmpholnfkbaaGreat
open Go.RowKit
def StK (base : Nat) (w : World) (k : Nat) : Prop := base ≤ k ∧ ∃ cs, Blk 29 w k cs ∨ Blk 52 w k cs
def St (base : Nat) (w w' : World) : Prop := Kept (StK base w) w w'
theorem St.ofExt {base : Nat} {w w' : World} (h : Ext w w') : St base w w' := h.kept _
theorem St.refl (base : Nat) (w : World) : St base w w := Kept.refl _ _
theorem St.trans {base : Nat} {a b c : World} (h : St base a b) (k : St base b c) : St base a c :=
  ⟨k.os.trans h.os, k.tape.trans h.tape, k.output.trans h.output, Nat.le_trans h.size k.size, fun i hi hn => by
    have h1 := h.block i hi hn
    refine (k.block i (Nat.lt_of_lt_of_le hi h.size) (fun hb => hn ?_)).trans h1
    obtain ⟨hb1, cs, hb2⟩ := hb
    unfold Blk at hb2
    rw [h1] at hb2
    exact ⟨hb1, cs, hb2⟩⟩
theorem St.ofKept {base : Nat} {K : Nat → Prop} {w w' : World} (h : Kept K w w') (hk : ∀ k, k < w.heap.size → K k → StK base w k) : St base w w' := h.mono hk
theorem St.ext {z w w' : World} (h : St z.heap.size w w') (he : Ext z w) : Ext z w' := Kept.ext h he (fun _ hk => hk.1)
/- a piece that stays -/
def PcS (base : Nat) (w : World) (a : PcA) (p : Pc) : Prop := ∀ w', St base w w' → PcAt w' a p
theorem PcS.here {base : Nat} {w : World} {a : PcA} {p : Pc} (h : PcS base w a p) : PcAt w a p := h w (St.refl _ _)
theorem PcS.st {base : Nat} {w w' : World} {a : PcA} {p : Pc} (h : PcS base w a p) (hs : St base w w') : PcS base w' a p := fun w'' h' => h w'' (hs.trans h')
theorem PcS.old {z w : World} {a : PcA} {p : Pc} (h : PcAt z a p) (he : Ext z w) : PcS z.heap.size w a p := fun _ h' => h.ext (h'.ext he)
theorem stk_ne {base : Nat} {w : World} {k : Nat} (h : StK base w k) : ∃ t cs, Blk t w k cs ∧ (t = 29 ∨ t = 52) := by
  obtain ⟨_, cs, h | h⟩ := h
  · exact ⟨_, cs, h, .inl rfl⟩
  · exact ⟨_, cs, h, .inr rfl⟩
theorem own_st {base b1 : Nat} {w w' : World} {t : TypeId} {size : Nat} {v : Value} {n : Nat} {xs : List Value} (h : w.ownsRow b1 t size v n xs) (hs : St base w w') (ht : t ≠ 29 ∧ t ≠ 52) : w'.ownsRow b1 t size v n xs :=
  own_kept h hs (fun k hk hK => by
    obtain ⟨t', cs, hB, h1 | h1⟩ := stk_ne hK
    · subst h1; exact own_blk_ne h hB ht.1 hk
    · subst h1; exact own_blk_ne h hB ht.2 hk)
theorem ownE_st {base b1 : Nat} {w w' : World} {v : Value} {es : List Edge} (h : OwnE w b1 v es) (hs : St base w w') : OwnE w' b1 v es :=
  h.kept hs (fun k _ hK => by
    obtain ⟨t', cs, hB, h1 | h1⟩ := stk_ne hK
    · subst h1; exact ⟨_, cs, hB, by decide, by decide⟩
    · subst h1; exact ⟨_, cs, hB, by decide, by decide⟩)
theorem pcs_own {base b1 : Nat} {w : World} {nm : ByteArray} {gr : Int} {mt : Bool} {vE vC vW vN : Value} {es : List Edge} {cs ns : List Spot} {ws : List Int} (hE : OwnE w b1 vE es) (hC : OwnT 62 w b1 vC cs) (hW : OwnI w b1 vW ws) (hN : OwnT 95 w b1 vN ns)
    (lc : cs.length ≤ 1000) (lw : ws.length ≤ 1000) (ln : ns.length ≤ 1000) :
    ∃ a : PcA, [.string nm, vE, .int .i64 gr, vN, vC, vW, .bool mt] = PcA.cells a ∧ a.nm = nm ∧ a.gr = gr ∧ PcS base w a ⟨es, cs, ws, ns⟩ := by
  obtain ⟨AE, cE, rfl, _, hcE, hcE'⟩ := hE.slice
  obtain ⟨AC, cC, rfl, _, _⟩ := OwnT.slice' hC rfl
  obtain ⟨AN, cN, rfl, _, _⟩ := OwnT.slice' hN rfl
  obtain ⟨AW, cW, rfl, _, _⟩ := OwnI.slice' hW rfl
  refine ⟨⟨nm, AE, es.length, cE, gr, AN, ns.length, cN, AC, cs.length, cC, AW, ws.length, cW, mt⟩, rfl, rfl, rfl, fun w' hs => ?_⟩
  obtain ⟨A1, c1, e1, h1, _⟩ := (ownE_st hE hs).slice
  injection e1 with e1 _ _
  subst e1
  obtain ⟨A2, c2, e2, h2, _⟩ := OwnT.slice' (t := 62) (own_st hC hs ⟨by decide, by decide⟩) rfl
  injection e2 with e2 _ _
  subst e2
  obtain ⟨A3, c3, e3, h3, _⟩ := OwnT.slice' (t := 95) (own_st hN hs ⟨by decide, by decide⟩) rfl
  injection e3 with e3 _ _
  subst e3
  obtain ⟨A4, c4, e4, h4, _⟩ := OwnI.slice' (own_st hW hs ⟨by decide, by decide⟩) rfl
  injection e4 with e4 _ _
  subst e4
  exact ⟨h1, rfl, hcE, hcE', h2, rfl, by simp only; omega, h4, rfl, h3, rfl, by simp only; omega, by simp only; omega⟩
/- a piece whose edges alone are new -/
theorem pcs_edges {b1 : Nat} {z w : World} {a : PcA} {p : Pc} {vE : Value} {es : List Edge} (ha : PcAt z a p) (he : Ext z w) (hE : OwnE w b1 vE es) :
    ∃ a' : PcA, [.string a.nm, vE, .int .i64 a.gr, .slice a.AN a.nN a.cN, .slice a.AC a.nC a.cC, .slice a.AW a.nW a.cW, .bool a.mt] = PcA.cells a' ∧ a'.nm = a.nm ∧ a'.gr = a.gr ∧ PcS z.heap.size w a' ⟨es, p.cs, p.ws, p.ns⟩ := by
  obtain ⟨AE, cE, rfl, _, hcE, hcE'⟩ := hE.slice
  refine ⟨⟨a.nm, AE, es.length, cE, a.gr, a.AN, a.nN, a.cN, a.AC, a.nC, a.cC, a.AW, a.nW, a.cW, a.mt⟩, rfl, rfl, rfl, fun w' hs => ?_⟩
  obtain ⟨A1, c1, e1, h1, _⟩ := (ownE_st hE hs).slice
  injection e1 with e1 _ _
  subst e1
  have ha' := ha.ext (hs.ext he)
  exact ⟨h1, rfl, hcE, hcE', ha'.c, ha'.lc, ha'.nc, ha'.i, ha'.li, ha'.n, ha'.ln, ha'.nn, ha'.nw⟩
/- a row of pieces of the call's own -/
def aP0 : PcA := ⟨⟨#[]⟩, none, 0, 0, 0, none, 0, 0, none, 0, 0, none, 0, 0, false⟩
def gA (l : List PcA) (k : Nat) : PcA := l.getD k aP0
theorem gA_eq {l : List PcA} {k : Nat} (h : k < l.length) : gA l k = l[k] := by simp [gA, h]
def pxs (l : List PcA) : List Value := l.flatMap PcA.cells
theorem pxs_append (a b : List PcA) : pxs (a ++ b) = pxs a ++ pxs b := by simp [pxs]
theorem pxs_get (l : List PcA) (k j : Nat) (hj : j < 7) : (pxs l)[k * 7 + j]? = (l[k]?).bind fun a => (PcA.cells a)[j]? := by
  induction l generalizing k with
  | nil => simp [pxs]
  | cons a l ih =>
    cases k with
    | zero =>
      have : (PcA.cells a).length = 7 := rfl
      unfold pxs
      rw [List.flatMap_cons, List.getElem?_append_left (by omega)]
      simp
    | succ k =>
      unfold pxs at ih ⊢
      rw [List.flatMap_cons, List.getElem?_append_right (by simp; omega), show (k + 1) * 7 + j - (PcA.cells a).length = k * 7 + j by simp; omega, ih k]
      simp
def XParts (base : Nat) (w : World) (ps : List PcA) (l : List PcX) : Prop := ps.length = l.length ∧ ∀ k, k < l.length → PcS base w (gA ps k) (gPx l k).p ∧ (gA ps k).nm = (gPx l k).nm ∧ (gA ps k).gr = (gPx l k).gr
def OwnX (w : World) (base : Nat) (v : Value) (l : List PcX) : Prop := ∃ ps, XParts base w ps l ∧ w.ownsRow base 52 7 v l.length (pxs ps)
theorem OwnX.nil (w : World) (base : Nat) : OwnX w base (.slice none 0 0) [] := ⟨[], ⟨rfl, fun _ hk => absurd hk (Nat.not_lt_zero _)⟩, World.ownsRow_nil w base _ _⟩
theorem XParts.st {base : Nat} {w w' : World} {ps : List PcA} {l : List PcX} (h : XParts base w ps l) (hs : St base w w') : XParts base w' ps l := ⟨h.1, fun k hk => ⟨(h.2 k hk).1.st hs, (h.2 k hk).2⟩⟩
theorem OwnX.ext {w w' : World} {base : Nat} {v : Value} {l : List PcX} (h : OwnX w base v l) (he : Ext w w') : OwnX w' base v l := by
  obtain ⟨ps, h1, h2⟩ := h
  exact ⟨ps, h1.st (St.ofExt he), own_ext h2 he⟩
theorem OwnX.kept {K : Nat → Prop} {w w' : World} {base : Nat} {v : Value} {l : List PcX} (h : OwnX w base v l) (hk : Kept K w w') (hn : ∀ k, v.ownBlock = some k → ¬ K k) (hs : St base w w') : OwnX w' base v l := by
  obtain ⟨ps, h1, h2⟩ := h
  exact ⟨ps, h1.st hs, own_kept h2 hk hn⟩
theorem OwnX.slice {w : World} {base : Nat} {v : Value} {l : List PcX} (h : OwnX w base v l) : ∃ A cap, v = .slice A l.length cap ∧ PiecesX w A l ∧ l.length ≤ cap ∧ cap ≤ 9223372036854775807 := by
  obtain ⟨ps, hp, ho⟩ := h
  rcases ho.2 with ⟨rfl, h0⟩ | ⟨g, cap, cur, rfl, hb, hh, hn, hm, hs, ht⟩
  · rw [List.eq_nil_of_length_eq_zero h0]
    exact ⟨none, 0, rfl, fun _ hk => absurd hk (Nat.not_lt_zero _), Nat.le_refl _, by omega⟩
  · refine ⟨_, cap, rfl, fun k hk => ?_, hn, hm⟩
    obtain ⟨h1, h2, h3⟩ := hp.2 k hk
    have hkp : k < ps.length := by rw [hp.1]; exact hk
    refine ⟨g, 0, gA ps k, rfl, h1.here, ?_, h2, h3⟩
    have hc : ∀ j u, (PcA.cells (gA ps k))[j]? = some u → w.cell? ⟨g, 0 + k * 7 + j, none⟩ = some u := fun j u hu => by
      have hj : j < 7 := by have := (List.getElem?_eq_some_iff.1 hu).1; simpa using this
      have := World.ownsRow.cells ho (g := g) rfl (k * 7 + j) u (by rw [pxs_get _ _ _ hj, List.getElem?_eq_getElem hkp, ← gA_eq hkp]; exact hu)
      rw [addr_add] at this
      rw [Nat.add_assoc]; exact this
    exact ⟨hc 0 _ rfl, hc 1 _ rfl, hc 2 _ rfl, hc 3 _ rfl, hc 4 _ rfl, hc 5 _ rfl, hc 6 _ rfl⟩
theorem gA_snoc {ps : List PcA} {a : PcA} {k : Nat} (h : k = ps.length) : gA (ps ++ [a]) k = a := by subst h; simp [gA]
theorem gA_left {ps : List PcA} {a : PcA} {k : Nat} (h : k < ps.length) : gA (ps ++ [a]) k = gA ps k := by simp [gA, List.getElem?_append_left h]
theorem gPx_snoc {l : List PcX} {a : PcX} {k : Nat} (h : k = l.length) : gPx (l ++ [a]) k = a := by subst h; simp [gPx]
theorem gPx_left {l : List PcX} {a : PcX} {k : Nat} (h : k < l.length) : gPx (l ++ [a]) k = gPx l k := by simp [gPx, List.getElem?_append_left h]
theorem XParts.snoc {base : Nat} {w : World} {ps : List PcA} {l : List PcX} {a : PcA} {X : PcX} (h : XParts base w ps l) (hp : PcS base w a X.p) (h1 : a.nm = X.nm) (h2 : a.gr = X.gr) : XParts base w (ps ++ [a]) (l ++ [X]) := by
  refine ⟨by simp [h.1], fun k hk => ?_⟩
  rcases Nat.lt_or_ge k l.length with hl | hl
  · rw [gA_left (by rw [h.1]; exact hl), gPx_left hl]; exact h.2 k hl
  · obtain rfl : k = l.length := by simp at hk; omega
    rw [gA_snoc h.1.symm, gPx_snoc rfl]; exact ⟨hp, h1, h2⟩
theorem piece_info : (Tryz.prog.info? 52).map (fun i => (i.zero, i.size, i.bytes)) = some (some (.agg #[.string ⟨#[]⟩, .slice none 0 0, .int .i64 0, .slice none 0 0, .slice none 0 0, .slice none 0 0, .bool false]), 7, 128) := by kernel_rfl
/- the field of a style set to a longer row -/
theorem OwnX.app {base : Nat} {W w1 : World} {B : Nat} {bc : List Value} {v : Value} {ps : List PcA} {l : List PcX} {a : PcA} {X : PcX} {g cap : Nat}
    (hB : Blk 29 W B bc) (hbB : base ≤ B) (hv : W.ownsRow base 52 7 v l.length (pxs ps)) (hp : XParts base W ps l) (ha : PcS base W a X.p) (hn : a.nm = X.nm) (hr : a.gr = X.gr)
    (hg : W.grownBy w1 v.ownBlock) (ho : w1.ownsRow base 52 7 (.slice (some ⟨g, 0, none⟩) (l.length + 1) cap) (l.length + 1) (pxs ps ++ PcA.cells a)) (j : Nat) :
    ∃ w2, w2 = w1.setCell ⟨B, j, none⟩ (.slice (some ⟨g, 0, none⟩) (l.length + 1) cap) ∧ St base W w2 ∧ Kept (fun k => k = B ∨ v.ownBlock = some k) W w2 ∧ OwnX w2 base (.slice (some ⟨g, 0, none⟩) (l.length + 1) cap) (l ++ [X]) ∧ Blk 29 w2 B (bc.set j (.slice (some ⟨g, 0, none⟩) (l.length + 1) cap)) := by
  have h1 : v.ownBlock ≠ some B := own_blk_ne hv hB (by decide)
  have hB1 : Blk 29 w1 B bc := (hg.block _ hB.lt (Ne.symm h1)).trans hB
  have hk : Kept (fun k => k = B ∨ v.ownBlock = some k) W (w1.setCell ⟨B, j, none⟩ (.slice (some ⟨g, 0, none⟩) (l.length + 1) cap)) :=
    ((Kept.refl _ W).grown hg (fun k hk => .inr (.inr hk))).set (p := ⟨B, j, none⟩) (.inr (.inl rfl)) _
  have hs : St base W (w1.setCell ⟨B, j, none⟩ (.slice (some ⟨g, 0, none⟩) (l.length + 1) cap)) := St.ofKept hk (fun k hkl hkk => by
    rcases hkk with rfl | hkk
    · exact ⟨hbB, _, .inl hB⟩
    · refine ⟨own_ge hv hkk, ?_⟩
      rcases hv.2 with ⟨rfl, _⟩ | ⟨g', cap', cur, rfl, _, hh, _⟩
      · simp [Value.ownBlock] at hkk
      · have : g' = k := by simpa [Value.ownBlock] using hkk
        subst this
        exact ⟨cur.toList, .inr hh⟩)
  refine ⟨_, rfl, hs, hk, ⟨ps ++ [a], (hp.st hs).snoc (ha.st hs) hn hr, ?_⟩, hB1.set j _⟩
  have h2 : (Value.slice (some ⟨g, 0, none⟩) (l.length + 1) cap).ownBlock ≠ some B := own_blk_ne ho hB1 (by decide)
  have := own_set ho (p := ⟨B, j, none⟩) h2 (.slice (some ⟨g, 0, none⟩) (l.length + 1) cap)
  rw [List.length_append, pxs_append]
  simpa [pxs] using this
theorem two_app {z W w1 : World} {B B2 : Nat} {bc bc2 : List Value} {v v2 : Value} {ps : List PcA} {l l2 : List PcX} {a : PcA} {X : PcX} {g cap n : Nat} (hn0 : l.length = n)
    (hB : Blk 29 W B bc) (hB2 : Blk 29 W B2 bc2) (hne : B ≠ B2) (hbB : z.heap.size ≤ B) (hv : W.ownsRow z.heap.size 52 7 v n (pxs ps)) (hp : XParts z.heap.size W ps l) (ha : PcS z.heap.size W a X.p) (hn : a.nm = X.nm) (hr : a.gr = X.gr)
    (h2 : OwnX W z.heap.size v2 l2) (hap : ∀ g, v.ownBlock = some g → v2.ownBlock ≠ some g) (hx : Ext z W)
    (hg : W.grownBy w1 v.ownBlock) (ho : w1.ownsRow z.heap.size 52 7 (.slice (some ⟨g, 0, none⟩) (n + 1) cap) (n + 1) (pxs ps ++ PcA.cells a)) (hat : v.ownBlock = some g ∨ g = W.heap.size) (j : Nat) :
    OwnX (w1.setCell ⟨B, j, none⟩ (.slice (some ⟨g, 0, none⟩) (n + 1) cap)) z.heap.size (.slice (some ⟨g, 0, none⟩) (n + 1) cap) (l ++ [X]) ∧ OwnX (w1.setCell ⟨B, j, none⟩ (.slice (some ⟨g, 0, none⟩) (n + 1) cap)) z.heap.size v2 l2 ∧
      (∀ g', (Value.slice (some ⟨g, 0, none⟩) (n + 1) cap).ownBlock = some g' → v2.ownBlock ≠ some g') ∧ Blk 29 (w1.setCell ⟨B, j, none⟩ (.slice (some ⟨g, 0, none⟩) (n + 1) cap)) B (bc.set j (.slice (some ⟨g, 0, none⟩) (n + 1) cap)) ∧
      Blk 29 (w1.setCell ⟨B, j, none⟩ (.slice (some ⟨g, 0, none⟩) (n + 1) cap)) B2 bc2 ∧ Ext z (w1.setCell ⟨B, j, none⟩ (.slice (some ⟨g, 0, none⟩) (n + 1) cap)) := by
  subst hn0
  obtain ⟨w2, rfl, hs, hk, h1, hb⟩ := OwnX.app hB hbB hv hp ha hn hr hg ho j
  have hvb2 : v.ownBlock ≠ some B2 := own_blk_ne hv hB2 (by decide)
  obtain ⟨ps2, _, hv2⟩ := id h2
  refine ⟨h1, h2.kept hk (fun k hk' hK => ?_) hs, fun g' hg' h3 => ?_, hb, hk.blk hB2 (fun hK => ?_), hs.ext hx⟩
  · rcases hK with rfl | hK
    · exact own_blk_ne hv2 hB (by decide) hk'
    · exact hap k hK hk'
  · have e : g = g' := by simpa [Value.ownBlock] using hg'
    subst e
    rcases hat with h4 | h4
    · exact hap g h4 h3
    · have := (World.ownsRow.lt hv2 g h3).2; omega
  · rcases hK with h | h
    · exact hne h.symm
    · exact hvb2 h
end Go.Proofs.YtkigmpholnfkbaaGreat
