/- the reference: garmentref23.near, lonely -/
import Derived.Test.YtliijigdbpmpaaaGreatKSameK
import Derived.Test.YtliijigdbpmpaaaGreatKRPart
/- words: rows of seams; when lengths are known -/
namespace Go.Proofs.YtliijigdbpmpaaaGreat
open Go.RowKit
def swSm (m : Sm) : Sm := ⟨m.pb, m.eb, m.pa, m.ea, m.rev, m.ease⟩
theorem lensV_err (s : Sty) (z k : Int) : (lensV s z k).2.2 = lensE s z k := by
  unfold lensV
  split
  · rfl
  · rename_i h; simp only; omega
theorem lens_zero {s : Sty} {z k : Int} (h : lensE s z k = 0) : (sizeB s z = true ∧ 0 ≤ k ∧ k < s.ss.length) ∧ (edgeB s (gSm s.ss k.toNat).pa (gSm s.ss k.toNat).ea = true ∧ edgeB s (gSm s.ss k.toNat).pb (gSm s.ss k.toNat).eb = true) ∧
    gradedR (gPc s.ps (gSm s.ss k.toNat).pa.toNat).es (gPc s.ps (gSm s.ss k.toNat).pa.toNat).cs (gI s.ms z.toNat) = 0 ∧ gradedR (gPc s.ps (gSm s.ss k.toNat).pb.toNat).es (gPc s.ps (gSm s.ss k.toNat).pb.toNat).cs (gI s.ms z.toNat) = 0 := by
  unfold lensE at h
  split at h
  · cases h
  split at h
  · cases h
  split at h
  · rename_i h1; exact absurd h h1
  · rename_i h1 h2 h3
    exact ⟨Classical.not_not.1 h1, Classical.not_not.1 h2, Classical.not_not.1 h3, h⟩
theorem gapN_comm (a b : Int) : gapN a b = gapN b a := by unfold gapN; split <;> split <;> omega
/- a row of seams -/
def smcells (l : List Sm) : List Value := l.flatMap fun s => [.int .i64 s.pa, .int .i64 s.ea, .int .i64 s.pb, .int .i64 s.eb, .bool s.rev, .int .i64 s.ease]
theorem smcells_length (l : List Sm) : (smcells l).length = l.length * 6 := by
  induction l with
  | nil => rfl
  | cons s l ih => simp [smcells] at ih ⊢; omega
theorem smcells_get {l : List Sm} {k j : Nat} (hk : k < l.length) (hj : j < 6) : (smcells l)[k * 6 + j]? = [Value.int .i64 (gSm l k).pa, .int .i64 (gSm l k).ea, .int .i64 (gSm l k).pb, .int .i64 (gSm l k).eb, .bool (gSm l k).rev, .int .i64 (gSm l k).ease][j]? := by
  induction l generalizing k with
  | nil => simp at hk
  | cons s l ih =>
    cases k with
    | zero =>
      rw [Nat.zero_mul, Nat.zero_add]
      show ([Value.int .i64 s.pa, .int .i64 s.ea, .int .i64 s.pb, .int .i64 s.eb, .bool s.rev, .int .i64 s.ease] ++ smcells l)[j]? = _
      rw [List.getElem?_append_left (by simpa using hj)]
      rfl
    | succ k =>
      rw [show (k + 1) * 6 + j = (k * 6 + j) + 6 from by omega]
      show ([Value.int .i64 s.pa, .int .i64 s.ea, .int .i64 s.pb, .int .i64 s.eb, .bool s.rev, .int .i64 s.ease] ++ smcells l)[(k * 6 + j) + 6]? = _
      rw [List.getElem?_append_right (by simp), show k * 6 + j + 6 - [Value.int .i64 s.pa, .int .i64 s.ea, .int .i64 s.pb, .int .i64 s.eb, .bool s.rev, .int .i64 s.ease].length = k * 6 + j from by simp]
      rw [ih (by simpa using hk)]
      rfl
theorem smcells_one (l : List Sm) : ∀ u ∈ smcells l, u.oneCell' = true := by
  intro u hu
  unfold smcells at hu
  rw [List.mem_flatMap] at hu
  obtain ⟨s, _, hs⟩ := hu
  simp at hs
  rcases hs with rfl | rfl | rfl | rfl | rfl | rfl <;> rfl
/- the cells of a slice of seams -/
theorem SeamsAt.cells {w : World} {b off : Nat} {l : List Sm} (h : SeamsAt w (some ⟨b, off, none⟩) l) : ∀ j u, (smcells l)[j]? = some u → w.cell? ((⟨b, off, none⟩ : Addr).add j) = some u := by
  intro j u hu
  rw [addr_add]
  have hj : j < l.length * 6 := by have := (List.getElem?_eq_some_iff.1 hu).1; rwa [smcells_length] at this
  have hk : j / 6 < l.length := by omega
  obtain ⟨b', off', e, hc⟩ := h (j / 6) hk
  injection e with e; injection e with e1 e2
  subst e1; subst e2
  obtain ⟨r, hr⟩ : ∃ r, r = j % 6 := ⟨_, rfl⟩
  have hr6 : r < 6 := by omega
  have ej : j = j / 6 * 6 + r := by omega
  have hg := smcells_get (l := l) hk hr6
  rw [← ej, hu] at hg
  have hoff : off + j = off + j / 6 * 6 + r := by omega
  rw [hoff]
  match r, hr6 with
  | 0, _ => rw [Option.some.inj hg]; exact hc.c0
  | 1, _ => rw [Option.some.inj hg]; exact hc.c1
  | 2, _ => rw [Option.some.inj hg]; exact hc.c2
  | 3, _ => rw [Option.some.inj hg]; exact hc.c3
  | 4, _ => rw [Option.some.inj hg]; exact hc.c4
  | 5, _ => rw [Option.some.inj hg]; exact hc.c5
theorem seams_blk {w : World} {g : Nat} {l : List Sm} {R : List Value} (h : Blk 53 w g (smcells l ++ R)) : SeamsAt w (some ⟨g, 0, none⟩) l := by
  intro k hk
  refine ⟨g, 0, rfl, ?_⟩
  have key : ∀ j, j < 6 → w.cell? ⟨g, 0 + k * 6 + j, none⟩ = [Value.int .i64 (gSm l k).pa, .int .i64 (gSm l k).ea, .int .i64 (gSm l k).pb, .int .i64 (gSm l k).eb, .bool (gSm l k).rev, .int .i64 (gSm l k).ease][j]? := fun j hj => by
    rw [Nat.zero_add, h.cell, List.getElem?_append_left (by rw [smcells_length]; omega), smcells_get hk hj]
  exact ⟨key 0 (by omega), key 1 (by omega), key 2 (by omega), key 3 (by omega), key 4 (by omega), key 5 (by omega)⟩
/- one seam of such a row stored -/
theorem SeamsAt.at0 {w : World} {g k : Nat} {l : List Sm} (h : SeamsAt w (some ⟨g, 0, none⟩) l) (hk : k < l.length) : SmCells w g (k * 6) (gSm l k) := by
  obtain ⟨b', off', e, hc⟩ := h k hk
  simp only [Option.some.injEq, Addr.mk.injEq, and_true] at e
  obtain ⟨rfl, rfl⟩ := e
  rw [Nat.zero_add] at hc
  exact hc
theorem SmCells.store {w : World} {g o : Nat} {s : Sm} (s' : Sm) (h : SmCells w g o s) :
    SmCells ((((((w.setCell ⟨g, o, none⟩ (.int .i64 s'.pa)).setCell ⟨g, o + 1, none⟩ (.int .i64 s'.ea)).setCell ⟨g, o + 2, none⟩ (.int .i64 s'.pb)).setCell ⟨g, o + 3, none⟩ (.int .i64 s'.eb)).setCell ⟨g, o + 4, none⟩ (.bool s'.rev)).setCell ⟨g, o + 5, none⟩ (.int .i64 s'.ease)) g o s' := by
  obtain ⟨d0, d1, d2, d3, d4, d5⟩ := h
  have n : ∀ a b, a ≠ b → o + a ≠ o + b := fun a b h e => h (by omega)
  refine ⟨?_, ?_, ?_, ?_, ?_, ?_⟩
  · exact (cell_set_off _ _ _ _ _ (n 5 0 (by omega))).trans ((cell_set_off _ _ _ _ _ (n 4 0 (by omega))).trans ((cell_set_off _ _ _ _ _ (n 3 0 (by omega))).trans ((cell_set_off _ _ _ _ _ (n 2 0 (by omega))).trans ((cell_set_off _ _ _ _ _ (n 1 0 (by omega))).trans (World.cell?_setCell_same _ _ _ d0)))))
  · rw [cell_set_off _ _ _ _ _ (n 5 1 (by omega)), cell_set_off _ _ _ _ _ (n 4 1 (by omega)), cell_set_off _ _ _ _ _ (n 3 1 (by omega)), cell_set_off _ _ _ _ _ (n 2 1 (by omega))]
    exact World.cell?_setCell_same _ _ _ ((cell_set_off _ _ _ _ _ (n 0 1 (by omega))).trans d1)
  · rw [cell_set_off _ _ _ _ _ (n 5 2 (by omega)), cell_set_off _ _ _ _ _ (n 4 2 (by omega)), cell_set_off _ _ _ _ _ (n 3 2 (by omega))]
    exact World.cell?_setCell_same _ _ _ ((cell_set_off _ _ _ _ _ (n 1 2 (by omega))).trans ((cell_set_off _ _ _ _ _ (n 0 2 (by omega))).trans d2))
  · rw [cell_set_off _ _ _ _ _ (n 5 3 (by omega)), cell_set_off _ _ _ _ _ (n 4 3 (by omega))]
    exact World.cell?_setCell_same _ _ _ ((cell_set_off _ _ _ _ _ (n 2 3 (by omega))).trans ((cell_set_off _ _ _ _ _ (n 1 3 (by omega))).trans ((cell_set_off _ _ _ _ _ (n 0 3 (by omega))).trans d3)))
  · rw [cell_set_off _ _ _ _ _ (n 5 4 (by omega))]
    exact World.cell?_setCell_same _ _ _ ((cell_set_off _ _ _ _ _ (n 3 4 (by omega))).trans ((cell_set_off _ _ _ _ _ (n 2 4 (by omega))).trans ((cell_set_off _ _ _ _ _ (n 1 4 (by omega))).trans ((cell_set_off _ _ _ _ _ (n 0 4 (by omega))).trans d4))))
  · exact World.cell?_setCell_same _ _ _ ((cell_set_off _ _ _ _ _ (n 4 5 (by omega))).trans ((cell_set_off _ _ _ _ _ (n 3 5 (by omega))).trans ((cell_set_off _ _ _ _ _ (n 2 5 (by omega))).trans ((cell_set_off _ _ _ _ _ (n 1 5 (by omega))).trans ((cell_set_off _ _ _ _ _ (n 0 5 (by omega))).trans d5)))))
theorem cell_six {w : World} {g o i : Nat} (v0 v1 v2 v3 v4 v5 : Value) (h : ∀ j, j < 6 → o + j ≠ i) :
    ((((((w.setCell ⟨g, o, none⟩ v0).setCell ⟨g, o + 1, none⟩ v1).setCell ⟨g, o + 2, none⟩ v2).setCell ⟨g, o + 3, none⟩ v3).setCell ⟨g, o + 4, none⟩ v4).setCell ⟨g, o + 5, none⟩ v5).cell? ⟨g, i, none⟩ = w.cell? ⟨g, i, none⟩ := by
  rw [cell_set_off _ _ _ _ _ (h 5 (by omega)), cell_set_off _ _ _ _ _ (h 4 (by omega)), cell_set_off _ _ _ _ _ (h 3 (by omega)), cell_set_off _ _ _ _ _ (h 2 (by omega)), cell_set_off _ _ _ _ _ (h 1 (by omega))]
  exact cell_set_off _ _ _ _ _ (h 0 (by omega))
theorem seams_set {w : World} {g k : Nat} {l : List Sm} (s' : Sm) (h : SeamsAt w (some ⟨g, 0, none⟩) l) (hk : k < l.length) :
    SeamsAt ((((((w.setCell ⟨g, k * 6, none⟩ (.int .i64 s'.pa)).setCell ⟨g, k * 6 + 1, none⟩ (.int .i64 s'.ea)).setCell ⟨g, k * 6 + 2, none⟩ (.int .i64 s'.pb)).setCell ⟨g, k * 6 + 3, none⟩ (.int .i64 s'.eb)).setCell ⟨g, k * 6 + 4, none⟩ (.bool s'.rev)).setCell ⟨g, k * 6 + 5, none⟩ (.int .i64 s'.ease)) (some ⟨g, 0, none⟩) (l.set k s') := by
  intro i hi
  rw [List.length_set] at hi
  refine ⟨g, 0, rfl, ?_⟩
  rw [Nat.zero_add]
  by_cases hik : i = k
  · subst hik
    have e : gSm (l.set i s') i = s' := by unfold gSm; simp [hi]
    rw [e]
    exact (h.at0 hi).store s'
  · have hc := h.at0 hi
    have e : gSm (l.set k s') i = gSm l i := by unfold gSm; simp [show ¬ k = i from fun e => hik e.symm]
    rw [e]
    have ne : ∀ b, b < 6 → ∀ j, j < 6 → k * 6 + j ≠ i * 6 + b := fun b hb j hj h => by omega
    obtain ⟨f0, f1, f2, f3, f4, f5⟩ := hc
    exact ⟨(cell_six _ _ _ _ _ _ (ne 0 (by omega))).trans f0, (cell_six _ _ _ _ _ _ (ne 1 (by omega))).trans f1, (cell_six _ _ _ _ _ _ (ne 2 (by omega))).trans f2, (cell_six _ _ _ _ _ _ (ne 3 (by omega))).trans f3, (cell_six _ _ _ _ _ _ (ne 4 (by omega))).trans f4, (cell_six _ _ _ _ _ _ (ne 5 (by omega))).trans f5⟩
theorem seam_info : (Tryz.prog.info? 53).map (fun i => (i.zero, i.size, i.bytes)) = some (some (.agg #[.int .i64 0, .int .i64 0, .int .i64 0, .int .i64 0, .bool false, .int .i64 0]), 6, 48) := by kernel_rfl
end Go.Proofs.YtliijigdbpmpaaaGreat
/- plain: which notches are issues; a style whose seams' sides are exchanged. No program in sight. -/
namespace Go.Proofs.YtliijigdbpmpaaaGreat
open Go.RowKit
theorem gap_iff (a b : Int) : gapN a b ≤ 1000 ↔ b - 1000 ≤ a ∧ a ≤ b + 1000 := by unfold gapN; split <;> omega
/- a seam of a style that is in order -/
structure SeamOk (s : Sty) (z : Int) (k : Nat) : Prop where
  sz : sizeB s z = true
  ea : edgeB s (gSm s.ss k).pa (gSm s.ss k).ea = true
  eb : edgeB s (gSm s.ss k).pb (gSm s.ss k).eb = true
  a : PlOk (gPc s.ps (gSm s.ss k).pa.toNat) (gI s.ms z.toNat)
  b : PlOk (gPc s.ps (gSm s.ss k).pb.toNat) (gI s.ms z.toNat)
theorem lnN_grd {p : Pc} {m : Int} (h : PlOk p m) (k : Nat) : lnN p m k = grdN p m k := by unfold lnN grdN; rw [if_neg (fun h' => h' h.g)]
theorem SeamOk.lens {s : Sty} {z : Int} {k : Nat} (h : SeamOk s z k) (hk : k < s.ss.length) :
    lensV s z (k : Int) = ((grdN (gPc s.ps (gSm s.ss k).pa.toNat) (gI s.ms z.toNat) (gSm s.ss k).ea.toNat : Int), (grdN (gPc s.ps (gSm s.ss k).pb.toNat) (gI s.ms z.toNat) (gSm s.ss k).eb.toNat : Int), 0) := by
  rw [lens_5 ⟨h.sz, by omega, by omega⟩ (by rw [Int.toNat_natCast]; exact ⟨h.ea, h.eb⟩) (by rw [Int.toNat_natCast]; exact h.a.g) (by rw [Int.toNat_natCast]; exact h.b.g)]
  unfold lensA lensB
  rw [Int.toNat_natCast, lnN_grd h.a, lnN_grd h.b]
theorem seamE_zero {s : Sty} {z : Int} {k : Nat} (hk : k < s.ss.length) : seamE s z k = 0 ↔ SeamOk s z k := by
  constructor
  · intro h
    unfold seamE at h
    split at h
    · rename_i h1; exact absurd h h1
    rename_i h1
    split at h
    · rename_i h2; exact absurd h h2
    rename_i h2
    have h1' := Classical.not_not.1 h1
    rw [lensV_err] at h1'
    obtain ⟨a, b, c, d⟩ := lens_zero h1'
    rw [Int.toNat_natCast] at b
    exact ⟨a.1, b.1, b.2, plE_zero.1 (Classical.not_not.1 h2), plE_zero.1 h⟩
  · intro h
    unfold seamE
    rw [h.lens hk, if_neg (fun h' => h' rfl), if_neg (fun h' => h' (plE_zero.2 h.a))]
    exact plE_zero.2 h.b
theorem unmE_zero {s : Sty} {z : Int} : unmE s z = 0 ↔ sizeB s z = true ∧ ∀ k, k < s.ss.length → SeamOk s z k := by
  unfold unmE
  cases hs : sizeB s z
  · simp
  · rw [if_neg (by simp), firstE_zero]
    exact ⟨fun h => ⟨rfl, fun k hk => (seamE_zero hk).1 (h k hk)⟩, fun h k hk => (seamE_zero hk).2 (h.2 k hk)⟩
theorem SeamOk.sdA {s : Sty} {z : Int} {k : Nat} (h : SeamOk s z k) (hk : k < s.ss.length) : sdA s z k = ⟨(gPc s.ps (gSm s.ss k).pa.toNat).ns, plL (gPc s.ps (gSm s.ss k).pa.toNat) (gI s.ms z.toNat), (gSm s.ss k).ea, (grdN (gPc s.ps (gSm s.ss k).pa.toNat) (gI s.ms z.toNat) (gSm s.ss k).ea.toNat : Int)⟩ := by
  unfold Go.Proofs.YtliijigdbpmpaaaGreat.sdA; rw [h.lens hk]
theorem SeamOk.sdB {s : Sty} {z : Int} {k : Nat} (h : SeamOk s z k) (hk : k < s.ss.length) : sdB s z k = ⟨(gPc s.ps (gSm s.ss k).pb.toNat).ns, plL (gPc s.ps (gSm s.ss k).pb.toNat) (gI s.ms z.toNat), (gSm s.ss k).eb, (grdN (gPc s.ps (gSm s.ss k).pb.toNat) (gI s.ms z.toNat) (gSm s.ss k).eb.toNat : Int)⟩ := by
  unfold Go.Proofs.YtliijigdbpmpaaaGreat.sdB; rw [h.lens hk]
/- a notch of an edge is alone if the other edge has none near -/
def metF (p q : Pc) (m ea eb : Int) (rev : Bool) (i : Nat) : Bool := hasB q.ns (plL q m) eb (partV (grdN p m ea.toNat) (grdN q m eb.toNat) rev (plV p m i))
def lonF (p q : Pc) (m ea eb : Int) (rev : Bool) (i : Nat) : Bool := decide ((gS p.ns i).1 = ea) && !metF p q m ea eb rev i
theorem aln_lon {p q : Pc} {m ea eb : Int} {rev : Bool} (hp : PlOk p m) (h0 : 0 ≤ ea) (h1 : ea < p.es.length) {i : Nat} (hi : i < p.ns.length) :
    alnB ⟨p.ns, plL p m, ea, (grdN p m ea.toNat : Int)⟩ ⟨q.ns, plL q m, eb, (grdN q m eb.toNat : Int)⟩ rev i = lonF p q m ea eb rev i := by
  unfold alnB lonF metF
  simp only
  by_cases he : (gS p.ns i).1 = ea
  · have hb := plV_bd (hp.i i hi)
    rw [he] at hb
    have hL : 1 ≤ grdN p m ea.toNat := length_pos (graded_lines hp.g (by omega))
    have b1 := lengthN_bd (gE (gradedE p.es p.cs m) ea.toNat).2
    have b2 := lengthN_bd (gE (gradedE q.es q.cs m) eb.toNat).2
    have hz : partE (grdN p m ea.toNat : Int) (grdN q m eb.toNat : Int) (plV p m i) = 0 := partE_zero.2 (prtB_iff.2 (by unfold grdN at *; omega))
    rw [plL_get hi, hz]
    simp
  · simp [he]
def lonTo (p q : Pc) (m ea eb : Int) (rev : Bool) (k : Nat) : List Nat := (List.range k).filter (lonF p q m ea eb rev)
def lonL (p q : Pc) (m ea eb : Int) (rev : Bool) : List Nat := lonTo p q m ea eb rev p.ns.length
theorem lonTo_yes {p q : Pc} {m ea eb : Int} {rev : Bool} {k : Nat} (h : lonF p q m ea eb rev k = true) : (lonTo p q m ea eb rev (k + 1)).length = (lonTo p q m ea eb rev k).length + 1 := by
  unfold lonTo; rw [List.range_succ, List.filter_append]; simp [h]
theorem lonTo_no {p q : Pc} {m ea eb : Int} {rev : Bool} {k : Nat} (h : lonF p q m ea eb rev k = false) : (lonTo p q m ea eb rev (k + 1)).length = (lonTo p q m ea eb rev k).length := by
  unfold lonTo; rw [List.range_succ, List.filter_append]; simp [h]
theorem lonTo_len (p q : Pc) (m ea eb : Int) (rev : Bool) (k : Nat) : (lonTo p q m ea eb rev k).length ≤ k := by
  unfold lonTo; exact Nat.le_trans (List.length_filter_le _ _) (by simp)
theorem aln_lonL {p q : Pc} {m ea eb : Int} {rev : Bool} (hp : PlOk p m) (h0 : 0 ≤ ea) (h1 : ea < p.es.length) :
    alnL ⟨p.ns, plL p m, ea, (grdN p m ea.toNat : Int)⟩ ⟨q.ns, plL q m, eb, (grdN q m eb.toNat : Int)⟩ rev = lonL p q m ea eb rev := by
  unfold alnL alnTo lonL lonTo
  exact List.filter_congr fun i hi => aln_lon hp h0 h1 (List.mem_range.1 hi)
theorem SeamOk.iss {s : Sty} {z : Int} {k : Nat} (h : SeamOk s z k) (hk : k < s.ss.length) :
    seamIss s z k = issK 1 k (lonL (gPc s.ps (gSm s.ss k).pa.toNat) (gPc s.ps (gSm s.ss k).pb.toNat) (gI s.ms z.toNat) (gSm s.ss k).ea (gSm s.ss k).eb (gSm s.ss k).rev) ++ issK 2 k (lonL (gPc s.ps (gSm s.ss k).pb.toNat) (gPc s.ps (gSm s.ss k).pa.toNat) (gI s.ms z.toNat) (gSm s.ss k).eb (gSm s.ss k).ea (gSm s.ss k).rev) := by
  have e1 := edgeB_iff h.ea; have e2 := edgeB_iff h.eb
  unfold seamIss
  rw [h.sdA hk, h.sdB hk, aln_lonL h.a e1.2.2.1 e1.2.2.2, aln_lonL h.b e2.2.2.1 e2.2.2.2]
theorem mem_issK {kind c a b : Int} {k : Nat} {l : List Nat} : (c, a, b) ∈ issK kind k l ↔ c = kind ∧ a = k ∧ ∃ i, i ∈ l ∧ b = (i : Nat) := by
  unfold issK
  rw [List.mem_map]
  constructor
  · rintro ⟨i, hi, e⟩
    injection e with e1 e2; injection e2 with e2 e3
    exact ⟨e1.symm, e2.symm, i, hi, e3.symm⟩
  · rintro ⟨rfl, rfl, i, hi, rfl⟩
    exact ⟨i, hi, rfl⟩
theorem mem_unm {s : Sty} {z : Int} {x : Iss} : x ∈ unmL s z ↔ ∃ k, k < s.ss.length ∧ x ∈ seamIss s z k := by
  unfold unmL unmTo
  rw [List.mem_flatMap]
  exact ⟨fun ⟨k, h, h'⟩ => ⟨k, List.mem_range.1 h, h'⟩, fun ⟨k, h, h'⟩ => ⟨k, List.mem_range.2 h, h'⟩⟩
theorem mem_seamIss {s : Sty} {z c a b : Int} {k : Nat} : (c, a, b) ∈ seamIss s z k ↔ a = k ∧ ((c = 1 ∧ ∃ i, i ∈ alnL (sdA s z k) (sdB s z k) (gSm s.ss k).rev ∧ b = (i : Nat)) ∨ (c = 2 ∧ ∃ i, i ∈ alnL (sdB s z k) (sdA s z k) (gSm s.ss k).rev ∧ b = (i : Nat))) := by
  unfold seamIss
  rw [List.mem_append, mem_issK, mem_issK]
  constructor
  · rintro (⟨h1, h2, h3⟩ | ⟨h1, h2, h3⟩)
    · exact ⟨h2, .inl ⟨h1, h3⟩⟩
    · exact ⟨h2, .inr ⟨h1, h3⟩⟩
  · rintro ⟨h2, ⟨h1, h3⟩ | ⟨h1, h3⟩⟩
    · exact .inl ⟨h1, h2, h3⟩
    · exact .inr ⟨h1, h2, h3⟩
theorem mem_seam {s : Sty} {z c b : Int} {k : Nat} (hk : k < s.ss.length) : (c, (k : Int), b) ∈ unmL s z ↔ (c, (k : Int), b) ∈ seamIss s z k := by
  rw [mem_unm]
  constructor
  · rintro ⟨j, hj, h⟩
    have e := (mem_seamIss.1 h).1
    obtain rfl : k = j := by omega
    exact h
  · intro h; exact ⟨k, hk, h⟩
/- an issue of the first kind, of the second kind -/
theorem iss_first {s : Sty} {z : Int} {k i : Nat} (h : SeamOk s z k) (hk : k < s.ss.length) (hi : i < (gPc s.ps (gSm s.ss k).pa.toNat).ns.length) :
    (1, (k : Int), (i : Int)) ∈ unmL s z ↔ lonF (gPc s.ps (gSm s.ss k).pa.toNat) (gPc s.ps (gSm s.ss k).pb.toNat) (gI s.ms z.toNat) (gSm s.ss k).ea (gSm s.ss k).eb (gSm s.ss k).rev i = true := by
  rw [mem_seam hk, h.iss hk, List.mem_append, mem_issK, mem_issK]
  unfold lonL lonTo
  constructor
  · rintro (⟨_, _, j, hj, e⟩ | ⟨h1, _⟩)
    · obtain rfl : i = j := by omega
      exact (List.mem_filter.1 hj).2
    · cases h1
  · intro h
    exact .inl ⟨rfl, rfl, i, List.mem_filter.2 ⟨List.mem_range.2 hi, h⟩, rfl⟩
theorem iss_second {s : Sty} {z : Int} {k i : Nat} (h : SeamOk s z k) (hk : k < s.ss.length) (hi : i < (gPc s.ps (gSm s.ss k).pb.toNat).ns.length) :
    (2, (k : Int), (i : Int)) ∈ unmL s z ↔ lonF (gPc s.ps (gSm s.ss k).pb.toNat) (gPc s.ps (gSm s.ss k).pa.toNat) (gI s.ms z.toNat) (gSm s.ss k).eb (gSm s.ss k).ea (gSm s.ss k).rev i = true := by
  rw [mem_seam hk, h.iss hk, List.mem_append, mem_issK, mem_issK]
  unfold lonL lonTo
  constructor
  · rintro (⟨h1, _⟩ | ⟨_, _, j, hj, e⟩)
    · cases h1
    · obtain rfl : i = j := by omega
      exact (List.mem_filter.1 hj).2
  · intro h
    exact .inr ⟨rfl, rfl, i, List.mem_filter.2 ⟨List.mem_range.2 hi, h⟩, rfl⟩
theorem issK_len' (kind : Int) (k : Nat) (l : List Nat) : (issK kind k l).length = l.length := by simp [issK]
theorem unm_len {s : Sty} {z : Int} {k : Nat} (h : SeamOk s z k) (hk : k < s.ss.length) :
    (unmTo s z (k + 1)).length = (unmTo s z k).length + (lonL (gPc s.ps (gSm s.ss k).pa.toNat) (gPc s.ps (gSm s.ss k).pb.toNat) (gI s.ms z.toNat) (gSm s.ss k).ea (gSm s.ss k).eb (gSm s.ss k).rev).length + (lonL (gPc s.ps (gSm s.ss k).pb.toNat) (gPc s.ps (gSm s.ss k).pa.toNat) (gI s.ms z.toNat) (gSm s.ss k).eb (gSm s.ss k).ea (gSm s.ss k).rev).length := by
  rw [unmTo_succ, h.iss hk, List.length_append, List.length_append, issK_len', issK_len']; omega
theorem unm_le {s : Sty} {z : Int} (h : ∀ k, k < s.ss.length → SeamOk s z k) : ∀ k, k ≤ s.ss.length → (unmTo s z k).length ≤ 32 * k
  | 0, _ => by simp [unmTo]
  | k + 1, hk => by
    have ih := unm_le h k (by omega)
    have ho := h k (by omega)
    rw [unm_len ho (by omega)]
    have l1 := lonTo_len (gPc s.ps (gSm s.ss k).pa.toNat) (gPc s.ps (gSm s.ss k).pb.toNat) (gI s.ms z.toNat) (gSm s.ss k).ea (gSm s.ss k).eb (gSm s.ss k).rev (gPc s.ps (gSm s.ss k).pa.toNat).ns.length
    have l2 := lonTo_len (gPc s.ps (gSm s.ss k).pb.toNat) (gPc s.ps (gSm s.ss k).pa.toNat) (gI s.ms z.toNat) (gSm s.ss k).eb (gSm s.ss k).ea (gSm s.ss k).rev (gPc s.ps (gSm s.ss k).pb.toNat).ns.length
    have n1 := ho.a.n; have n2 := ho.b.n
    unfold lonL
    omega
/- a style whose seams' sides are all exchanged -/
def swAll (s : Sty) : Sty := ⟨s.ms, s.ps, s.ss.map swSm⟩
theorem swAll_len (s : Sty) : (swAll s).ss.length = s.ss.length := by simp [swAll]
theorem swAll_get (s : Sty) {k : Nat} (hk : k < s.ss.length) : gSm (swAll s).ss k = swSm (gSm s.ss k) := by
  unfold swAll gSm; simp [hk]
theorem swAll_ok {s : Sty} {z : Int} {k : Nat} (hk : k < s.ss.length) : SeamOk (swAll s) z k ↔ SeamOk s z k := by
  have e := swAll_get s hk
  constructor
  · intro h
    obtain ⟨a, b, c, d, f⟩ := h
    rw [e] at b c d f
    exact ⟨a, c, b, f, d⟩
  · intro h
    obtain ⟨a, b, c, d, f⟩ := h
    refine ⟨a, ?_, ?_, ?_, ?_⟩ <;> rw [e]
    · exact c
    · exact b
    · exact f
    · exact d
theorem swAll_E {s : Sty} {z : Int} : unmE (swAll s) z = 0 ↔ unmE s z = 0 := by
  rw [unmE_zero, unmE_zero, swAll_len]
  exact ⟨fun h => ⟨h.1, fun k hk => (swAll_ok hk).1 (h.2 k hk)⟩, fun h => ⟨h.1, fun k hk => (swAll_ok hk).2 (h.2 k hk)⟩⟩
theorem swAll_iss {s : Sty} {z : Int} {k : Nat} (h : SeamOk s z k) (hk : k < s.ss.length) :
    seamIss (swAll s) z k = issK 1 k (alnL (sdB s z k) (sdA s z k) (gSm s.ss k).rev) ++ issK 2 k (alnL (sdA s z k) (sdB s z k) (gSm s.ss k).rev) := by
  have h' := (swAll_ok hk).2 h
  have hk' : k < (swAll s).ss.length := by rw [swAll_len]; exact hk
  unfold seamIss
  rw [h'.sdA hk', h'.sdB hk', h.sdA hk, h.sdB hk, swAll_get s hk]
  rfl
theorem swAll_mem {s : Sty} {z : Int} (h : unmE s z = 0) {c a b : Int} (hm : (c, a, b) ∈ unmL s z) : (3 - c, a, b) ∈ unmL (swAll s) z ∧ 1 ≤ c ∧ c ≤ 2 := by
  obtain ⟨k, hk, hx⟩ := mem_unm.1 hm
  have ho := (unmE_zero.1 h).2 k hk
  have hc := mem_seamIss.1 hx
  refine ⟨mem_unm.2 ⟨k, by rw [swAll_len]; exact hk, ?_⟩, by omega⟩
  rw [swAll_iss ho hk, List.mem_append, mem_issK, mem_issK]
  rcases hc with ⟨h1, ⟨h2, h3⟩ | ⟨h2, h3⟩⟩
  · exact .inr ⟨by omega, h1, h3⟩
  · exact .inl ⟨by omega, h1, h3⟩
theorem swAll_to {s : Sty} {z : Int} (h : unmE s z = 0) : ∀ k, k ≤ s.ss.length → (unmTo (swAll s) z k).length = (unmTo s z k).length
  | 0, _ => by simp [unmTo]
  | k + 1, hk => by
    have ho := (unmE_zero.1 h).2 k (by omega)
    rw [unmTo_succ, unmTo_succ, List.length_append, List.length_append, swAll_to h k (by omega), swAll_iss ho (by omega)]
    unfold seamIss
    simp only [List.length_append, issK_len']
    omega
theorem swAll_L {s : Sty} {z : Int} (h : unmE s z = 0) : (unmL (swAll s) z).length = (unmL s z).length := by
  unfold unmL; rw [swAll_len]; exact swAll_to h _ (Nat.le_refl _)
end Go.Proofs.YtliijigdbpmpaaaGreat
namespace Go.Proofs.YtliijigdbpmpaaaGreat
open Go.RowKit
theorem gap_two (a b : Int) : gapN a b ≤ 1000 ↔ a - b ≤ 1000 ∧ b - a ≤ 1000 := by unfold gapN; split <;> omega
set_option maxRecDepth 100000 in
set_option maxHeartbeats 1600000 in
theorem rnear_any (b : PcA) (q : Pc) (m : Int) (AB : Option Addr) (cB : Nat) (eb x : Int) (w : World) (hq : PcAt w b q) (hb : IntsAt w AB (plL q m)) (hoq : PlOk q m) (hx0 : -1000000000000 ≤ x) (hx1 : x ≤ 1000000000000) :
    Calls Tryz.prog 46 #[b.val, .slice AB b.nN cB, .int .i64 eb, .int .i64 x] w fun e w' => e = .returned (.bool (hasB q.ns (plL q m) eb x)) ∧ Ext w w' := by
  have HOQ := Lib.hid hoq; have HB := Lib.hid hb
  have HLNQ : Hid (q.ns.length = b.nN) := hq.ln
  have HNQ : Hid (SpotsAt w b.AN q.ns) := hq.n
  have HR : Hid (∀ i, i < q.ns.length → 0 ≤ gI (plL q m) i ∧ gI (plL q m) i ≤ 1000000000000) := fun i hi => by
    rw [plL_get hi]
    have h := plV_bd (HOQ.out.i i hi)
    have h2 := lengthN_bd (gE (gradedE q.es q.cs m) (gS q.ns i).1.toNat).2
    unfold grdN at h
    omega
  clear hoq hb hq
  obtain ⟨nm', AE', nE', cE', gr', AN', nN', cN', AC', nC', cC', AW', nW', cW', mt'⟩ := b
  simp only [PcA.val] at HLNQ HNQ ⊢
  have h16' : nN' ≤ 16 := by rw [← HLNQ.out]; exact HOQ.out.n
  go_enter Tryz.func46, Tryz.ntmps46
  go_wp2_with fail
  refine wp_at fun W0 hW0 => ?_
  have hB1 : Blk 27 W0 w.heap.size [.string nm', .slice AE' nE' cE', .int .i64 gr', .slice AN' nN' cN', .slice AC' nC' cC', .slice AW' nW' cW', .bool mt'] := by rw [hW0]; exact Blk.new' rfl
  have hx0' : Ext w W0 := by rw [hW0]; exact (Ext.refl _).alloc _
  have HB1 := Lib.hid hB1; have HX0 := Lib.hid hx0'; clear hW0 hB1 hx0'
  go_loopw [9] (fun i wr => ∃ k : Nat, k ≤ nN' ∧ i = .int .i64 k ∧ (∀ j, j < k → nearF q.ns (plL q m) eb x j = false) ∧ wr = W0) (fun i _ => nN' - (intOf i).toNat)
  case atStart => exact ⟨0, Nat.zero_le _, rfl, fun j hj => absurd hj (Nat.not_lt_zero _), rfl⟩
  case round =>
    obtain ⟨k, hk, rfl, hall, hwr⟩ := hrel
    have hwr' := hwr.symm
    subst hwr'
    have HALL := Lib.hid hall; clear hall
    by_cases hlt : k < nN'
    · have hkq : k < q.ns.length := by rw [HLNQ.out]; exact hlt
      obtain ⟨bm, om, hAN', q0, _⟩ := (HNQ.out.ext HX0.out).g (k := k) hkq
      subst hAN'
      obtain ⟨bq, oq, hAB, r0⟩ := (HB.out.ext HX0.out).g (k := k) (by rw [plL_len]; exact hkq)
      subst hAB
      obtain ⟨hr0, hr1⟩ := HR.out k hkq
      obtain ⟨eq', heq⟩ : ∃ x, x = (gS q.ns k).1 := ⟨_, rfl⟩
      obtain ⟨QV, hQV⟩ : ∃ x, x = gI (plL q m) k := ⟨_, rfl⟩
      rw [← heq] at q0
      rw [← hQV] at r0 hr0 hr1
      have HNF : Hid (nearF q.ns (plL q m) eb x k = decide (eq' = eb ∧ (QV - x ≤ 1000 ∧ x - QV ≤ 1000))) := by
        show _ = _
        unfold nearF
        rw [← heq, ← hQV]
        simp only [gap_two]
      clear heq hQV
      have b3 := HB1.out.cell 3
      simp only [List.getElem?_cons_succ, List.getElem?_cons_zero] at b3
      by_cases f0 : eq' = eb
      · have f0b : (eq' == eb) = true := by simp [f0]
        by_cases f1 : QV - x ≤ 1000
        · by_cases f2 : x - QV ≤ 1000
          · have HT : Hid (hasB q.ns (plL q m) eb x = true) := by
              show _ = _
              unfold hasB
              exact List.any_eq_true.2 ⟨k, List.mem_range.2 hkq, by rw [HNF.out]; exact decide_eq_true ⟨f0, f1, f2⟩⟩
            clear f0
            go_wp2_with fail
            go_ret
            exact ⟨ret_bool HT.out.symm, HX0.out⟩
          · have HT : Hid (nearF q.ns (plL q m) eb x k = false) := by show _ = _; rw [HNF.out]; exact decide_eq_false (fun h => f2 h.2.2)
            clear f0
            go_wp2_with fail
            go_roundw
            case rel => exact ⟨k + 1, by omega, by go_num, fun j hj => (Nat.lt_succ_iff_lt_or_eq.1 hj).elim (HALL.out j) (fun e => by rw [e]; exact HT.out), trivial⟩
            case measure => simp [intOf]; omega
        · have HT : Hid (nearF q.ns (plL q m) eb x k = false) := by show _ = _; rw [HNF.out]; exact decide_eq_false (fun h => f1 h.2.1)
          clear f0
          go_wp2_with fail
          go_roundw
          case rel => exact ⟨k + 1, by omega, by go_num, fun j hj => (Nat.lt_succ_iff_lt_or_eq.1 hj).elim (HALL.out j) (fun e => by rw [e]; exact HT.out), trivial⟩
          case measure => simp [intOf]; omega
      · have f0b : (eq' == eb) = false := by simp [f0]
        have HT : Hid (nearF q.ns (plL q m) eb x k = false) := by show _ = _; rw [HNF.out]; exact decide_eq_false (fun h => f0 h.1)
        clear f0
        go_wp2_with fail
        go_roundw
        case rel => exact ⟨k + 1, by omega, by go_num, fun j hj => (Nat.lt_succ_iff_lt_or_eq.1 hj).elim (HALL.out j) (fun e => by rw [e]; exact HT.out), trivial⟩
        case measure => simp [intOf]; omega
    · obtain rfl : k = nN' := by omega
      have HT : Hid (hasB q.ns (plL q m) eb x = false) := by
        show _ = _
        unfold hasB
        rw [List.any_eq_false]
        intro j hj
        rw [HALL.out j (by rw [← HLNQ.out]; exact List.mem_range.1 hj)]; decide
      go_wp2_with fail
      go_ret
      exact ⟨ret_bool HT.out.symm, HX0.out⟩
theorem issK_snoc (kd : Int) (k : Nat) (l : List Nat) (i : Nat) : issK kd k (l ++ [i]) = issK kd k l ++ [(kd, (k : Int), (i : Int))] := by simp [issK]
theorem lonTo_y {p q : Pc} {m ea eb : Int} {rev : Bool} {k : Nat} (h : lonF p q m ea eb rev k = true) : lonTo p q m ea eb rev (k + 1) = lonTo p q m ea eb rev k ++ [k] := by
  unfold lonTo; rw [List.range_succ, List.filter_append]; simp [h]
theorem lonTo_n {p q : Pc} {m ea eb : Int} {rev : Bool} {k : Nat} (h : lonF p q m ea eb rev k = false) : lonTo p q m ea eb rev (k + 1) = lonTo p q m ea eb rev k := by
  unfold lonTo; rw [List.range_succ, List.filter_append]; simp [h]
def RetLo' (w : World) (L : List Iss) (e : Ending) (w' : World) : Prop := ∃ v, e = .returned v ∧ OwnK w' w.heap.size v L ∧ Ext w w'
set_option maxRecDepth 100000 in
set_option maxHeartbeats 3200000 in
theorem rlonely_any (kd : Int) (K : Nat) (a b : PcA) (p q : Pc) (m ea eb : Int) (rev : Bool) (AA AB : Option Addr) (cA cB : Nat) (w : World)
    (hp : PcAt w a p) (hq : PcAt w b q) (ha : IntsAt w AA (plL p m)) (hb : IntsAt w AB (plL q m)) (hop : PlOk p m) (hoq : PlOk q m) :
    Calls Tryz.prog 28 #[.int .i64 kd, .int .i64 (K : Int), a.val, b.val, .slice AA a.nN cA, .slice AB b.nN cB, .int .i64 ea, .int .i64 eb, .int .i64 (grdN p m ea.toNat : Int), .int .i64 (grdN q m eb.toNat : Int), .bool rev] w (RetLo' w (issK kd K (lonL p q m ea eb rev))) := by
  have HOP := Lib.hid hop; have HA := Lib.hid ha
  have HLNP : Hid (p.ns.length = a.nN) := hp.ln
  have HNP : Hid (SpotsAt w a.AN p.ns) := hp.n
  have HFB := Lib.hid (lengthN_bd (gE (gradedE q.es q.cs m) eb.toNat).2)
  have HNR := Lib.hid (fun x W (h : Ext w W) hx0 hx1 => rnear_any b q m AB cB eb x W (hq.ext h) (hb.ext h) hoq hx0 hx1)
  clear hop hoq ha hb hp hq
  obtain ⟨FP, hFP⟩ : ∃ x, x = grdN p m ea.toNat := ⟨_, rfl⟩
  obtain ⟨FQ, hFQ⟩ : ∃ x, x = grdN q m eb.toNat := ⟨_, rfl⟩
  rw [← hFP, ← hFQ]
  have HFP := Lib.hid hFP; have HFQ := Lib.hid hFQ; clear hFP hFQ
  obtain ⟨nm, AE, nE, cE, gr, AN, nN, cN, AC, nC, cC, AW, nW, cW, mt⟩ := a
  obtain ⟨nm', AE', nE', cE', gr', AN', nN', cN', AC', nC', cC', AW', nW', cW', mt'⟩ := b
  simp only [PcA.val] at HLNP HNP HNR ⊢
  have h16 : nN ≤ 16 := by rw [← HLNP.out]; exact HOP.out.n
  obtain ⟨i0, hi0, hz0, hz1, hz2⟩ := info_parts issue_info
  go_enter Tryz.func28, Tryz.ntmps28
  go_wp2_with fail
  refine wp_at fun W0 hW0 => ?_
  have hB1 : Blk 27 W0 w.heap.size [.string nm, .slice AE nE cE, .int .i64 gr, .slice AN nN cN, .slice AC nC cC, .slice AW nW cW, .bool mt] := by rw [hW0]; exact (Blk.new' rfl).ext ((Ext.refl _).alloc _)
  have hB2 : Blk 27 W0 (w.heap.size + 1) [.string nm', .slice AE' nE' cE', .int .i64 gr', .slice AN' nN' cN', .slice AC' nC' cC', .slice AW' nW' cW', .bool mt'] := by rw [hW0]; exact Blk.new' (by simp)
  have hx0 : Ext w W0 := by rw [hW0]; exact ((Ext.refl _).alloc _).alloc _
  have HB1 := Lib.hid hB1; have HB2 := Lib.hid hB2; have HX0 := Lib.hid hx0; clear hW0 hB1 hB2 hx0
  go_loopw [23, 24] (fun v i wr => ∃ k : Nat, k ≤ nN ∧ i = .int .i64 k ∧ OwnK wr W0.heap.size v (issK kd K (lonTo p q m ea eb rev k)) ∧ Ext W0 wr) (fun _ i _ => nN - (intOf i).toNat)
  case atStart => exact ⟨0, Nat.zero_le _, rfl, World.ownsRow_nil _ _ _ _, Ext.refl _⟩
  case round =>
    obtain ⟨k, hk, rfl, ho, hx⟩ := hrel
    have hlk : (issK kd K (lonTo p q m ea eb rev k)).length ≤ k := by rw [issK_len']; exact lonTo_len _ _ _ _ _ _ _
    have HSY : Hid (lonF p q m ea eb rev k = true → issK kd K (lonTo p q m ea eb rev (k + 1)) = issK kd K (lonTo p q m ea eb rev k) ++ [(kd, (K : Int), (k : Int))]) := fun h => by rw [lonTo_y h, issK_snoc]
    have HSN : Hid (lonF p q m ea eb rev k = false → issK kd K (lonTo p q m ea eb rev (k + 1)) = issK kd K (lonTo p q m ea eb rev k)) := fun h => by rw [lonTo_n h]
    have HEND : Hid (k = nN → issK kd K (lonL p q m ea eb rev) = issK kd K (lonTo p q m ea eb rev k)) := fun h => by unfold lonL; rw [HLNP.out, h]
    obtain ⟨LK, hLK⟩ : ∃ LK, LK = issK kd K (lonTo p q m ea eb rev k) := ⟨_, rfl⟩
    rw [← hLK] at ho hlk HSY HSN HEND
    clear hLK
    obtain ⟨wr0, rfl⟩ : ∃ wr0 : World, wr0 = wr := ⟨_, rfl⟩
    have HO := Lib.hid ho; have HX := Lib.hid hx; clear ho hx
    have HXw := Lib.hid (HX0.out.trans HX.out)
    by_cases hlt : k < nN
    rotate_left
    · obtain rfl : k = nN := by omega
      have HC := Lib.hid (HEND.out rfl)
      clear HEND
      go_wp2_with fail
      go_ret
      refine ⟨_, rfl, ?_, HXw.out⟩
      rw [HC.out]
      exact own_base_le HO.out HX0.out.size
    clear HEND
    have hkl : k < p.ns.length := by rw [HLNP.out]; exact hlt
    obtain ⟨bn, on, hAN, n0, _⟩ := (HNP.out.ext HXw.out).g (k := k) hkl
    subst hAN
    obtain ⟨ed, hed⟩ : ∃ ed, ed = (gS p.ns k).1 := ⟨_, rfl⟩
    rw [← hed] at n0
    have HED := Lib.hid hed; clear hed
    have b3 := (HB1.out.ext HX.out).cell 3
    simp only [List.getElem?_cons_succ, List.getElem?_cons_zero] at b3
    by_cases he : ed = ea
    rotate_left
    · have heb : (ed != ea) = true := by simp [he]
      have hF : lonF p q m ea eb rev k = false := by unfold lonF; rw [← HED.out]; simp [he]
      have HF := Lib.hid (HSN.out hF)
      clear hF he
      go_wp2_with fail
      go_roundw
      case rel => exact ⟨k + 1, by omega, by go_num, by rw [HF.out]; exact HO.out, HX.out⟩
      case measure => simp [intOf]; omega
    subst he
    have heb : (ed != ed) = false := by simp
    obtain ⟨bp, op, hAA, p0⟩ := (HA.out.ext HXw.out).g (k := k) (by rw [plL_len]; exact hkl)
    subst hAA
    rw [plL_get hkl] at p0
    obtain ⟨PV, hPV⟩ : ∃ PV, PV = plV p m k := ⟨_, rfl⟩
    rw [← hPV] at p0
    obtain ⟨AT, hAT⟩ : ∃ x, x = partV (FP : Int) (FQ : Int) rev PV := ⟨_, rfl⟩
    have hatb : 0 ≤ AT ∧ AT ≤ 1000000000000 := by
      rw [hAT]; exact partV_bd (by omega) (by have := HFB.out; rw [HFQ.out]; unfold grdN; omega)
    have HLON : Hid (lonF p q m ed eb rev k = !hasB q.ns (plL q m) eb AT) := by
      show _ = _
      unfold lonF metF
      rw [← HED.out, ← HFP.out, ← HFQ.out, ← hPV, ← hAT]; simp
    have HPC : Hid (∀ W, Calls Tryz.prog 22 #[.int .i64 (FP : Int), .int .i64 (FQ : Int), .bool rev, .int .i64 PV] W fun e w' => e = .returned (.tuple #[.int .i64 AT, .int .i64 (partE (FP : Int) (FQ : Int) PV)]) ∧ Ext W w') := fun W => by rw [hAT]; exact rpartner_any _ _ _ _ W
    clear hPV hAT
    generalize partE (FP : Int) (FQ : Int) PV = PE at HPC
    go_wp2_with fail
    refine (HPC.out _).mono ?_
    rintro e w1 ⟨rfl, he1⟩
    have HX1 := Lib.hid (HX.out.trans he1); have HXr1 := Lib.hid he1
    clear he1 n0 p0 b3
    obtain ⟨z0, z1, z2, z3, z4, z5, z6⟩ := blk7 (HB2.out.ext HX1.out)
    go_wp2_with fail
    refine (HNR.out AT _ (HX0.out.trans HX1.out) (by omega) (by omega)).mono ?_
    rintro e w2 ⟨rfl, he2⟩
    have HX2 := Lib.hid (HX1.out.trans he2); have HXr2 := Lib.hid (HXr1.out.trans he2)
    clear he2 z0 z1 z2 z3 z4 z5 z6
    cases hM : hasB q.ns (plL q m) eb AT
    rotate_left
    · have HF := Lib.hid (HSN.out (by rw [HLON.out, hM]; rfl))
      clear hM HLON HSN HSY
      go_wp2_with fail
      go_roundw
      case rel => exact ⟨k + 1, by omega, by go_num, by rw [HF.out]; exact own_ext HO.out HXr2.out, HX2.out⟩
      case measure => simp [intOf]; omega
    have HF := Lib.hid (HSY.out (by rw [HLON.out, hM]; rfl))
    clear hM HLON HSN HSY
    have hbb : W0.heap.size ≤ w2.heap.size := HX2.out.size
    have H63 : Hid (LK.length + 1 ≤ maxLen) := by show _ ≤ _; unfold maxLen; omega
    have H64 : Hid ((LK.length + 1) * 24 ≤ 140737488355328) := by show _ ≤ _; omega
    have HC6 : Hid (W0.heap.size ≤ (w2.alloc (.cells #[.int .i64 kd, .int .i64 (K : Int), .int .i64 (k : Int)] 59)).heap.size) := by show _ ≤ _; simp; omega
    go_wp2_with (at_builtin; refine wpList_append_own _ rfl (.tmp 58) (.tmp 63) 46 rfl W0.heap.size 59 i0 (.agg #[.int .i64 0, .int .i64 0, .int .i64 0]) 3 24 Tryz.underlying46 hi0 hz0 hz1 hz2 rfl (by decide) _ LK.length (isscells LK) rfl (World.ownsRow.alloc (own_ext HO.out HXr2.out) _) ⟨w2.heap.size, 0, none⟩ 1 1 [.int .i64 kd, .int .i64 (K : Int), .int .i64 (k : Int)] rfl rfl (World.news_of_block (cs := #[.int .i64 kd, .int .i64 (K : Int), .int .i64 (k : Int)]) (t := 59) (fr := (0, 0)) (heap_alloc_new w2 _)) (by simp [Value.oneCell']) H63.out H64.out HC6.out ?_)
    intro v' w3 hown' hgrow _
    have hO' : OwnK w3 W0.heap.size v' (LK ++ [(kd, (K : Int), (k : Int))]) := by
      unfold OwnK
      rw [List.length_append, isscells_append]
      exact hown'
    have hx' : Ext W0 w3 := (HX2.out.alloc _).grown hgrow (fun g hg => (World.ownsRow.lt HO.out g hg).1)
    have HO' := Lib.hid hO'; clear hO' hown' hgrow
    go_wp2_with fail
    go_roundw
    case rel => exact ⟨k + 1, by omega, by go_num, by rw [HF.out]; exact HO'.out, hx'⟩
    case measure => simp [intOf]; omega
end Go.Proofs.YtliijigdbpmpaaaGreat
