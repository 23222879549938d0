/- plain: a seam whose sides are exchanged; words: a row of seams written in place -/
import Derived.Test.YtilkgocpkhionaaKUnfit
namespace Go.Proofs.Ytilkgocpkhionaa
open Go.RowKit
def swSm (m : Sm) : Sm := ⟨m.pb, m.eb, m.pa, m.ea, m.rev, m.ease⟩
def swSty (s : Sty) (k : Nat) : Sty := ⟨s.ms, s.ps, s.ss.set k (swSm (gSm s.ss k))⟩
theorem swSty_get (s : Sty) {k j : Nat} (hk : k < s.ss.length) : gSm (swSty s k).ss j = if j = k then swSm (gSm s.ss k) else gSm s.ss j := by
  unfold swSty gSm
  by_cases h : j = k
  · subst h; simp [hk]
  · rw [if_neg h]; simp [show ¬ k = j from fun e => h e.symm]
theorem swSty_len (s : Sty) (k : Nat) : (swSty s k).ss.length = s.ss.length := by simp [swSty]
theorem lensV_err (s : Sty) (z k : Int) : (lensV s z k).2.2 = lensE s z k := by
  unfold lensV
  split
  · rfl
  · rename_i h; simp only; omega
theorem lens_zero {s : Sty} {z k : Int} (h : lensE s z k = 0) : (sizeB s z = true ∧ 0 ≤ k ∧ k < s.ss.length) ∧ (edgeB s (gSm s.ss k.toNat).pa (gSm s.ss k.toNat).ea = true ∧ edgeB s (gSm s.ss k.toNat).pb (gSm s.ss k.toNat).eb = true) ∧
    gradedR (gPc s.ps (gSm s.ss k.toNat).pa.toNat).es (gPc s.ps (gSm s.ss k.toNat).pa.toNat).cs (gI s.ms z.toNat) = 0 ∧ gradedR (gPc s.ps (gSm s.ss k.toNat).pb.toNat).es (gPc s.ps (gSm s.ss k.toNat).pb.toNat).cs (gI s.ms z.toNat) = 0 := by
  unfold lensE at h
  split at h
  · cases h
  split at h
  · cases h
  split at h
  · rename_i h1; exact absurd h h1
  · rename_i h1 h2 h3
    exact ⟨Classical.not_not.1 h1, Classical.not_not.1 h2, Classical.not_not.1 h3, h⟩
theorem sw_lens_k {s : Sty} {z : Int} {k : Nat} (h : (lensV s z (k : Int)).2.2 = 0) : lensV (swSty s k) z (k : Int) = ((lensV s z (k : Int)).2.1, (lensV s z (k : Int)).1, 0) := by
  rw [lensV_err] at h
  obtain ⟨h1, h2, h3, h4⟩ := lens_zero h
  have hk : k < s.ss.length := by omega
  have e := swSty_get s (k := k) (j := k) hk
  rw [if_pos rfl] at e
  have key : gSm (swSty s k).ss ((k : Nat) : Int).toNat = swSm (gSm s.ss k) := by rw [Int.toNat_natCast]; exact e
  rw [lens_5 h1 h2 h3 h4, lens_5 (s := swSty s k) (z := z) (k := k)]
  · unfold lensA lensB
    rw [key, Int.toNat_natCast]; rfl
  · refine ⟨h1.1, h1.2.1, ?_⟩
    rw [swSty_len]; exact h1.2.2
  · rw [key]
    rw [Int.toNat_natCast] at h2
    exact ⟨h2.2, h2.1⟩
  · rw [key]; rw [Int.toNat_natCast] at h4; exact h4
  · rw [key]; rw [Int.toNat_natCast] at h3; exact h3
theorem sw_lens_j {s : Sty} {z : Int} {k j : Nat} (hk : k < s.ss.length) (hj : j ≠ k) : lensV (swSty s k) z (j : Int) = lensV s z (j : Int) := by
  have key : gSm (swSty s k).ss ((j : Nat) : Int).toNat = gSm s.ss ((j : Nat) : Int).toNat := by
    rw [Int.toNat_natCast, swSty_get s hk, if_neg hj]
  have e : lensE (swSty s k) z (j : Int) = lensE s z (j : Int) := by
    unfold lensE
    rw [key, swSty_len]; rfl
  unfold lensV lensA lensB
  rw [e, key]; rfl
theorem gapN_comm (a b : Int) : gapN a b = gapN b a := by unfold gapN; split <;> split <;> omega
theorem sw_unf {s : Sty} {z : Int} {k : Nat} (hk : k < s.ss.length) (h : unfE s z = 0) : unfE (swSty s k) z = 0 ∧ unfL (swSty s k) z = unfL s z := by
  unfold unfE at h ⊢
  split at h
  · cases h
  rename_i hs
  have hs' : ¬ sizeB (swSty s k) z = false := hs
  have hall := (firstE_zero _ _).1 h
  rw [if_neg hs', swSty_len]
  have hkk := sw_lens_k (s := s) (z := z) (hall k hk)
  refine ⟨(firstE_zero _ _).2 fun j hj => ?_, ?_⟩
  · by_cases hjk : j = k
    · subst hjk; show (lensV (swSty s j) z (j : Int)).2.2 = 0; rw [hkk]
    · show (lensV (swSty s k) z (j : Int)).2.2 = 0; rw [sw_lens_j hk hjk]; exact hall j hj
  · unfold unfL unfTo
    rw [swSty_len]
    congr 1
    apply List.filter_congr
    intro j hj
    have hj' : j < s.ss.length := List.mem_range.1 hj
    unfold unfF
    rw [swSty_get s hk]
    by_cases hjk : j = k
    · subst hjk
      rw [if_pos rfl, hkk]
      show decide ((gSm s.ss j).ease < gapN _ _) = _
      rw [gapN_comm]
    · rw [if_neg hjk, sw_lens_j hk hjk]
/- a row of seams -/
def smcells (l : List Sm) : List Value := l.flatMap fun s => [.int .i64 s.pa, .int .i64 s.ea, .int .i64 s.pb, .int .i64 s.eb, .bool s.rev, .int .i64 s.ease]
theorem smcells_length (l : List Sm) : (smcells l).length = l.length * 6 := by
  induction l with
  | nil => rfl
  | cons s l ih => simp [smcells] at ih ⊢; omega
theorem smcells_get {l : List Sm} {k j : Nat} (hk : k < l.length) (hj : j < 6) : (smcells l)[k * 6 + j]? = [Value.int .i64 (gSm l k).pa, .int .i64 (gSm l k).ea, .int .i64 (gSm l k).pb, .int .i64 (gSm l k).eb, .bool (gSm l k).rev, .int .i64 (gSm l k).ease][j]? := by
  induction l generalizing k with
  | nil => simp at hk
  | cons s l ih =>
    cases k with
    | zero =>
      rw [Nat.zero_mul, Nat.zero_add]
      show ([Value.int .i64 s.pa, .int .i64 s.ea, .int .i64 s.pb, .int .i64 s.eb, .bool s.rev, .int .i64 s.ease] ++ smcells l)[j]? = _
      rw [List.getElem?_append_left (by simpa using hj)]
      rfl
    | succ k =>
      rw [show (k + 1) * 6 + j = (k * 6 + j) + 6 from by omega]
      show ([Value.int .i64 s.pa, .int .i64 s.ea, .int .i64 s.pb, .int .i64 s.eb, .bool s.rev, .int .i64 s.ease] ++ smcells l)[(k * 6 + j) + 6]? = _
      rw [List.getElem?_append_right (by simp), show k * 6 + j + 6 - [Value.int .i64 s.pa, .int .i64 s.ea, .int .i64 s.pb, .int .i64 s.eb, .bool s.rev, .int .i64 s.ease].length = k * 6 + j from by simp]
      rw [ih (by simpa using hk)]
      rfl
theorem smcells_one (l : List Sm) : ∀ u ∈ smcells l, u.oneCell' = true := by
  intro u hu
  unfold smcells at hu
  rw [List.mem_flatMap] at hu
  obtain ⟨s, _, hs⟩ := hu
  simp at hs
  rcases hs with rfl | rfl | rfl | rfl | rfl | rfl <;> rfl
/- the cells of a slice of seams -/
theorem SeamsAt.cells {w : World} {b off : Nat} {l : List Sm} (h : SeamsAt w (some ⟨b, off, none⟩) l) : ∀ j u, (smcells l)[j]? = some u → w.cell? ((⟨b, off, none⟩ : Addr).add j) = some u := by
  intro j u hu
  rw [addr_add]
  have hj : j < l.length * 6 := by have := (List.getElem?_eq_some_iff.1 hu).1; rwa [smcells_length] at this
  have hk : j / 6 < l.length := by omega
  obtain ⟨b', off', e, hc⟩ := h (j / 6) hk
  injection e with e; injection e with e1 e2
  subst e1; subst e2
  obtain ⟨r, hr⟩ : ∃ r, r = j % 6 := ⟨_, rfl⟩
  have hr6 : r < 6 := by omega
  have ej : j = j / 6 * 6 + r := by omega
  have hg := smcells_get (l := l) hk hr6
  rw [← ej, hu] at hg
  have hoff : off + j = off + j / 6 * 6 + r := by omega
  rw [hoff]
  match r, hr6 with
  | 0, _ => rw [Option.some.inj hg]; exact hc.c0
  | 1, _ => rw [Option.some.inj hg]; exact hc.c1
  | 2, _ => rw [Option.some.inj hg]; exact hc.c2
  | 3, _ => rw [Option.some.inj hg]; exact hc.c3
  | 4, _ => rw [Option.some.inj hg]; exact hc.c4
  | 5, _ => rw [Option.some.inj hg]; exact hc.c5
theorem seams_blk {w : World} {g : Nat} {l : List Sm} {R : List Value} (h : Blk 51 w g (smcells l ++ R)) : SeamsAt w (some ⟨g, 0, none⟩) l := by
  intro k hk
  refine ⟨g, 0, rfl, ?_⟩
  have key : ∀ j, j < 6 → w.cell? ⟨g, 0 + k * 6 + j, none⟩ = [Value.int .i64 (gSm l k).pa, .int .i64 (gSm l k).ea, .int .i64 (gSm l k).pb, .int .i64 (gSm l k).eb, .bool (gSm l k).rev, .int .i64 (gSm l k).ease][j]? := fun j hj => by
    rw [Nat.zero_add, h.cell, List.getElem?_append_left (by rw [smcells_length]; omega), smcells_get hk hj]
  exact ⟨key 0 (by omega), key 1 (by omega), key 2 (by omega), key 3 (by omega), key 4 (by omega), key 5 (by omega)⟩
/- one seam of such a row stored -/
theorem SeamsAt.at0 {w : World} {g k : Nat} {l : List Sm} (h : SeamsAt w (some ⟨g, 0, none⟩) l) (hk : k < l.length) : SmCells w g (k * 6) (gSm l k) := by
  obtain ⟨b', off', e, hc⟩ := h k hk
  simp only [Option.some.injEq, Addr.mk.injEq, and_true] at e
  obtain ⟨rfl, rfl⟩ := e
  rw [Nat.zero_add] at hc
  exact hc
theorem SmCells.store {w : World} {g o : Nat} {s : Sm} (s' : Sm) (h : SmCells w g o s) :
    SmCells ((((((w.setCell ⟨g, o, none⟩ (.int .i64 s'.pa)).setCell ⟨g, o + 1, none⟩ (.int .i64 s'.ea)).setCell ⟨g, o + 2, none⟩ (.int .i64 s'.pb)).setCell ⟨g, o + 3, none⟩ (.int .i64 s'.eb)).setCell ⟨g, o + 4, none⟩ (.bool s'.rev)).setCell ⟨g, o + 5, none⟩ (.int .i64 s'.ease)) g o s' := by
  obtain ⟨d0, d1, d2, d3, d4, d5⟩ := h
  have n : ∀ a b, a ≠ b → o + a ≠ o + b := fun a b h e => h (by omega)
  refine ⟨?_, ?_, ?_, ?_, ?_, ?_⟩
  · exact (cell_set_off _ _ _ _ _ (n 5 0 (by omega))).trans ((cell_set_off _ _ _ _ _ (n 4 0 (by omega))).trans ((cell_set_off _ _ _ _ _ (n 3 0 (by omega))).trans ((cell_set_off _ _ _ _ _ (n 2 0 (by omega))).trans ((cell_set_off _ _ _ _ _ (n 1 0 (by omega))).trans (World.cell?_setCell_same _ _ _ d0)))))
  · rw [cell_set_off _ _ _ _ _ (n 5 1 (by omega)), cell_set_off _ _ _ _ _ (n 4 1 (by omega)), cell_set_off _ _ _ _ _ (n 3 1 (by omega)), cell_set_off _ _ _ _ _ (n 2 1 (by omega))]
    exact World.cell?_setCell_same _ _ _ ((cell_set_off _ _ _ _ _ (n 0 1 (by omega))).trans d1)
  · rw [cell_set_off _ _ _ _ _ (n 5 2 (by omega)), cell_set_off _ _ _ _ _ (n 4 2 (by omega)), cell_set_off _ _ _ _ _ (n 3 2 (by omega))]
    exact World.cell?_setCell_same _ _ _ ((cell_set_off _ _ _ _ _ (n 1 2 (by omega))).trans ((cell_set_off _ _ _ _ _ (n 0 2 (by omega))).trans d2))
  · rw [cell_set_off _ _ _ _ _ (n 5 3 (by omega)), cell_set_off _ _ _ _ _ (n 4 3 (by omega))]
    exact World.cell?_setCell_same _ _ _ ((cell_set_off _ _ _ _ _ (n 2 3 (by omega))).trans ((cell_set_off _ _ _ _ _ (n 1 3 (by omega))).trans ((cell_set_off _ _ _ _ _ (n 0 3 (by omega))).trans d3)))
  · rw [cell_set_off _ _ _ _ _ (n 5 4 (by omega))]
    exact World.cell?_setCell_same _ _ _ ((cell_set_off _ _ _ _ _ (n 3 4 (by omega))).trans ((cell_set_off _ _ _ _ _ (n 2 4 (by omega))).trans ((cell_set_off _ _ _ _ _ (n 1 4 (by omega))).trans ((cell_set_off _ _ _ _ _ (n 0 4 (by omega))).trans d4))))
  · exact World.cell?_setCell_same _ _ _ ((cell_set_off _ _ _ _ _ (n 4 5 (by omega))).trans ((cell_set_off _ _ _ _ _ (n 3 5 (by omega))).trans ((cell_set_off _ _ _ _ _ (n 2 5 (by omega))).trans ((cell_set_off _ _ _ _ _ (n 1 5 (by omega))).trans ((cell_set_off _ _ _ _ _ (n 0 5 (by omega))).trans d5)))))
theorem cell_six {w : World} {g o i : Nat} (v0 v1 v2 v3 v4 v5 : Value) (h : ∀ j, j < 6 → o + j ≠ i) :
    ((((((w.setCell ⟨g, o, none⟩ v0).setCell ⟨g, o + 1, none⟩ v1).setCell ⟨g, o + 2, none⟩ v2).setCell ⟨g, o + 3, none⟩ v3).setCell ⟨g, o + 4, none⟩ v4).setCell ⟨g, o + 5, none⟩ v5).cell? ⟨g, i, none⟩ = w.cell? ⟨g, i, none⟩ := by
  rw [cell_set_off _ _ _ _ _ (h 5 (by omega)), cell_set_off _ _ _ _ _ (h 4 (by omega)), cell_set_off _ _ _ _ _ (h 3 (by omega)), cell_set_off _ _ _ _ _ (h 2 (by omega)), cell_set_off _ _ _ _ _ (h 1 (by omega))]
  exact cell_set_off _ _ _ _ _ (h 0 (by omega))
theorem seams_set {w : World} {g k : Nat} {l : List Sm} (s' : Sm) (h : SeamsAt w (some ⟨g, 0, none⟩) l) (hk : k < l.length) :
    SeamsAt ((((((w.setCell ⟨g, k * 6, none⟩ (.int .i64 s'.pa)).setCell ⟨g, k * 6 + 1, none⟩ (.int .i64 s'.ea)).setCell ⟨g, k * 6 + 2, none⟩ (.int .i64 s'.pb)).setCell ⟨g, k * 6 + 3, none⟩ (.int .i64 s'.eb)).setCell ⟨g, k * 6 + 4, none⟩ (.bool s'.rev)).setCell ⟨g, k * 6 + 5, none⟩ (.int .i64 s'.ease)) (some ⟨g, 0, none⟩) (l.set k s') := by
  intro i hi
  rw [List.length_set] at hi
  refine ⟨g, 0, rfl, ?_⟩
  rw [Nat.zero_add]
  by_cases hik : i = k
  · subst hik
    have e : gSm (l.set i s') i = s' := by unfold gSm; simp [hi]
    rw [e]
    exact (h.at0 hi).store s'
  · have hc := h.at0 hi
    have e : gSm (l.set k s') i = gSm l i := by unfold gSm; simp [show ¬ k = i from fun e => hik e.symm]
    rw [e]
    have ne : ∀ b, b < 6 → ∀ j, j < 6 → k * 6 + j ≠ i * 6 + b := fun b hb j hj h => by omega
    obtain ⟨f0, f1, f2, f3, f4, f5⟩ := hc
    exact ⟨(cell_six _ _ _ _ _ _ (ne 0 (by omega))).trans f0, (cell_six _ _ _ _ _ _ (ne 1 (by omega))).trans f1, (cell_six _ _ _ _ _ _ (ne 2 (by omega))).trans f2, (cell_six _ _ _ _ _ _ (ne 3 (by omega))).trans f3, (cell_six _ _ _ _ _ _ (ne 4 (by omega))).trans f4, (cell_six _ _ _ _ _ _ (ne 5 (by omega))).trans f5⟩
theorem seam_info : (Try.prog.info? 51).map (fun i => (i.zero, i.size, i.bytes)) = some (some (.agg #[.int .i64 0, .int .i64 0, .int .i64 0, .int .i64 0, .bool false, .int .i64 0]), 6, 48) := by kernel_rfl
end Go.Proofs.Ytilkgocpkhionaa
