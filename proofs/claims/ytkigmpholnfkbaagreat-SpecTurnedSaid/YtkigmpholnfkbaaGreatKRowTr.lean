/- The law SpecTurned: for every input it returns true and leaves its arguments as they were. No conditions. -/
import Derived.OpenShut
import Derived.Test.YtkigmpholnfkbaaGreatRows
import Derived.Test.YtkigmpholnfkbaaGreatKOpenS
import Derived.Test.YtkigmpholnfkbaaGreatKLawTr
/- the arguments opened: a style as a whole -/
namespace Go.Proofs.YtkigmpholnfkbaaGreat
open Go.ChangeShapes Go.WideShapes Go.ChangeAt Go.RowKit Go.Deep Go.Joins
section
variable {H : Type} {enc : TypeId × Value → H} {w : World} {base : Nat} {spare : Nat → Bool} {held : Bool}
set_option maxRecDepth 100000 in
theorem strings_open {n : Nat} {cs : List Value} {x : DataW H × List MemPlace} (h : DataW.trod enc Tryz.prog w base spare held n 22 cs = some x) : ∃ A len c l, cs = [.slice A len c] ∧ StrsAt w A l ∧ l.length = len ∧ len ≤ c ∧ c ≤ 9223372036854775807 := by
  rcases open_slice1 Tryz.underlying22 (by kernel_rfl) h with ⟨rfl, _⟩ | ⟨a, len, cap, m, k, V, D, Pl, rfl, hb, hl, hm, hmm, _, hx⟩
  · exact ⟨none, 0, 0, [], rfl, fun _ hk => absurd hk (Nat.not_lt_zero _), rfl, Nat.le_refl _, by omega⟩
  · have hlm : len ≤ m := by rw [hmm]; split <;> omega
    have key : ∀ i, i < len → ∃ s : ByteArray, w.cell? (a.add i) = some (.string s) := fun i hi => by
      obtain ⟨hc, ht'⟩ := hx i (by omega)
      obtain ⟨s, es, _, _⟩ := DataW.trod_string Tryz.underlying9 ht'
      simp at es
      exact ⟨s, by rw [hc, es]⟩
    obtain ⟨f, hf⟩ := choose_lt key
    refine ⟨some a, len, cap, (List.range len).map f, rfl, fun k' hk => ?_, by simp, hl, by unfold maxLen at hm; omega⟩
    simp at hk
    have c0 := hf k' hk
    obtain ⟨b, off, rfl⟩ := plain_of_cell (hf 0 (by omega))
    rw [addr_add] at c0
    exact ⟨b, off, rfl, by rw [c0, gB_eq (by simpa using hk)]; simp⟩
set_option maxRecDepth 100000 in
theorem use_trod {n : Nat} {cs : List Value} {x : DataW H × List MemPlace} (h : DataW.trod enc Tryz.prog w base spare held n 78 cs = some x) : ∃ s : UsX, cs = [.int .i64 s.pc, .int .i64 s.ct, .bool s.pr] := by
  obtain ⟨xs, m, _, _, hlen, hl, hg⟩ := DataW.trod_struct Tryz.underlying78 h
  rw [show Tryz.prog.cellsOf 78 = 3 from by kernel_rfl] at hlen
  match cs, hlen with
  | [c0, c1, c2], _ =>
    have g0 : DataW.trod enc Tryz.prog w base spare held m 3 (([c0, c1, c2].drop 0).take (Tryz.prog.cellsOf 3)) = xs[0]? := hg 0 _ rfl
    have g1 : DataW.trod enc Tryz.prog w base spare held m 3 (([c0, c1, c2].drop 1).take (Tryz.prog.cellsOf 3)) = xs[1]? := hg 1 _ rfl
    have g2 : DataW.trod enc Tryz.prog w base spare held m 4 (([c0, c1, c2].drop 2).take (Tryz.prog.cellsOf 4)) = xs[2]? := hg 2 _ rfl
    rw [show Tryz.prog.cellsOf 3 = 1 from by kernel_rfl] at g0 g1
    rw [show Tryz.prog.cellsOf 4 = 1 from by kernel_rfl] at g2
    match xs, hl with
    | [y0, y1, y2], _ =>
      simp at g0 g1 g2
      obtain ⟨pc, e0, _, _⟩ := DataW.trod_int Tryz.underlying3 g0
      obtain ⟨ct, e1, _, _⟩ := DataW.trod_int Tryz.underlying3 g1
      obtain ⟨pr, e2, _⟩ := DataW.trod_bool Tryz.underlying4 g2
      simp at e0 e1 e2
      subst e0 e1 e2
      exact ⟨⟨pc, ct, pr⟩, rfl⟩
set_option maxRecDepth 100000 in
theorem uses_open {n : Nat} {cs : List Value} {x : DataW H × List MemPlace} (h : DataW.trod enc Tryz.prog w base spare held n 25 cs = some x) : ∃ A len c l, cs = [.slice A len c] ∧ UsesAt w A l ∧ l.length = len ∧ len ≤ c ∧ c ≤ 9223372036854775807 := by
  rcases open_slice Tryz.underlying25 h with ⟨rfl, _⟩ | ⟨a, len, cap, m, k, D, Pl, rfl, hb, hl, hm, hmm, _, hx⟩
  · exact ⟨none, 0, 0, [], rfl, fun _ hk => absurd hk (Nat.not_lt_zero _), rfl, Nat.le_refl _, by omega⟩
  · rw [show Tryz.prog.cellsOf 78 = 3 from by kernel_rfl] at hx
    have hlm : len ≤ m := by rw [hmm]; split <;> omega
    have key : ∀ i, i < len → ∃ s : UsX, (∀ j u, [Value.int .i64 s.pc, .int .i64 s.ct, .bool s.pr][j]? = some u → w.cell? (a.add (i * 3 + j)) = some u) := fun i hi => by
      obtain ⟨cs', hc, ht'⟩ := hx i (by omega)
      obtain ⟨s, rfl⟩ := use_trod ht'
      obtain ⟨_, hlen, hat⟩ := World.cells?_some hc
      refine ⟨s, fun j u hu => ?_⟩
      have hj : j < 3 := by have := (List.getElem?_eq_some_iff.1 hu).1; simpa using this
      have := hat j hj
      rw [add_add] at this
      rw [this, hu]
    obtain ⟨f, hf⟩ := choose_lt key
    refine ⟨some a, len, cap, (List.range len).map f, rfl, fun k' hk => ?_, by simp, hl, by unfold maxLen at hm; omega⟩
    simp at hk
    have hc := hf k' hk
    obtain ⟨b, off, rfl⟩ := plain_of_cell (by simpa using hf 0 (by omega) 0 _ rfl)
    refine ⟨b, off, rfl, ?_⟩
    have hc' : ∀ j u, [Value.int .i64 (f k').pc, .int .i64 (f k').ct, .bool (f k').pr][j]? = some u → w.cell? ⟨b, off + k' * 3 + j, none⟩ = some u := fun j u hu => by
      have := hc j u hu
      rwa [addr_add, ← Nat.add_assoc] at this
    rw [show gU ((List.range len).map f) k' = f k' by unfold gU; simp [hk]]
    exact ⟨hc' 0 _ rfl, hc' 1 _ rfl, hc' 2 _ rfl⟩
set_option maxRecDepth 100000 in
theorem piecesX_open {n : Nat} {cs : List Value} {x : DataW H × List MemPlace} (h : DataW.trod enc Tryz.prog w base spare held n 24 cs = some x) : ∃ A len c l, cs = [.slice A len c] ∧ PiecesX w A l ∧ l.length = len ∧ len ≤ c ∧ c ≤ 9223372036854775807 ∧ ∀ k, k < l.length → WfP (gPx l k).p := by
  rcases open_slice Tryz.underlying24 h with ⟨rfl, _⟩ | ⟨a, len, cap, m, k, D, Pl, rfl, hb, hl, hm, hmm, _, hx⟩
  · exact ⟨none, 0, 0, [], rfl, fun _ hk => absurd hk (Nat.not_lt_zero _), rfl, Nat.le_refl _, by omega, fun _ hk => absurd hk (Nat.not_lt_zero _)⟩
  · rw [show Tryz.prog.cellsOf 52 = 7 from by kernel_rfl] at hx
    have hlm : len ≤ m := by rw [hmm]; split <;> omega
    have key : ∀ i, i < len → ∃ X : PcX, ∃ q : PcA, (∀ j u, (PcA.cells q)[j]? = some u → w.cell? (a.add (i * 7 + j)) = some u) ∧ PcAt w q X.p ∧ WfP X.p ∧ q.nm = X.nm ∧ q.gr = X.gr := fun i hi => by
      obtain ⟨cs', hc, ht'⟩ := hx i (by omega)
      obtain ⟨q, p, rfl, hs, hw⟩ := piece_trodW ht'
      obtain ⟨_, hlen, hat⟩ := World.cells?_some hc
      refine ⟨⟨q.nm, q.gr, p⟩, q, fun j u hu => ?_, hs, hw, rfl, rfl⟩
      have hj : j < 7 := by have := (List.getElem?_eq_some_iff.1 hu).1; simpa using this
      have := hat j hj
      rw [add_add] at this
      rw [this, hu]
    obtain ⟨f, hf⟩ := choose_lt key
    refine ⟨some a, len, cap, (List.range len).map f, rfl, fun k' hk => ?_, by simp, hl, by unfold maxLen at hm; omega, fun k' hk => by
      simp at hk
      obtain ⟨_, _, _, hw, _⟩ := hf k' hk
      rw [gPx_eq (by simpa using hk)]; simpa using hw⟩
    simp at hk
    obtain ⟨q, hc, hs, _, h1, h2⟩ := hf k' hk
    obtain ⟨q0, z0, _⟩ := hf 0 (by omega)
    obtain ⟨b, off, rfl⟩ := plain_of_cell (by simpa using z0 0 _ rfl)
    have e : gPx ((List.range len).map f) k' = f k' := by rw [gPx_eq (by simpa using hk)]; simp
    refine ⟨b, off, q, rfl, by rw [e]; exact hs, ?_, by rw [e]; exact h1, by rw [e]; exact h2⟩
    have hc' : ∀ j u, (PcA.cells q)[j]? = some u → w.cell? ⟨b, off + k' * 7 + j, none⟩ = some u := fun j u hu => by
      have := hc j u hu
      rwa [addr_add, ← Nat.add_assoc] at this
    exact ⟨hc' 0 _ rfl, hc' 1 _ rfl, hc' 2 _ rfl, hc' 3 _ rfl, hc' 4 _ rfl, hc' 5 _ rfl, hc' 6 _ rfl⟩
theorem slice_trod_bd {t e : TypeId} {n : Nat} {cs : List Value} {x : DataW H × List MemPlace} (ht : Tryz.prog.underlying t = some (.slice e)) (h : DataW.trod enc Tryz.prog w base spare held n t cs = some x) : ∃ A len c, cs = [.slice A len c] ∧ len ≤ 9223372036854775807 := by
  rcases open_slice ht h with ⟨rfl, _⟩ | ⟨a, len, cap, m, k, D, Pl, rfl, _, hl, hm, _⟩
  · exact ⟨none, 0, 0, rfl, by omega⟩
  · exact ⟨some a, len, cap, rfl, by unfold maxLen at hm; omega⟩
set_option maxRecDepth 100000 in
theorem style_openX {r : Reach} {b0 : Nat} {v : Value} {d : DataW H} {p : List MemPlace} (hv : Value.okWide Tryz.prog w r b0 29 v) (h : DataW.Trod enc Tryz.prog w base spare held 29 v d p) :
    ∃ a x, v = StyA.val a ∧ StyXAt w a x ∧ ∀ k, k < x.ps.length → WfP (gPx x.ps k).p := by
  obtain ⟨cs, rfl, hsz⟩ := okWide_struct Tryz.underlying29 hv
  obtain ⟨l⟩ := cs
  have hC : Tryz.prog.cellsOf 29 = 7 := by kernel_rfl
  match l, hsz.trans hC with
  | [c0, c1, c2, c3, c4, c5, c6], _ =>
    obtain ⟨fuel, hf⟩ := h
    obtain ⟨xs, n, _, hx, _, hlen, hg⟩ := DataW.trod_struct Tryz.underlying29 hf
    have g0 : DataW.trod enc Tryz.prog w base spare held n 9 (([c0, c1, c2, c3, c4, c5, c6].drop 0).take (Tryz.prog.cellsOf 9)) = xs[0]? := hg 0 _ rfl
    have g1 : DataW.trod enc Tryz.prog w base spare held n 22 (([c0, c1, c2, c3, c4, c5, c6].drop 1).take (Tryz.prog.cellsOf 22)) = xs[1]? := hg 1 _ rfl
    have g2 : DataW.trod enc Tryz.prog w base spare held n 23 (([c0, c1, c2, c3, c4, c5, c6].drop 2).take (Tryz.prog.cellsOf 23)) = xs[2]? := hg 2 _ rfl
    have g3 : DataW.trod enc Tryz.prog w base spare held n 24 (([c0, c1, c2, c3, c4, c5, c6].drop 3).take (Tryz.prog.cellsOf 24)) = xs[3]? := hg 3 _ rfl
    have g4 : DataW.trod enc Tryz.prog w base spare held n 25 (([c0, c1, c2, c3, c4, c5, c6].drop 4).take (Tryz.prog.cellsOf 25)) = xs[4]? := hg 4 _ rfl
    have g5 : DataW.trod enc Tryz.prog w base spare held n 26 (([c0, c1, c2, c3, c4, c5, c6].drop 5).take (Tryz.prog.cellsOf 26)) = xs[5]? := hg 5 _ rfl
    have g6 : DataW.trod enc Tryz.prog w base spare held n 27 (([c0, c1, c2, c3, c4, c5, c6].drop 6).take (Tryz.prog.cellsOf 27)) = xs[6]? := hg 6 _ rfl
    rw [show Tryz.prog.cellsOf 9 = 1 from by kernel_rfl] at g0
    rw [show Tryz.prog.cellsOf 22 = 1 from by kernel_rfl] at g1
    rw [show Tryz.prog.cellsOf 23 = 1 from by kernel_rfl] at g2
    rw [show Tryz.prog.cellsOf 24 = 1 from by kernel_rfl] at g3
    rw [show Tryz.prog.cellsOf 25 = 1 from by kernel_rfl] at g4
    rw [show Tryz.prog.cellsOf 26 = 1 from by kernel_rfl] at g5
    rw [show Tryz.prog.cellsOf 27 = 1 from by kernel_rfl] at g6
    match xs, hlen with
    | [y0, y1, y2, y3, y4, y5, y6], _ =>
      simp at g0 g1 g2 g3 g4 g5 g6
      obtain ⟨nm, e0, _, _⟩ := DataW.trod_string Tryz.underlying9 g0
      obtain ⟨AS, nS, cS, sz, e1, hS, lS, hs1, hs2⟩ := strings_open g1
      obtain ⟨AM, nM, cM, ms, e2, hM, lM, hm1, hm2⟩ := ints_open' g2
      obtain ⟨AP, nP, cP, ps, e3, hP, lP, hp1, hp2, hwP⟩ := piecesX_open g3
      obtain ⟨AU, nU, cU, us, e4, hU, lU, hu1, hu2⟩ := uses_open g4
      obtain ⟨AK, nK, cK, ss, e5, hK, lK, hk1, hk2⟩ := seams_open g5
      obtain ⟨AO, nO, cO, e6, ho⟩ := slice_trod_bd Tryz.underlying27 g6
      simp at e0 e1 e2 e3 e4 e5 e6
      subst e0 e1 e2 e3 e4 e5 e6
      exact ⟨⟨nm, AS, nS, cS, AM, nM, cM, AP, nP, cP, AU, nU, cU, AK, nK, cK, AO, nO, cO⟩, ⟨nm, sz, ms, ps, us, ss, nO⟩, rfl, ⟨rfl, hS, hM, hP, hU, hK, lS, lM, lP, lU, lK, rfl, by simp only; omega, by simp only; omega, by simp only; omega, by simp only; omega, by simp only; omega, ho, hp1, hs1⟩, hwP⟩
end
end Go.Proofs.YtkigmpholnfkbaaGreat
/- the arguments opened: points of measure -/
namespace Go.Proofs.YtkigmpholnfkbaaGreat
open Go.ChangeShapes Go.WideShapes Go.ChangeAt Go.RowKit Go.Deep Go.Joins
section
variable {H : Type} {enc : TypeId × Value → H} {w : World} {base : Nat} {spare : Nat → Bool} {held : Bool}
set_option maxRecDepth 100000 in
theorem pom_trod {n : Nat} {cs : List Value} {x : DataW H × List MemPlace} (h : DataW.trod enc Tryz.prog w base spare held n 36 cs = some x) : ∃ (a : PomA) (p : PomX), cs = PomA.cells a ∧ PomAt w a p := by
  obtain ⟨xs, m, _, _, hlen, hl, hg⟩ := DataW.trod_struct Tryz.underlying36 h
  rw [show Tryz.prog.cellsOf 36 = 5 from by kernel_rfl] at hlen
  match cs, hlen with
  | [c0, c1, c2, c3, c4], _ =>
    have g0 : DataW.trod enc Tryz.prog w base spare held m 9 (([c0, c1, c2, c3, c4].drop 0).take (Tryz.prog.cellsOf 9)) = xs[0]? := hg 0 _ rfl
    have g1 : DataW.trod enc Tryz.prog w base spare held m 23 (([c0, c1, c2, c3, c4].drop 1).take (Tryz.prog.cellsOf 23)) = xs[1]? := hg 1 _ rfl
    have g2 : DataW.trod enc Tryz.prog w base spare held m 23 (([c0, c1, c2, c3, c4].drop 2).take (Tryz.prog.cellsOf 23)) = xs[2]? := hg 2 _ rfl
    have g3 : DataW.trod enc Tryz.prog w base spare held m 3 (([c0, c1, c2, c3, c4].drop 3).take (Tryz.prog.cellsOf 3)) = xs[3]? := hg 3 _ rfl
    have g4 : DataW.trod enc Tryz.prog w base spare held m 3 (([c0, c1, c2, c3, c4].drop 4).take (Tryz.prog.cellsOf 3)) = xs[4]? := hg 4 _ rfl
    rw [show Tryz.prog.cellsOf 9 = 1 from by kernel_rfl] at g0
    rw [show Tryz.prog.cellsOf 23 = 1 from by kernel_rfl] at g1 g2
    rw [show Tryz.prog.cellsOf 3 = 1 from by kernel_rfl] at g3 g4
    match xs, hl with
    | [y0, y1, y2, y3, y4], _ =>
      simp at g0 g1 g2 g3 g4
      obtain ⟨nm, e0, _, _⟩ := DataW.trod_string Tryz.underlying9 g0
      obtain ⟨AP, nP, cP, ps, e1, hP, lP, hp1, hp2⟩ := ints_open' g1
      obtain ⟨AE, nE, cE, es, e2, hE, lE, he1, he2⟩ := ints_open' g2
      obtain ⟨pl, e3, _, _⟩ := DataW.trod_int Tryz.underlying3 g3
      obtain ⟨mi, e4, _, _⟩ := DataW.trod_int Tryz.underlying3 g4
      simp at e0 e1 e2 e3 e4
      subst e0 e1 e2 e3 e4
      exact ⟨⟨nm, AP, nP, cP, AE, nE, cE, pl, mi⟩, ⟨nm, ps, es, pl, mi⟩, rfl, ⟨rfl, hP, lP, hE, lE, rfl, rfl, by simp only; omega, by simp only; omega⟩⟩
set_option maxRecDepth 100000 in
theorem poms_open {n : Nat} {cs : List Value} {x : DataW H × List MemPlace} (h : DataW.trod enc Tryz.prog w base spare held n 30 cs = some x) : ∃ A len c l, cs = [.slice A len c] ∧ PomsAt w A l ∧ l.length = len ∧ len ≤ c ∧ c ≤ 9223372036854775807 := by
  rcases open_slice Tryz.underlying30 h with ⟨rfl, _⟩ | ⟨a, len, cap, m, k, D, Pl, rfl, hb, hl, hm, hmm, _, hx⟩
  · exact ⟨none, 0, 0, [], rfl, fun _ hk => absurd hk (Nat.not_lt_zero _), rfl, Nat.le_refl _, by omega⟩
  · rw [show Tryz.prog.cellsOf 36 = 5 from by kernel_rfl] at hx
    have hlm : len ≤ m := by rw [hmm]; split <;> omega
    have key : ∀ i, i < len → ∃ X : PomX, ∃ q : PomA, (∀ j u, (PomA.cells q)[j]? = some u → w.cell? (a.add (i * 5 + j)) = some u) ∧ PomAt w q X := fun i hi => by
      obtain ⟨cs', hc, ht'⟩ := hx i (by omega)
      obtain ⟨q, p, rfl, hs⟩ := pom_trod ht'
      obtain ⟨_, hlen, hat⟩ := World.cells?_some hc
      refine ⟨p, q, fun j u hu => ?_, hs⟩
      have hj : j < 5 := by have := (List.getElem?_eq_some_iff.1 hu).1; simpa using this
      have := hat j hj
      rw [add_add] at this
      rw [this, hu]
    obtain ⟨f, hf⟩ := choose_lt key
    refine ⟨some a, len, cap, (List.range len).map f, rfl, fun k' hk => ?_, by simp, hl, by unfold maxLen at hm; omega⟩
    simp at hk
    obtain ⟨q, hc, hs⟩ := hf k' hk
    obtain ⟨q0, z0, _⟩ := hf 0 (by omega)
    obtain ⟨b, off, rfl⟩ := plain_of_cell (by simpa using z0 0 _ rfl)
    have e : gPm ((List.range len).map f) k' = f k' := by rw [gPm_eq (by simpa using hk)]; simp
    refine ⟨b, off, q, rfl, by rw [e]; exact hs, ?_⟩
    have hc' : ∀ j u, (PomA.cells q)[j]? = some u → w.cell? ⟨b, off + k' * 5 + j, none⟩ = some u := fun j u hu => by
      have := hc j u hu
      rwa [addr_add, ← Nat.add_assoc] at this
    exact ⟨hc' 0 _ rfl, hc' 1 _ rfl, hc' 2 _ rfl, hc' 3 _ rfl, hc' 4 _ rfl⟩
set_option maxRecDepth 100000 in
theorem pom_arg {r : Reach} {b0 : Nat} {v : Value} {d : DataW H} {p : List MemPlace} (hv : Value.okWide Tryz.prog w r b0 36 v) (h : DataW.Trod enc Tryz.prog w base spare held 36 v d p) : ∃ a q, v = PomA.val a ∧ PomAt w a q := by
  obtain ⟨cs, rfl, hsz⟩ := okWide_struct Tryz.underlying36 hv
  obtain ⟨l⟩ := cs
  obtain ⟨fuel, hf⟩ := h
  obtain ⟨a, q, e, h1⟩ := pom_trod hf
  have e' : l = PomA.cells a := e
  subst e'
  exact ⟨a, q, rfl, h1⟩
set_option maxRecDepth 100000 in
theorem poms_arg {r : Reach} {b0 : Nat} {v : Value} {d : DataW H} {p : List MemPlace} (hv : Value.okWide Tryz.prog w r b0 30 v) (h : DataW.Trod enc Tryz.prog w base spare held 30 v d p) : ∃ A n c l, v = .slice A n c ∧ PomsAt w A l ∧ l.length = n ∧ n ≤ c ∧ c ≤ 9223372036854775807 := by
  obtain ⟨a, len, cap, rfl⟩ := okWide_slice Tryz.underlying30 hv
  obtain ⟨fuel, hf⟩ := h
  obtain ⟨A, n, c, l, e, hi, hl, h1, h2⟩ := poms_open hf
  simp [Value.cells] at e
  obtain ⟨rfl, rfl, rfl⟩ := e
  exact ⟨_, _, _, l, rfl, hi, hl, h1, h2⟩
end
end Go.Proofs.YtkigmpholnfkbaaGreat
/- the arguments opened: rows of numbers with their bounds; numbers of 16 and 8 bits -/
namespace Go.Proofs.YtkigmpholnfkbaaGreat
open Go.ChangeShapes Go.WideShapes Go.ChangeAt Go.RowKit Go.Deep Go.Joins
section
variable {H : Type} {enc : TypeId × Value → H} {w : World} {base : Nat} {spare : Nat → Bool} {held : Bool}
set_option maxRecDepth 100000 in
theorem intsB_arg {r : Reach} {b0 : Nat} {v : Value} {d : DataW H} {p : List MemPlace} (hv : Value.okWide Tryz.prog w r b0 23 v) (h : DataW.Trod enc Tryz.prog w base spare held 23 v d p) : ∃ A n c l, v = .slice A n c ∧ IntsAt w A l ∧ l.length = n ∧ n ≤ 9223372036854775807 := by
  obtain ⟨a, len, cap, rfl⟩ := okWide_slice Tryz.underlying23 hv
  obtain ⟨fuel, hf⟩ := h
  obtain ⟨A, n, c, l, e, hi, hl, h1, h2⟩ := ints_open' hf
  simp [Value.cells] at e
  obtain ⟨rfl, rfl, rfl⟩ := e
  exact ⟨_, _, _, l, rfl, hi, hl, by omega⟩
set_option maxRecDepth 100000 in
theorem u16_open {r : Reach} {b0 : Nat} {v : Value} {d : DataW H} {p : List MemPlace} (hv : Value.okWide Tryz.prog w r b0 59 v) (h : DataW.Trod enc Tryz.prog w base spare held 59 v d p) : ∃ n : Nat, v = .int .u16 (n : Int) ∧ n < 65536 := by
  obtain ⟨a, rfl⟩ := okWide_int Tryz.underlying59 hv
  obtain ⟨fuel, hf⟩ := h
  obtain ⟨b, eb, _, wb⟩ := DataW.trod_int Tryz.underlying59 hf
  simp [Value.cells] at eb
  subst eb
  obtain ⟨h1, h2⟩ := bounds_u16 wb
  obtain ⟨n, rfl⟩ := Int.eq_ofNat_of_zero_le h1
  exact ⟨n, rfl, by omega⟩
set_option maxRecDepth 100000 in
theorem u8_open {r : Reach} {b0 : Nat} {v : Value} {d : DataW H} {p : List MemPlace} (hv : Value.okWide Tryz.prog w r b0 5 v) (h : DataW.Trod enc Tryz.prog w base spare held 5 v d p) : ∃ n : Nat, v = .int .u8 (n : Int) ∧ n < 256 := by
  obtain ⟨a, rfl⟩ := okWide_int Tryz.underlying5 hv
  obtain ⟨fuel, hf⟩ := h
  obtain ⟨b, eb, _, wb⟩ := DataW.trod_int Tryz.underlying5 hf
  simp [Value.cells] at eb
  subst eb
  obtain ⟨h1, h2⟩ := bounds_u8 wb
  obtain ⟨n, rfl⟩ := Int.eq_ofNat_of_zero_le h1
  exact ⟨n, rfl, by omega⟩
end
end Go.Proofs.YtkigmpholnfkbaaGreat
namespace Go.Proofs.YtkigmpholnfkbaaGreat
open Go.ChangeShapes Go.WideShapes Go.ChangeAt Go.RowKit Go.Deep Go.Joins
set_option maxRecDepth 100000 in
theorem specTurned_lifted (os : Os) (started : os.Started) (H : Type) (enc : TypeId × Value → H) :
    ReturnsInHanded {} Tryz.checked os 10 .any (Rows.specTurnedSpec.pre6 enc Tryz.prog Tryz.f10 Rows.specTurnedRow.domain false) (Rows.specTurnedSpec.post enc Tryz.prog Tryz.f10 false true false false) := by
  refine returnsInHanded_of_change (C := Tryz.checked) Tryz.own started (by kernel_rfl) Tryz.func10
    (ChangeSpec.witness6 (enc := enc) (C := Tryz.checked) false ⟨#[], #[.agg #[.string ⟨#[]⟩, .slice none 0 0, .slice none 0 0, .slice none 0 0, .slice none 0 0, .slice none 0 0, .slice none 0 0], .agg #[.string ⟨#[]⟩, .slice none 0 0, .slice none 0 0, .int .i64 0, .int .i64 0], .int .i64 0, .int .u8 0, .agg #[.int .i64 0, .int .i64 0]], []⟩ 8 (by kernel_rfl) (by kernel_rfl) (by kernel_rfl) (by kernel_rfl)) ?_
  intro W base args ds gs before hval0 hW hcnd _
  have hval : ∀ (j : Nat) t v, Tryz.f10.params[j]? = some t → args[j]? = some v → Value.okWide Tryz.prog W .any base t v := hval0
  have hW' := hW
  obtain ⟨p, q, hA0, hV, rfl, hfz, hnd⟩ := hW
  have hA : DataW.TrodAll enc Tryz.prog W 0 (fun _ => true) true Tryz.f10.params.toList args.toList ds p := hA0
  rw [Tryz.params10] at hA hval
  obtain ⟨v0, vs0, d0, ds0, p0, q0, hargs, rfl, rfl, h0, r0⟩ := trodAll_cons hA
  obtain ⟨v1, vs1, d1, ds1, p1, q1, rfl, rfl, rfl, h1, r1⟩ := trodAll_cons r0
  obtain ⟨v2, vs2, d2, ds2, p2, q2, rfl, rfl, rfl, h2, r2⟩ := trodAll_cons r1
  obtain ⟨v3, vs3, d3, ds3, p3, q3, rfl, rfl, rfl, h3, r3⟩ := trodAll_cons r2
  obtain ⟨v4, vs4, d4, ds4, p4, q4, rfl, rfl, rfl, h4, r4⟩ := trodAll_cons r3
  obtain ⟨rfl, rfl, rfl⟩ := trodAll_nil r4
  obtain rfl : args = #[v0, v1, v2, v3, v4] := by cases args; simp_all
  obtain ⟨rfl, rfl⟩ := trodVars_none hV
  have k0 := h0
  have lt0 : ∀ x ∈ p0, x.block < W.heap.size := by obtain ⟨m, hm⟩ := k0; exact DataW.trod_lt m _ _ _ hm
  obtain ⟨a0, s0, hv0, hS0, wS0⟩ := style_openX (hval 0 29 v0 rfl rfl) h0
  subst hv0
  have k1 := h1
  have lt1 : ∀ x ∈ p1, x.block < W.heap.size := by obtain ⟨m, hm⟩ := k1; exact DataW.trod_lt m _ _ _ hm
  obtain ⟨a1, s1, hv1, hS1⟩ := pom_arg (hval 1 36 v1 rfl rfl) h1
  subst hv1
  have k2 := h2
  have lt2 : ∀ x ∈ p2, x.block < W.heap.size := by obtain ⟨m, hm⟩ := k2; exact DataW.trod_lt m _ _ _ hm
  obtain ⟨a2, hv2, wf2⟩ := int_open (hval 2 3 v2 rfl rfl) h2
  subst hv2
  have k3 := h3
  have lt3 : ∀ x ∈ p3, x.block < W.heap.size := by obtain ⟨m, hm⟩ := k3; exact DataW.trod_lt m _ _ _ hm
  obtain ⟨a3, hv3, wf3⟩ := u8_open (hval 3 5 v3 rfl rfl) h3
  subst hv3
  have k4 := h4
  have lt4 : ∀ x ∈ p4, x.block < W.heap.size := by obtain ⟨m, hm⟩ := k4; exact DataW.trod_lt m _ _ _ hm
  obtain ⟨s4, hv4⟩ := spot_open (hval 4 62 v4 rfl rfl) h4
  subst hv4
  clear hA0 hval0
  refine (turnedX_any a0 s0 a1 s1 a2 a3 wf3 s4 W hS0 (fun k hk => ⟨(wS0 k hk).e, (wS0 k hk).c⟩) hS1).mono fun e W' ⟨he, bel⟩ => ?_
  subst he
  exact ⟨_, rfl, _, _, _, [], _, [], hW', trodAll_mk1 (shut_bool Tryz.underlying4 _), (trodAll_cons_mk (Below.trod Tryz.laidOut (by kernel_rfl) (of_decide_eq_true (by kernel_rfl)) k0 bel lt0) (trodAll_cons_mk (Below.trod Tryz.laidOut (by kernel_rfl) (of_decide_eq_true (by kernel_rfl)) k1 bel lt1) (trodAll_cons_mk (Below.trod Tryz.laidOut (by kernel_rfl) (of_decide_eq_true (by kernel_rfl)) k2 bel lt2) (trodAll_cons_mk (Below.trod Tryz.laidOut (by kernel_rfl) (of_decide_eq_true (by kernel_rfl)) k3 bel lt3) (trodAll_cons_mk (Below.trod Tryz.laidOut (by kernel_rfl) (of_decide_eq_true (by kernel_rfl)) k4 bel lt4) trodAll_mk0))))), rfl, Below.frame bel _, fun h => by cases h⟩
theorem specTurned_holds : Rows.SpecTurnedSaid :=
  OpenClaim.holds_of_wide 10 Tryz.f10 rfl rfl rfl rfl rfl rfl rfl ⟨rfl, rfl, rfl, rfl, rfl⟩ rfl rfl rfl rfl rfl (by kernel_rfl) Tryz.func10 (by kernel_rfl)
    (of_decide_eq_true (by kernel_rfl)) (by unfold Func.isWrapper; first | (rw [if_pos (by decide +kernel)]; kernel_rfl) | (rw [if_neg (by decide +kernel)]; exact ⟨rfl, rfl⟩))
    (fun os started H enc _ => specTurned_lifted os started H enc)
end Go.Proofs.YtkigmpholnfkbaaGreat

