/- the arguments opened: pieces, turns, spots, numbers -/
import Derived.ProofKit
import Derived.Deep.Slices
import Derived.Lib.SmallJoins
import Derived.Test.YtnfchkkokgmliaaKWd
namespace Go.Proofs.Ytnfchkkokgmliaa
open Go.ChangeShapes Go.WideShapes Go.ChangeAt Go.RowKit Go.Deep Go.Joins
theorem Try.own : ownKnob Try.prog.godebug = none := by kernel_rfl
theorem Try.laidOut : laidOutB Try.prog = true := by kernel_rfl
section
variable {H : Type} {enc : TypeId × Value → H} {w : World} {base : Nat} {spare : Nat → Bool} {held : Bool}
theorem plain_of_cell {a : Addr} {v : Value} (h : w.cell? (a.add 0) = some v) : ∃ b off, a = ⟨b, off, none⟩ := by
  obtain ⟨b, off, spot⟩ := a
  have hs : spot = none := by simpa [Addr.add] using World.cell?_spot h
  subst hs
  exact ⟨b, off, rfl⟩
set_option maxRecDepth 100000 in
theorem pair_trod {e : TypeId} {f0 f1 : Field} {n : Nat} {cs : List Value} {x : DataW H × List MemPlace} (he : Try.prog.underlying e = some (.struct #[f0, f1])) (h0 : f0.type = 3) (h1 : f1.type = 3) (o0 : f0.offset = 0) (o1 : f1.offset = 1) (hC : Try.prog.cellsOf e = 2) (hI : Try.prog.cellsOf 3 = 1)
    (h : DataW.trod enc Try.prog w base spare held n e cs = some x) : ∃ s : Spot, cs = [.int .i64 s.1, .int .i64 s.2] := by
  obtain ⟨xs, m, _, _, hlen, hl, hg⟩ := DataW.trod_struct he h
  rw [hC] at hlen
  match cs, hlen with
  | [c0, c1], _ =>
    have g0 := hg 0 f0 rfl
    have g1 := hg 1 f1 rfl
    rw [o0, h0, hI] at g0
    rw [o1, h1, hI] at g1
    match xs, hl with
    | [y0, y1], _ =>
      simp at g0 g1
      obtain ⟨a, ea, _, _⟩ := DataW.trod_int Try.underlying3 g0
      obtain ⟨b, eb, _, _⟩ := DataW.trod_int Try.underlying3 g1
      simp at ea eb
      exact ⟨(a, b), by rw [ea, eb]⟩
set_option maxRecDepth 100000 in
theorem pairs_open {t e : TypeId} {f0 f1 : Field} {n : Nat} {cs : List Value} {x : DataW H × List MemPlace} (ht : Try.prog.underlying t = some (.slice e)) (he : Try.prog.underlying e = some (.struct #[f0, f1])) (h0 : f0.type = 3) (h1 : f1.type = 3) (o0 : f0.offset = 0) (o1 : f1.offset = 1) (hC : Try.prog.cellsOf e = 2) (hI : Try.prog.cellsOf 3 = 1)
    (h : DataW.trod enc Try.prog w base spare held n t cs = some x) : ∃ A len c l, cs = [.slice A len c] ∧ SpotsAt w A l ∧ l.length = len ∧ len ≤ c ∧ c ≤ 9223372036854775807 := by
  rcases open_slice ht h with ⟨rfl, _⟩ | ⟨a, len, cap, m, k, D, Pl, rfl, hb, hl, hm, hmm, _, hx⟩
  · exact ⟨none, 0, 0, [], rfl, SpotsAt.nil, rfl, Nat.le_refl _, by omega⟩
  · rw [hC] at hx
    have hlm : len ≤ m := by rw [hmm]; split <;> omega
    have key : ∀ i, i < len → ∃ s : Spot, w.cell? (a.add (i * 2)) = some (.int .i64 s.1) ∧ w.cell? (a.add (i * 2 + 1)) = some (.int .i64 s.2) := fun i hi => by
      obtain ⟨cs', hc, ht'⟩ := hx i (by omega)
      obtain ⟨s, rfl⟩ := pair_trod he h0 h1 o0 o1 hC hI ht'
      obtain ⟨_, _, hat⟩ := World.cells?_some hc
      have a0 := hat 0 (by omega)
      have a1 := hat 1 (by omega)
      rw [add_add] at a0 a1
      exact ⟨s, by simpa using a0, by simpa using a1⟩
    obtain ⟨f, hf⟩ := choose_lt key
    refine ⟨some a, len, cap, (List.range len).map f, rfl, fun k' hk => ?_, by simp, hl, by unfold maxLen at hm; omega⟩
    simp at hk
    obtain ⟨c0, c1⟩ := hf k' hk
    obtain ⟨b, off, rfl⟩ := plain_of_cell (by simpa using (hf 0 (by omega)).1)
    rw [addr_add] at c0 c1
    refine ⟨b, off, rfl, ?_, ?_⟩
    · simpa using c0
    · rw [Nat.add_assoc]; simpa using c1
set_option maxRecDepth 100000 in
theorem spots_open {n : Nat} {cs : List Value} {x : DataW H × List MemPlace} (h : DataW.trod enc Try.prog w base spare held n 24 cs = some x) : ∃ A len c l, cs = [.slice A len c] ∧ SpotsAt w A l ∧ l.length = len ∧ len ≤ c ∧ c ≤ 9223372036854775807 :=
  pairs_open Try.underlying24 Try.underlying38 rfl rfl rfl rfl (by kernel_rfl) (by kernel_rfl) h
set_option maxRecDepth 100000 in
theorem notches_open {n : Nat} {cs : List Value} {x : DataW H × List MemPlace} (h : DataW.trod enc Try.prog w base spare held n 23 cs = some x) : ∃ A len c l, cs = [.slice A len c] ∧ SpotsAt w A l ∧ l.length = len ∧ len ≤ c ∧ c ≤ 9223372036854775807 :=
  pairs_open Try.underlying23 Try.underlying162 rfl rfl rfl rfl (by kernel_rfl) (by kernel_rfl) h
set_option maxRecDepth 100000 in
theorem ints_open' {n : Nat} {cs : List Value} {x : DataW H × List MemPlace} (h : DataW.trod enc Try.prog w base spare held n 25 cs = some x) : ∃ A len c l, cs = [.slice A len c] ∧ IntsAt w A l ∧ l.length = len ∧ len ≤ c ∧ c ≤ 9223372036854775807 := by
  rcases open_slice1 Try.underlying25 (by kernel_rfl) h with ⟨rfl, _⟩ | ⟨a, len, cap, m, k, V, D, Pl, rfl, hb, hl, hm, hmm, _, hx⟩
  · exact ⟨none, 0, 0, [], rfl, IntsAt.nil, rfl, Nat.le_refl _, by omega⟩
  · have hlm : len ≤ m := by rw [hmm]; split <;> omega
    have key : ∀ i, i < len → ∃ s : Int, w.cell? (a.add i) = some (.int .i64 s) := fun i hi => by
      obtain ⟨hc, ht'⟩ := hx i (by omega)
      obtain ⟨s, es, _, _⟩ := DataW.trod_int Try.underlying3 ht'
      simp at es
      exact ⟨s, by rw [hc, es]⟩
    obtain ⟨f, hf⟩ := choose_lt key
    refine ⟨some a, len, cap, (List.range len).map f, rfl, fun k' hk => ?_, by simp, hl, by unfold maxLen at hm; omega⟩
    simp at hk
    have c0 := hf k' hk
    obtain ⟨b, off, rfl⟩ := plain_of_cell (hf 0 (by omega))
    rw [addr_add] at c0
    exact ⟨b, off, rfl, by simpa using c0⟩
set_option maxRecDepth 100000 in
theorem edge_trod {n : Nat} {cs : List Value} {x : DataW H × List MemPlace} (h : DataW.trod enc Try.prog w base spare held n 42 cs = some x) :
    ∃ (nm : ByteArray) (L : Option Addr) (c : Nat) (l : List Spot), cs = [.string nm, .slice L l.length c] ∧ SpotsAt w L l ∧ l.length ≤ c ∧ c ≤ 9223372036854775807 := by
  obtain ⟨xs, m, _, _, hlen, hl, hg⟩ := DataW.trod_struct Try.underlying42 h
  rw [show Try.prog.cellsOf 42 = 2 from by kernel_rfl] at hlen
  match cs, hlen with
  | [c0, c1], _ =>
    have g0 : DataW.trod enc Try.prog w base spare held m 9 (([c0, c1].drop 0).take (Try.prog.cellsOf 9)) = xs[0]? := hg 0 _ rfl
    have g1 : DataW.trod enc Try.prog w base spare held m 24 (([c0, c1].drop 1).take (Try.prog.cellsOf 24)) = xs[1]? := hg 1 _ rfl
    rw [show Try.prog.cellsOf 9 = 1 from by kernel_rfl] at g0
    rw [show Try.prog.cellsOf 24 = 1 from by kernel_rfl] at g1
    match xs, hl with
    | [y0, y1], _ =>
      simp at g0 g1
      obtain ⟨a, ea, _, _⟩ := DataW.trod_string Try.underlying9 g0
      obtain ⟨A, len, c, l, eb, hs, hln, h1, h2⟩ := spots_open g1
      simp at ea eb
      subst hln
      exact ⟨a, A, c, l, by rw [ea, eb], hs, h1, h2⟩
set_option maxRecDepth 100000 in
theorem edges_open {n : Nat} {cs : List Value} {x : DataW H × List MemPlace} (h : DataW.trod enc Try.prog w base spare held n 22 cs = some x) : ∃ A len c l, cs = [.slice A len c] ∧ EdgesAt w A l ∧ l.length = len ∧ len ≤ c ∧ c ≤ 9223372036854775807 := by
  rcases open_slice Try.underlying22 h with ⟨rfl, _⟩ | ⟨a, len, cap, m, k, D, Pl, rfl, hb, hl, hm, hmm, _, hx⟩
  · exact ⟨none, 0, 0, [], rfl, EdgesAt.nil, rfl, Nat.le_refl _, by omega⟩
  · rw [show Try.prog.cellsOf 42 = 2 from by kernel_rfl] at hx
    have hlm : len ≤ m := by rw [hmm]; split <;> omega
    have key : ∀ i, i < len → ∃ e : Edge, ∃ (L : Option Addr) (c : Nat), w.cell? (a.add (i * 2)) = some (.string e.1) ∧ w.cell? (a.add (i * 2 + 1)) = some (.slice L e.2.length c) ∧ SpotsAt w L e.2 ∧ e.2.length ≤ c ∧ c ≤ 9223372036854775807 := fun i hi => by
      obtain ⟨cs', hc, ht'⟩ := hx i (by omega)
      obtain ⟨nm, L, c, l, rfl, hs, h1, h2⟩ := edge_trod ht'
      obtain ⟨_, _, hat⟩ := World.cells?_some hc
      have a0 := hat 0 (by omega)
      have a1 := hat 1 (by omega)
      rw [add_add] at a0 a1
      exact ⟨(nm, l), L, c, by simpa using a0, by simpa using a1, hs, h1, h2⟩
    obtain ⟨f, hf⟩ := choose_lt key
    refine ⟨some a, len, cap, (List.range len).map f, rfl, fun k' hk => ?_, by simp, hl, by unfold maxLen at hm; omega⟩
    simp at hk
    obtain ⟨L, c, c0, c1, hs, h1, h2⟩ := hf k' hk
    obtain ⟨_, _, z0, _⟩ := hf 0 (by omega)
    obtain ⟨b, off, rfl⟩ := plain_of_cell (by simpa using z0)
    rw [addr_add] at c0 c1
    refine ⟨b, off, L, c, rfl, ?_, ?_, ?_, ?_, h2⟩
    · simpa using c0
    · rw [Nat.add_assoc]; simpa using c1
    · simpa using hs
    · simpa using h1
set_option maxRecDepth 100000 in
theorem okWide_plain {r : Reach} {b0 : Nat} {t : TypeId} {e : TypeId} {a : Addr} {len cap : Nat} (ht : Try.prog.underlying t = some (.slice e)) (h : Cell.okWide Try.prog w r b0 t (.slice (some a) len cap)) : ∃ b off, a = ⟨b, off, none⟩ := by
  unfold Cell.okWide at h
  rw [ht] at h
  unfold Cell.ok at h
  simp only [ht] at h
  obtain ⟨_, _, _, hs, _⟩ := h
  obtain ⟨b, off, spot⟩ := a
  simp only at hs
  subst hs
  exact ⟨b, off, rfl⟩
set_option maxRecDepth 100000 in
theorem okWide_plainA {r : Reach} {b0 : Nat} {t : TypeId} {e : TypeId} {A : Option Addr} {len cap : Nat} (ht : Try.prog.underlying t = some (.slice e)) (h : Cell.okWide Try.prog w r b0 t (.slice A len cap)) : plainA A := by
  intro a ha
  subst ha
  exact okWide_plain ht h
set_option maxRecDepth 100000 in
theorem piece_open {r : Reach} {b0 : Nat} {v : Value} {d : DataW H} {p : List MemPlace} (hv : Value.okWide Try.prog w r b0 27 v) (h : DataW.Trod enc Try.prog w base spare held 27 v d p) :
    ∃ nm AE nE cE gr AN nN cN AC nC cC AW nW cW mt es cs ws ns, v = .agg #[.string nm, .slice AE nE cE, .int .i64 gr, .slice AN nN cN, .slice AC nC cC, .slice AW nW cW, .bool mt] ∧ PAt w AE AN AC AW nE cE nN cN nC cC nW cW es cs ws ns := by
  have hrow := hv
  obtain ⟨cs, rfl, hsz⟩ := okWide_struct Try.underlying27 hv
  obtain ⟨l⟩ := cs
  have hC : Try.prog.cellsOf 27 = 7 := by kernel_rfl
  match l, hsz.trans hC with
  | [c0, c1, c2, c3, c4, c5, c6], _ =>
    obtain ⟨fuel, hf⟩ := h
    obtain ⟨xs, n, _, hx, _, hlen, hg⟩ := DataW.trod_struct Try.underlying27 hf
    have g0 : DataW.trod enc Try.prog w base spare held n 9 (([c0, c1, c2, c3, c4, c5, c6].drop 0).take (Try.prog.cellsOf 9)) = xs[0]? := hg 0 _ rfl
    have g1 : DataW.trod enc Try.prog w base spare held n 22 (([c0, c1, c2, c3, c4, c5, c6].drop 1).take (Try.prog.cellsOf 22)) = xs[1]? := hg 1 _ rfl
    have g2 : DataW.trod enc Try.prog w base spare held n 3 (([c0, c1, c2, c3, c4, c5, c6].drop 2).take (Try.prog.cellsOf 3)) = xs[2]? := hg 2 _ rfl
    have g3 : DataW.trod enc Try.prog w base spare held n 23 (([c0, c1, c2, c3, c4, c5, c6].drop 3).take (Try.prog.cellsOf 23)) = xs[3]? := hg 3 _ rfl
    have g4 : DataW.trod enc Try.prog w base spare held n 24 (([c0, c1, c2, c3, c4, c5, c6].drop 4).take (Try.prog.cellsOf 24)) = xs[4]? := hg 4 _ rfl
    have g5 : DataW.trod enc Try.prog w base spare held n 25 (([c0, c1, c2, c3, c4, c5, c6].drop 5).take (Try.prog.cellsOf 25)) = xs[5]? := hg 5 _ rfl
    have g6 : DataW.trod enc Try.prog w base spare held n 4 (([c0, c1, c2, c3, c4, c5, c6].drop 6).take (Try.prog.cellsOf 4)) = xs[6]? := hg 6 _ rfl
    rw [show Try.prog.cellsOf 9 = 1 from by kernel_rfl] at g0
    rw [show Try.prog.cellsOf 22 = 1 from by kernel_rfl] at g1
    rw [show Try.prog.cellsOf 3 = 1 from by kernel_rfl] at g2
    rw [show Try.prog.cellsOf 23 = 1 from by kernel_rfl] at g3
    rw [show Try.prog.cellsOf 24 = 1 from by kernel_rfl] at g4
    rw [show Try.prog.cellsOf 25 = 1 from by kernel_rfl] at g5
    rw [show Try.prog.cellsOf 4 = 1 from by kernel_rfl] at g6
    match xs, hlen with
    | [y0, y1, y2, y3, y4, y5, y6], _ =>
      simp at g0 g1 g2 g3 g4 g5 g6
      obtain ⟨nm, e0, _, _⟩ := DataW.trod_string Try.underlying9 g0
      obtain ⟨AE, nE, cE, es, e1, hE, lE, hc, hc'⟩ := edges_open g1
      obtain ⟨gr, e2, _, _⟩ := DataW.trod_int Try.underlying3 g2
      obtain ⟨AN, nN, cN, ns, e3, hN, lN, _, _⟩ := notches_open g3
      obtain ⟨AC, nC, cC, cs, e4, hCc, lC, hcc, hcc'⟩ := spots_open g4
      obtain ⟨AW, nW, cW, ws, e5, hW, lW, _, _⟩ := ints_open' g5
      obtain ⟨mt, e6, _⟩ := DataW.trod_bool Try.underlying4 g6
      simp at e0 e1 e2 e3 e4 e5 e6
      subst e0 e1 e2 e3 e4 e5 e6
      refine ⟨nm, AE, nE, cE, gr, AN, nN, cN, AC, nC, cC, AW, nW, cW, mt, es, cs, ws, ns, rfl, ⟨hE, lE, hc, hc', hCc, lC, by omega, hW, lW, hN, lN, ?_, ?_⟩⟩
      · simp only [Value.okWide, Try.underlying27] at hrow
        obtain ⟨cs', e, _, ts, hts, _, hall⟩ := hrow
        injection e with e
        subst e
        obtain ⟨u, hu, hok⟩ := hall 5 _ rfl
        have : ts = [9, 22, 3, 23, 24, 25, 4] := Option.some.inj (hts.symm.trans (by kernel_rfl))
        subst this
        simp at hu
        subst hu
        exact okWide_plainA Try.underlying25 hok
      · simp only [Value.okWide, Try.underlying27] at hrow
        obtain ⟨cs', e, _, ts, hts, _, hall⟩ := hrow
        injection e with e
        subst e
        obtain ⟨u, hu, hok⟩ := hall 3 _ rfl
        have : ts = [9, 22, 3, 23, 24, 25, 4] := Option.some.inj (hts.symm.trans (by kernel_rfl))
        subst this
        simp at hu
        subst hu
        exact okWide_plainA Try.underlying23 hok
set_option maxRecDepth 100000 in
theorem int_open {r : Reach} {b0 : Nat} {v : Value} {d : DataW H} {p : List MemPlace} (hv : Value.okWide Try.prog w r b0 3 v) (h : DataW.Trod enc Try.prog w base spare held 3 v d p) : ∃ n, v = .int .i64 n ∧ (Lit.int .i64 n).wf = true := by
  obtain ⟨a, rfl⟩ := okWide_int Try.underlying3 hv
  obtain ⟨fuel, hf⟩ := h
  obtain ⟨b, eb, _, wb⟩ := DataW.trod_int Try.underlying3 hf
  simp [Value.cells] at eb
  subst eb
  exact ⟨_, rfl, wb⟩
set_option maxRecDepth 100000 in
theorem spot_open {r : Reach} {b0 : Nat} {v : Value} {d : DataW H} {p : List MemPlace} (hv : Value.okWide Try.prog w r b0 38 v) (h : DataW.Trod enc Try.prog w base spare held 38 v d p) : ∃ s, v = SV s := by
  obtain ⟨cs, rfl, hsz⟩ := okWide_struct Try.underlying38 hv
  obtain ⟨l⟩ := cs
  obtain ⟨fuel, hf⟩ := h
  obtain ⟨s, hs⟩ := pair_trod Try.underlying38 rfl rfl rfl rfl (by kernel_rfl) (by kernel_rfl) hf
  simp [Value.cells] at hs
  exact ⟨s, by rw [hs]⟩
set_option maxRecDepth 100000 in
theorem ints_arg {r : Reach} {b0 : Nat} {v : Value} {d : DataW H} {p : List MemPlace} (hv : Value.okWide Try.prog w r b0 25 v) (h : DataW.Trod enc Try.prog w base spare held 25 v d p) : ∃ A n c l, v = .slice A n c ∧ IntsAt w A l ∧ l.length = n := by
  obtain ⟨a, len, cap, rfl⟩ := okWide_slice Try.underlying25 hv
  obtain ⟨fuel, hf⟩ := h
  obtain ⟨A, n, c, l, e, hi, hl, _, _⟩ := ints_open' hf
  simp [Value.cells] at e
  obtain ⟨rfl, rfl, rfl⟩ := e
  exact ⟨_, _, _, l, rfl, hi, hl⟩
end
end Go.Proofs.Ytnfchkkokgmliaa
