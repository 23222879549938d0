/- the arguments opened: a style -/
import Derived.ProofKit
import Derived.Deep.Slices
import Derived.Lib.SmallJoins
import Derived.OpenShut
import Derived.Test.YtkigmpholnfkbaaGreatKTurnP
import Derived.Test.YtkigmpholnfkbaaGreatKSty
/- the arguments opened: pieces, turns, spots, numbers -/
namespace Go.Proofs.YtkigmpholnfkbaaGreat
open Go.ChangeShapes Go.WideShapes Go.ChangeAt Go.RowKit Go.Deep Go.Joins
theorem Tryz.own : ownKnob Tryz.prog.godebug = none := by kernel_rfl
theorem Tryz.laidOut : laidOutB Tryz.prog = true := by kernel_rfl
section
variable {H : Type} {enc : TypeId × Value → H} {w : World} {base : Nat} {spare : Nat → Bool} {held : Bool}
theorem plain_of_cell {a : Addr} {v : Value} (h : w.cell? (a.add 0) = some v) : ∃ b off, a = ⟨b, off, none⟩ := by
  obtain ⟨b, off, spot⟩ := a
  have hs : spot = none := by simpa [Addr.add] using World.cell?_spot h
  subst hs
  exact ⟨b, off, rfl⟩
set_option maxRecDepth 100000 in
theorem pair_trod {e : TypeId} {f0 f1 : Field} {n : Nat} {cs : List Value} {x : DataW H × List MemPlace} (he : Tryz.prog.underlying e = some (.struct #[f0, f1])) (h0 : f0.type = 3) (h1 : f1.type = 3) (o0 : f0.offset = 0) (o1 : f1.offset = 1) (hC : Tryz.prog.cellsOf e = 2) (hI : Tryz.prog.cellsOf 3 = 1)
    (h : DataW.trod enc Tryz.prog w base spare held n e cs = some x) : ∃ s : Spot, cs = [.int .i64 s.1, .int .i64 s.2] := by
  obtain ⟨xs, m, _, _, hlen, hl, hg⟩ := DataW.trod_struct he h
  rw [hC] at hlen
  match cs, hlen with
  | [c0, c1], _ =>
    have g0 := hg 0 f0 rfl
    have g1 := hg 1 f1 rfl
    rw [o0, h0, hI] at g0
    rw [o1, h1, hI] at g1
    match xs, hl with
    | [y0, y1], _ =>
      simp at g0 g1
      obtain ⟨a, ea, _, _⟩ := DataW.trod_int Tryz.underlying3 g0
      obtain ⟨b, eb, _, _⟩ := DataW.trod_int Tryz.underlying3 g1
      simp at ea eb
      exact ⟨(a, b), by rw [ea, eb]⟩
set_option maxRecDepth 100000 in
theorem pairs_open {t e : TypeId} {f0 f1 : Field} {n : Nat} {cs : List Value} {x : DataW H × List MemPlace} (ht : Tryz.prog.underlying t = some (.slice e)) (he : Tryz.prog.underlying e = some (.struct #[f0, f1])) (h0 : f0.type = 3) (h1 : f1.type = 3) (o0 : f0.offset = 0) (o1 : f1.offset = 1) (hC : Tryz.prog.cellsOf e = 2) (hI : Tryz.prog.cellsOf 3 = 1)
    (h : DataW.trod enc Tryz.prog w base spare held n t cs = some x) : ∃ A len c l, cs = [.slice A len c] ∧ SpotsAt w A l ∧ l.length = len ∧ len ≤ c ∧ c ≤ 9223372036854775807 := by
  rcases open_slice ht h with ⟨rfl, _⟩ | ⟨a, len, cap, m, k, D, Pl, rfl, hb, hl, hm, hmm, _, hx⟩
  · exact ⟨none, 0, 0, [], rfl, SpotsAt.nil, rfl, Nat.le_refl _, by omega⟩
  · rw [hC] at hx
    have hlm : len ≤ m := by rw [hmm]; split <;> omega
    have key : ∀ i, i < len → ∃ s : Spot, w.cell? (a.add (i * 2)) = some (.int .i64 s.1) ∧ w.cell? (a.add (i * 2 + 1)) = some (.int .i64 s.2) := fun i hi => by
      obtain ⟨cs', hc, ht'⟩ := hx i (by omega)
      obtain ⟨s, rfl⟩ := pair_trod he h0 h1 o0 o1 hC hI ht'
      obtain ⟨_, _, hat⟩ := World.cells?_some hc
      have a0 := hat 0 (by omega)
      have a1 := hat 1 (by omega)
      rw [add_add] at a0 a1
      exact ⟨s, by simpa using a0, by simpa using a1⟩
    obtain ⟨f, hf⟩ := choose_lt key
    refine ⟨some a, len, cap, (List.range len).map f, rfl, fun k' hk => ?_, by simp, hl, by unfold maxLen at hm; omega⟩
    simp at hk
    obtain ⟨c0, c1⟩ := hf k' hk
    obtain ⟨b, off, rfl⟩ := plain_of_cell (by simpa using (hf 0 (by omega)).1)
    rw [addr_add] at c0 c1
    refine ⟨b, off, rfl, ?_, ?_⟩
    · simpa using c0
    · rw [Nat.add_assoc]; simpa using c1
set_option maxRecDepth 100000 in
theorem spots_open {n : Nat} {cs : List Value} {x : DataW H × List MemPlace} (h : DataW.trod enc Tryz.prog w base spare held n 50 cs = some x) : ∃ A len c l, cs = [.slice A len c] ∧ SpotsAt w A l ∧ l.length = len ∧ len ≤ c ∧ c ≤ 9223372036854775807 :=
  pairs_open Tryz.underlying50 Tryz.underlying62 rfl rfl rfl rfl (by kernel_rfl) (by kernel_rfl) h
set_option maxRecDepth 100000 in
theorem notches_open {n : Nat} {cs : List Value} {x : DataW H × List MemPlace} (h : DataW.trod enc Tryz.prog w base spare held n 49 cs = some x) : ∃ A len c l, cs = [.slice A len c] ∧ SpotsAt w A l ∧ l.length = len ∧ len ≤ c ∧ c ≤ 9223372036854775807 :=
  pairs_open Tryz.underlying49 Tryz.underlying95 rfl rfl rfl rfl (by kernel_rfl) (by kernel_rfl) h
set_option maxRecDepth 100000 in
theorem ints_open' {n : Nat} {cs : List Value} {x : DataW H × List MemPlace} (h : DataW.trod enc Tryz.prog w base spare held n 23 cs = some x) : ∃ A len c l, cs = [.slice A len c] ∧ IntsAt w A l ∧ l.length = len ∧ len ≤ c ∧ c ≤ 9223372036854775807 := by
  rcases open_slice1 Tryz.underlying23 (by kernel_rfl) h with ⟨rfl, _⟩ | ⟨a, len, cap, m, k, V, D, Pl, rfl, hb, hl, hm, hmm, _, hx⟩
  · exact ⟨none, 0, 0, [], rfl, IntsAt.nil, rfl, Nat.le_refl _, by omega⟩
  · have hlm : len ≤ m := by rw [hmm]; split <;> omega
    have key : ∀ i, i < len → ∃ s : Int, w.cell? (a.add i) = some (.int .i64 s) := fun i hi => by
      obtain ⟨hc, ht'⟩ := hx i (by omega)
      obtain ⟨s, es, _, _⟩ := DataW.trod_int Tryz.underlying3 ht'
      simp at es
      exact ⟨s, by rw [hc, es]⟩
    obtain ⟨f, hf⟩ := choose_lt key
    refine ⟨some a, len, cap, (List.range len).map f, rfl, fun k' hk => ?_, by simp, hl, by unfold maxLen at hm; omega⟩
    simp at hk
    have c0 := hf k' hk
    obtain ⟨b, off, rfl⟩ := plain_of_cell (hf 0 (by omega))
    rw [addr_add] at c0
    exact ⟨b, off, rfl, by simpa using c0⟩
set_option maxRecDepth 100000 in
theorem edge_trod {n : Nat} {cs : List Value} {x : DataW H × List MemPlace} (h : DataW.trod enc Tryz.prog w base spare held n 57 cs = some x) :
    ∃ (nm : ByteArray) (L : Option Addr) (c : Nat) (l : List Spot), cs = [.string nm, .slice L l.length c] ∧ SpotsAt w L l ∧ l.length ≤ c ∧ c ≤ 9223372036854775807 := by
  obtain ⟨xs, m, _, _, hlen, hl, hg⟩ := DataW.trod_struct Tryz.underlying57 h
  rw [show Tryz.prog.cellsOf 57 = 2 from by kernel_rfl] at hlen
  match cs, hlen with
  | [c0, c1], _ =>
    have g0 : DataW.trod enc Tryz.prog w base spare held m 9 (([c0, c1].drop 0).take (Tryz.prog.cellsOf 9)) = xs[0]? := hg 0 _ rfl
    have g1 : DataW.trod enc Tryz.prog w base spare held m 50 (([c0, c1].drop 1).take (Tryz.prog.cellsOf 50)) = xs[1]? := hg 1 _ rfl
    rw [show Tryz.prog.cellsOf 9 = 1 from by kernel_rfl] at g0
    rw [show Tryz.prog.cellsOf 50 = 1 from by kernel_rfl] at g1
    match xs, hl with
    | [y0, y1], _ =>
      simp at g0 g1
      obtain ⟨a, ea, _, _⟩ := DataW.trod_string Tryz.underlying9 g0
      obtain ⟨A, len, c, l, eb, hs, hln, h1, h2⟩ := spots_open g1
      simp at ea eb
      subst hln
      exact ⟨a, A, c, l, by rw [ea, eb], hs, h1, h2⟩
set_option maxRecDepth 100000 in
theorem edges_open {n : Nat} {cs : List Value} {x : DataW H × List MemPlace} (h : DataW.trod enc Tryz.prog w base spare held n 48 cs = some x) : ∃ A len c l, cs = [.slice A len c] ∧ EdgesAt w A l ∧ l.length = len ∧ len ≤ c ∧ c ≤ 9223372036854775807 := by
  rcases open_slice Tryz.underlying48 h with ⟨rfl, _⟩ | ⟨a, len, cap, m, k, D, Pl, rfl, hb, hl, hm, hmm, _, hx⟩
  · exact ⟨none, 0, 0, [], rfl, EdgesAt.nil, rfl, Nat.le_refl _, by omega⟩
  · rw [show Tryz.prog.cellsOf 57 = 2 from by kernel_rfl] at hx
    have hlm : len ≤ m := by rw [hmm]; split <;> omega
    have key : ∀ i, i < len → ∃ e : Edge, ∃ (L : Option Addr) (c : Nat), w.cell? (a.add (i * 2)) = some (.string e.1) ∧ w.cell? (a.add (i * 2 + 1)) = some (.slice L e.2.length c) ∧ SpotsAt w L e.2 ∧ e.2.length ≤ c ∧ c ≤ 9223372036854775807 := fun i hi => by
      obtain ⟨cs', hc, ht'⟩ := hx i (by omega)
      obtain ⟨nm, L, c, l, rfl, hs, h1, h2⟩ := edge_trod ht'
      obtain ⟨_, _, hat⟩ := World.cells?_some hc
      have a0 := hat 0 (by omega)
      have a1 := hat 1 (by omega)
      rw [add_add] at a0 a1
      exact ⟨(nm, l), L, c, by simpa using a0, by simpa using a1, hs, h1, h2⟩
    obtain ⟨f, hf⟩ := choose_lt key
    refine ⟨some a, len, cap, (List.range len).map f, rfl, fun k' hk => ?_, by simp, hl, by unfold maxLen at hm; omega⟩
    simp at hk
    obtain ⟨L, c, c0, c1, hs, h1, h2⟩ := hf k' hk
    obtain ⟨_, _, z0, _⟩ := hf 0 (by omega)
    obtain ⟨b, off, rfl⟩ := plain_of_cell (by simpa using z0)
    rw [addr_add] at c0 c1
    refine ⟨b, off, L, c, rfl, ?_, ?_, ?_, ?_, h2⟩
    · simpa using c0
    · rw [Nat.add_assoc]; simpa using c1
    · simpa using hs
    · simpa using h1
set_option maxRecDepth 100000 in
theorem okWide_plain {r : Reach} {b0 : Nat} {t : TypeId} {e : TypeId} {a : Addr} {len cap : Nat} (ht : Tryz.prog.underlying t = some (.slice e)) (h : Cell.okWide Tryz.prog w r b0 t (.slice (some a) len cap)) : ∃ b off, a = ⟨b, off, none⟩ := by
  unfold Cell.okWide at h
  rw [ht] at h
  unfold Cell.ok at h
  simp only [ht] at h
  obtain ⟨_, _, _, hs, _⟩ := h
  obtain ⟨b, off, spot⟩ := a
  simp only at hs
  subst hs
  exact ⟨b, off, rfl⟩
set_option maxRecDepth 100000 in
theorem okWide_plainA {r : Reach} {b0 : Nat} {t : TypeId} {e : TypeId} {A : Option Addr} {len cap : Nat} (ht : Tryz.prog.underlying t = some (.slice e)) (h : Cell.okWide Tryz.prog w r b0 t (.slice A len cap)) : plainA A := by
  intro a ha
  subst ha
  exact okWide_plain ht h
set_option maxRecDepth 100000 in
theorem piece_open {r : Reach} {b0 : Nat} {v : Value} {d : DataW H} {p : List MemPlace} (hv : Value.okWide Tryz.prog w r b0 52 v) (h : DataW.Trod enc Tryz.prog w base spare held 52 v d p) :
    ∃ nm AE nE cE gr AN nN cN AC nC cC AW nW cW mt es cs ws ns, v = .agg #[.string nm, .slice AE nE cE, .int .i64 gr, .slice AN nN cN, .slice AC nC cC, .slice AW nW cW, .bool mt] ∧ PAt w AE AN AC AW nE cE nN cN nC cC nW cW es cs ws ns := by
  have hrow := hv
  obtain ⟨cs, rfl, hsz⟩ := okWide_struct Tryz.underlying52 hv
  obtain ⟨l⟩ := cs
  have hC : Tryz.prog.cellsOf 52 = 7 := by kernel_rfl
  match l, hsz.trans hC with
  | [c0, c1, c2, c3, c4, c5, c6], _ =>
    obtain ⟨fuel, hf⟩ := h
    obtain ⟨xs, n, _, hx, _, hlen, hg⟩ := DataW.trod_struct Tryz.underlying52 hf
    have g0 : DataW.trod enc Tryz.prog w base spare held n 9 (([c0, c1, c2, c3, c4, c5, c6].drop 0).take (Tryz.prog.cellsOf 9)) = xs[0]? := hg 0 _ rfl
    have g1 : DataW.trod enc Tryz.prog w base spare held n 48 (([c0, c1, c2, c3, c4, c5, c6].drop 1).take (Tryz.prog.cellsOf 48)) = xs[1]? := hg 1 _ rfl
    have g2 : DataW.trod enc Tryz.prog w base spare held n 3 (([c0, c1, c2, c3, c4, c5, c6].drop 2).take (Tryz.prog.cellsOf 3)) = xs[2]? := hg 2 _ rfl
    have g3 : DataW.trod enc Tryz.prog w base spare held n 49 (([c0, c1, c2, c3, c4, c5, c6].drop 3).take (Tryz.prog.cellsOf 49)) = xs[3]? := hg 3 _ rfl
    have g4 : DataW.trod enc Tryz.prog w base spare held n 50 (([c0, c1, c2, c3, c4, c5, c6].drop 4).take (Tryz.prog.cellsOf 50)) = xs[4]? := hg 4 _ rfl
    have g5 : DataW.trod enc Tryz.prog w base spare held n 23 (([c0, c1, c2, c3, c4, c5, c6].drop 5).take (Tryz.prog.cellsOf 23)) = xs[5]? := hg 5 _ rfl
    have g6 : DataW.trod enc Tryz.prog w base spare held n 4 (([c0, c1, c2, c3, c4, c5, c6].drop 6).take (Tryz.prog.cellsOf 4)) = xs[6]? := hg 6 _ rfl
    rw [show Tryz.prog.cellsOf 9 = 1 from by kernel_rfl] at g0
    rw [show Tryz.prog.cellsOf 48 = 1 from by kernel_rfl] at g1
    rw [show Tryz.prog.cellsOf 3 = 1 from by kernel_rfl] at g2
    rw [show Tryz.prog.cellsOf 49 = 1 from by kernel_rfl] at g3
    rw [show Tryz.prog.cellsOf 50 = 1 from by kernel_rfl] at g4
    rw [show Tryz.prog.cellsOf 23 = 1 from by kernel_rfl] at g5
    rw [show Tryz.prog.cellsOf 4 = 1 from by kernel_rfl] at g6
    match xs, hlen with
    | [y0, y1, y2, y3, y4, y5, y6], _ =>
      simp at g0 g1 g2 g3 g4 g5 g6
      obtain ⟨nm, e0, _, _⟩ := DataW.trod_string Tryz.underlying9 g0
      obtain ⟨AE, nE, cE, es, e1, hE, lE, hc, hc'⟩ := edges_open g1
      obtain ⟨gr, e2, _, _⟩ := DataW.trod_int Tryz.underlying3 g2
      obtain ⟨AN, nN, cN, ns, e3, hN, lN, _, _⟩ := notches_open g3
      obtain ⟨AC, nC, cC, cs, e4, hCc, lC, hcc, hcc'⟩ := spots_open g4
      obtain ⟨AW, nW, cW, ws, e5, hW, lW, _, _⟩ := ints_open' g5
      obtain ⟨mt, e6, _⟩ := DataW.trod_bool Tryz.underlying4 g6
      simp at e0 e1 e2 e3 e4 e5 e6
      subst e0 e1 e2 e3 e4 e5 e6
      refine ⟨nm, AE, nE, cE, gr, AN, nN, cN, AC, nC, cC, AW, nW, cW, mt, es, cs, ws, ns, rfl, ⟨hE, lE, hc, hc', hCc, lC, by omega, hW, lW, hN, lN, ?_, ?_⟩⟩
      · simp only [Value.okWide, Tryz.underlying52] at hrow
        obtain ⟨cs', e, _, ts, hts, _, hall⟩ := hrow
        injection e with e
        subst e
        obtain ⟨u, hu, hok⟩ := hall 5 _ rfl
        have : ts = [9, 48, 3, 49, 50, 23, 4] := Option.some.inj (hts.symm.trans (by kernel_rfl))
        subst this
        simp at hu
        subst hu
        exact okWide_plainA Tryz.underlying23 hok
      · simp only [Value.okWide, Tryz.underlying52] at hrow
        obtain ⟨cs', e, _, ts, hts, _, hall⟩ := hrow
        injection e with e
        subst e
        obtain ⟨u, hu, hok⟩ := hall 3 _ rfl
        have : ts = [9, 48, 3, 49, 50, 23, 4] := Option.some.inj (hts.symm.trans (by kernel_rfl))
        subst this
        simp at hu
        subst hu
        exact okWide_plainA Tryz.underlying49 hok
set_option maxRecDepth 100000 in
theorem int_open {r : Reach} {b0 : Nat} {v : Value} {d : DataW H} {p : List MemPlace} (hv : Value.okWide Tryz.prog w r b0 3 v) (h : DataW.Trod enc Tryz.prog w base spare held 3 v d p) : ∃ n, v = .int .i64 n ∧ (Lit.int .i64 n).wf = true := by
  obtain ⟨a, rfl⟩ := okWide_int Tryz.underlying3 hv
  obtain ⟨fuel, hf⟩ := h
  obtain ⟨b, eb, _, wb⟩ := DataW.trod_int Tryz.underlying3 hf
  simp [Value.cells] at eb
  subst eb
  exact ⟨_, rfl, wb⟩
set_option maxRecDepth 100000 in
theorem spot_open {r : Reach} {b0 : Nat} {v : Value} {d : DataW H} {p : List MemPlace} (hv : Value.okWide Tryz.prog w r b0 62 v) (h : DataW.Trod enc Tryz.prog w base spare held 62 v d p) : ∃ s, v = SV s := by
  obtain ⟨cs, rfl, hsz⟩ := okWide_struct Tryz.underlying62 hv
  obtain ⟨l⟩ := cs
  obtain ⟨fuel, hf⟩ := h
  obtain ⟨s, hs⟩ := pair_trod Tryz.underlying62 rfl rfl rfl rfl (by kernel_rfl) (by kernel_rfl) hf
  simp [Value.cells] at hs
  exact ⟨s, by rw [hs]⟩
set_option maxRecDepth 100000 in
theorem ints_arg {r : Reach} {b0 : Nat} {v : Value} {d : DataW H} {p : List MemPlace} (hv : Value.okWide Tryz.prog w r b0 23 v) (h : DataW.Trod enc Tryz.prog w base spare held 23 v d p) : ∃ A n c l, v = .slice A n c ∧ IntsAt w A l ∧ l.length = n := by
  obtain ⟨a, len, cap, rfl⟩ := okWide_slice Tryz.underlying23 hv
  obtain ⟨fuel, hf⟩ := h
  obtain ⟨A, n, c, l, e, hi, hl, _, _⟩ := ints_open' hf
  simp [Value.cells] at e
  obtain ⟨rfl, rfl, rfl⟩ := e
  exact ⟨_, _, _, l, rfl, hi, hl⟩
end
end Go.Proofs.YtkigmpholnfkbaaGreat
/- the arguments opened, with the numbers' ranges -/
namespace Go.Proofs.YtkigmpholnfkbaaGreat
open Go.ChangeShapes Go.WideShapes Go.ChangeAt Go.RowKit Go.Deep Go.Joins
theorem wf_range {n : Int} (h : (Lit.int .i64 n).wf = true) : -9223372036854775808 ≤ n ∧ n ≤ 9223372036854775807 := by
  have := bounds_i64 h
  omega
section
variable {H : Type} {enc : TypeId × Value → H} {w : World} {base : Nat} {spare : Nat → Bool} {held : Bool}
set_option maxRecDepth 100000 in
theorem pair_trodW {e : TypeId} {f0 f1 : Field} {n : Nat} {cs : List Value} {x : DataW H × List MemPlace} (he : Tryz.prog.underlying e = some (.struct #[f0, f1])) (h0 : f0.type = 3) (h1 : f1.type = 3) (o0 : f0.offset = 0) (o1 : f1.offset = 1) (hC : Tryz.prog.cellsOf e = 2) (hI : Tryz.prog.cellsOf 3 = 1)
    (h : DataW.trod enc Tryz.prog w base spare held n e cs = some x) : ∃ s : Spot, cs = [.int .i64 s.1, .int .i64 s.2] ∧ wfS s := by
  obtain ⟨xs, m, _, _, hlen, hl, hg⟩ := DataW.trod_struct he h
  rw [hC] at hlen
  match cs, hlen with
  | [c0, c1], _ =>
    have g0 := hg 0 f0 rfl
    have g1 := hg 1 f1 rfl
    rw [o0, h0, hI] at g0
    rw [o1, h1, hI] at g1
    match xs, hl with
    | [y0, y1], _ =>
      simp at g0 g1
      obtain ⟨a, ea, _, wa⟩ := DataW.trod_int Tryz.underlying3 g0
      obtain ⟨b, eb, _, wb⟩ := DataW.trod_int Tryz.underlying3 g1
      simp at ea eb
      exact ⟨(a, b), by rw [ea, eb], (wf_range wa).1, (wf_range wa).2, (wf_range wb).1, (wf_range wb).2⟩
set_option maxRecDepth 100000 in
theorem pairs_openW {t e : TypeId} {f0 f1 : Field} {n : Nat} {cs : List Value} {x : DataW H × List MemPlace} (ht : Tryz.prog.underlying t = some (.slice e)) (he : Tryz.prog.underlying e = some (.struct #[f0, f1])) (h0 : f0.type = 3) (h1 : f1.type = 3) (o0 : f0.offset = 0) (o1 : f1.offset = 1) (hC : Tryz.prog.cellsOf e = 2) (hI : Tryz.prog.cellsOf 3 = 1)
    (h : DataW.trod enc Tryz.prog w base spare held n t cs = some x) : ∃ A len c l, cs = [.slice A len c] ∧ SpotsAt w A l ∧ l.length = len ∧ len ≤ c ∧ c ≤ 9223372036854775807 ∧ WfL l := by
  rcases open_slice ht h with ⟨rfl, _⟩ | ⟨a, len, cap, m, k, D, Pl, rfl, hb, hl, hm, hmm, _, hx⟩
  · exact ⟨none, 0, 0, [], rfl, SpotsAt.nil, rfl, Nat.le_refl _, by omega, fun _ hk => absurd hk (Nat.not_lt_zero _)⟩
  · rw [hC] at hx
    have hlm : len ≤ m := by rw [hmm]; split <;> omega
    have key : ∀ i, i < len → ∃ s : Spot, w.cell? (a.add (i * 2)) = some (.int .i64 s.1) ∧ w.cell? (a.add (i * 2 + 1)) = some (.int .i64 s.2) ∧ wfS s := fun i hi => by
      obtain ⟨cs', hc, ht'⟩ := hx i (by omega)
      obtain ⟨s, rfl, hw⟩ := pair_trodW he h0 h1 o0 o1 hC hI ht'
      obtain ⟨_, _, hat⟩ := World.cells?_some hc
      have a0 := hat 0 (by omega)
      have a1 := hat 1 (by omega)
      rw [add_add] at a0 a1
      exact ⟨s, by simpa using a0, by simpa using a1, hw⟩
    obtain ⟨f, hf⟩ := choose_lt key
    refine ⟨some a, len, cap, (List.range len).map f, rfl, fun k' hk => ?_, by simp, hl, by unfold maxLen at hm; omega, fun k' hk => by simp at hk; rw [gS_eq (by simpa using hk)]; simpa using (hf k' hk).2.2⟩
    simp at hk
    obtain ⟨c0, c1, _⟩ := hf k' hk
    obtain ⟨b, off, rfl⟩ := plain_of_cell (by simpa using (hf 0 (by omega)).1)
    rw [addr_add] at c0 c1
    refine ⟨b, off, rfl, ?_, ?_⟩
    · simpa using c0
    · rw [Nat.add_assoc]; simpa using c1
set_option maxRecDepth 100000 in
theorem spots_openW {n : Nat} {cs : List Value} {x : DataW H × List MemPlace} (h : DataW.trod enc Tryz.prog w base spare held n 50 cs = some x) : ∃ A len c l, cs = [.slice A len c] ∧ SpotsAt w A l ∧ l.length = len ∧ len ≤ c ∧ c ≤ 9223372036854775807 ∧ WfL l :=
  pairs_openW Tryz.underlying50 Tryz.underlying62 rfl rfl rfl rfl (by kernel_rfl) (by kernel_rfl) h
set_option maxRecDepth 100000 in
theorem edge_trodW {n : Nat} {cs : List Value} {x : DataW H × List MemPlace} (h : DataW.trod enc Tryz.prog w base spare held n 57 cs = some x) :
    ∃ (nm : ByteArray) (L : Option Addr) (c : Nat) (l : List Spot), cs = [.string nm, .slice L l.length c] ∧ SpotsAt w L l ∧ l.length ≤ c ∧ c ≤ 9223372036854775807 ∧ WfL l := by
  obtain ⟨xs, m, _, _, hlen, hl, hg⟩ := DataW.trod_struct Tryz.underlying57 h
  rw [show Tryz.prog.cellsOf 57 = 2 from by kernel_rfl] at hlen
  match cs, hlen with
  | [c0, c1], _ =>
    have g0 : DataW.trod enc Tryz.prog w base spare held m 9 (([c0, c1].drop 0).take (Tryz.prog.cellsOf 9)) = xs[0]? := hg 0 _ rfl
    have g1 : DataW.trod enc Tryz.prog w base spare held m 50 (([c0, c1].drop 1).take (Tryz.prog.cellsOf 50)) = xs[1]? := hg 1 _ rfl
    rw [show Tryz.prog.cellsOf 9 = 1 from by kernel_rfl] at g0
    rw [show Tryz.prog.cellsOf 50 = 1 from by kernel_rfl] at g1
    match xs, hl with
    | [y0, y1], _ =>
      simp at g0 g1
      obtain ⟨a, ea, _, _⟩ := DataW.trod_string Tryz.underlying9 g0
      obtain ⟨A, len, c, l, eb, hs, hln, h1, h2, hw⟩ := spots_openW g1
      simp at ea eb
      subst hln
      exact ⟨a, A, c, l, by rw [ea, eb], hs, h1, h2, hw⟩
set_option maxRecDepth 100000 in
theorem edges_openW {n : Nat} {cs : List Value} {x : DataW H × List MemPlace} (h : DataW.trod enc Tryz.prog w base spare held n 48 cs = some x) : ∃ A len c l, cs = [.slice A len c] ∧ EdgesAt w A l ∧ l.length = len ∧ len ≤ c ∧ c ≤ 9223372036854775807 ∧ WfE l := by
  rcases open_slice Tryz.underlying48 h with ⟨rfl, _⟩ | ⟨a, len, cap, m, k, D, Pl, rfl, hb, hl, hm, hmm, _, hx⟩
  · exact ⟨none, 0, 0, [], rfl, EdgesAt.nil, rfl, Nat.le_refl _, by omega, fun _ hk => absurd hk (Nat.not_lt_zero _)⟩
  · rw [show Tryz.prog.cellsOf 57 = 2 from by kernel_rfl] at hx
    have hlm : len ≤ m := by rw [hmm]; split <;> omega
    have key : ∀ i, i < len → ∃ e : Edge, ∃ (L : Option Addr) (c : Nat), w.cell? (a.add (i * 2)) = some (.string e.1) ∧ w.cell? (a.add (i * 2 + 1)) = some (.slice L e.2.length c) ∧ SpotsAt w L e.2 ∧ e.2.length ≤ c ∧ c ≤ 9223372036854775807 ∧ WfL e.2 := fun i hi => by
      obtain ⟨cs', hc, ht'⟩ := hx i (by omega)
      obtain ⟨nm, L, c, l, rfl, hs, h1, h2, hw⟩ := edge_trodW ht'
      obtain ⟨_, _, hat⟩ := World.cells?_some hc
      have a0 := hat 0 (by omega)
      have a1 := hat 1 (by omega)
      rw [add_add] at a0 a1
      exact ⟨(nm, l), L, c, by simpa using a0, by simpa using a1, hs, h1, h2, hw⟩
    obtain ⟨f, hf⟩ := choose_lt key
    refine ⟨some a, len, cap, (List.range len).map f, rfl, fun k' hk => ?_, by simp, hl, by unfold maxLen at hm; omega, fun k' hk => by
      simp at hk
      obtain ⟨_, _, _, _, _, _, _, hw⟩ := hf k' hk
      rw [gE_eq (by simpa using hk)]; simpa using hw⟩
    simp at hk
    obtain ⟨L, c, c0, c1, hs, h1, h2, _⟩ := hf k' hk
    obtain ⟨_, _, z0, _⟩ := hf 0 (by omega)
    obtain ⟨b, off, rfl⟩ := plain_of_cell (by simpa using z0)
    rw [addr_add] at c0 c1
    refine ⟨b, off, L, c, rfl, ?_, ?_, ?_, ?_, h2⟩
    · simpa using c0
    · rw [Nat.add_assoc]; simpa using c1
    · simpa using hs
    · simpa using h1
set_option maxRecDepth 100000 in
theorem piece_openW {r : Reach} {b0 : Nat} {v : Value} {d : DataW H} {p : List MemPlace} (hv : Value.okWide Tryz.prog w r b0 52 v) (h : DataW.Trod enc Tryz.prog w base spare held 52 v d p) :
    ∃ nm AE nE cE gr AN nN cN AC nC cC AW nW cW mt es cs ws ns, v = .agg #[.string nm, .slice AE nE cE, .int .i64 gr, .slice AN nN cN, .slice AC nC cC, .slice AW nW cW, .bool mt] ∧ PAt w AE AN AC AW nE cE nN cN nC cC nW cW es cs ws ns ∧ WfE es ∧ WfL cs := by
  have hrow := hv
  obtain ⟨cs, rfl, hsz⟩ := okWide_struct Tryz.underlying52 hv
  obtain ⟨l⟩ := cs
  have hC : Tryz.prog.cellsOf 52 = 7 := by kernel_rfl
  match l, hsz.trans hC with
  | [c0, c1, c2, c3, c4, c5, c6], _ =>
    obtain ⟨fuel, hf⟩ := h
    obtain ⟨xs, n, _, hx, _, hlen, hg⟩ := DataW.trod_struct Tryz.underlying52 hf
    have g0 : DataW.trod enc Tryz.prog w base spare held n 9 (([c0, c1, c2, c3, c4, c5, c6].drop 0).take (Tryz.prog.cellsOf 9)) = xs[0]? := hg 0 _ rfl
    have g1 : DataW.trod enc Tryz.prog w base spare held n 48 (([c0, c1, c2, c3, c4, c5, c6].drop 1).take (Tryz.prog.cellsOf 48)) = xs[1]? := hg 1 _ rfl
    have g2 : DataW.trod enc Tryz.prog w base spare held n 3 (([c0, c1, c2, c3, c4, c5, c6].drop 2).take (Tryz.prog.cellsOf 3)) = xs[2]? := hg 2 _ rfl
    have g3 : DataW.trod enc Tryz.prog w base spare held n 49 (([c0, c1, c2, c3, c4, c5, c6].drop 3).take (Tryz.prog.cellsOf 49)) = xs[3]? := hg 3 _ rfl
    have g4 : DataW.trod enc Tryz.prog w base spare held n 50 (([c0, c1, c2, c3, c4, c5, c6].drop 4).take (Tryz.prog.cellsOf 50)) = xs[4]? := hg 4 _ rfl
    have g5 : DataW.trod enc Tryz.prog w base spare held n 23 (([c0, c1, c2, c3, c4, c5, c6].drop 5).take (Tryz.prog.cellsOf 23)) = xs[5]? := hg 5 _ rfl
    have g6 : DataW.trod enc Tryz.prog w base spare held n 4 (([c0, c1, c2, c3, c4, c5, c6].drop 6).take (Tryz.prog.cellsOf 4)) = xs[6]? := hg 6 _ rfl
    rw [show Tryz.prog.cellsOf 9 = 1 from by kernel_rfl] at g0
    rw [show Tryz.prog.cellsOf 48 = 1 from by kernel_rfl] at g1
    rw [show Tryz.prog.cellsOf 3 = 1 from by kernel_rfl] at g2
    rw [show Tryz.prog.cellsOf 49 = 1 from by kernel_rfl] at g3
    rw [show Tryz.prog.cellsOf 50 = 1 from by kernel_rfl] at g4
    rw [show Tryz.prog.cellsOf 23 = 1 from by kernel_rfl] at g5
    rw [show Tryz.prog.cellsOf 4 = 1 from by kernel_rfl] at g6
    match xs, hlen with
    | [y0, y1, y2, y3, y4, y5, y6], _ =>
      simp at g0 g1 g2 g3 g4 g5 g6
      obtain ⟨nm, e0, _, _⟩ := DataW.trod_string Tryz.underlying9 g0
      obtain ⟨AE, nE, cE, es, e1, hE, lE, hc, hc', hwE⟩ := edges_openW g1
      obtain ⟨gr, e2, _, _⟩ := DataW.trod_int Tryz.underlying3 g2
      obtain ⟨AN, nN, cN, ns, e3, hN, lN, _, _⟩ := notches_open g3
      obtain ⟨AC, nC, cC, cs, e4, hCc, lC, hcc, hcc', hwC⟩ := spots_openW g4
      obtain ⟨AW, nW, cW, ws, e5, hW, lW, _, _⟩ := ints_open' g5
      obtain ⟨mt, e6, _⟩ := DataW.trod_bool Tryz.underlying4 g6
      simp at e0 e1 e2 e3 e4 e5 e6
      subst e0 e1 e2 e3 e4 e5 e6
      refine ⟨nm, AE, nE, cE, gr, AN, nN, cN, AC, nC, cC, AW, nW, cW, mt, es, cs, ws, ns, rfl, ⟨hE, lE, hc, hc', hCc, lC, by omega, hW, lW, hN, lN, ?_, ?_⟩, hwE, hwC⟩
      · simp only [Value.okWide, Tryz.underlying52] at hrow
        obtain ⟨cs', e, _, ts, hts, _, hall⟩ := hrow
        injection e with e
        subst e
        obtain ⟨u, hu, hok⟩ := hall 5 _ rfl
        have : ts = [9, 48, 3, 49, 50, 23, 4] := Option.some.inj (hts.symm.trans (by kernel_rfl))
        subst this
        simp at hu
        subst hu
        exact okWide_plainA Tryz.underlying23 hok
      · simp only [Value.okWide, Tryz.underlying52] at hrow
        obtain ⟨cs', e, _, ts, hts, _, hall⟩ := hrow
        injection e with e
        subst e
        obtain ⟨u, hu, hok⟩ := hall 3 _ rfl
        have : ts = [9, 48, 3, 49, 50, 23, 4] := Option.some.inj (hts.symm.trans (by kernel_rfl))
        subst this
        simp at hu
        subst hu
        exact okWide_plainA Tryz.underlying49 hok
end
end Go.Proofs.YtkigmpholnfkbaaGreat
namespace Go.Proofs.YtkigmpholnfkbaaGreat
open Go.ChangeShapes Go.WideShapes Go.ChangeAt Go.RowKit Go.Deep Go.Joins
/- the numbers of a piece are numbers of the machine -/
structure WfP (p : Pc) : Prop where
  e : WfE p.es
  c : WfL p.cs
  n : WfL p.ns
section
variable {H : Type} {enc : TypeId × Value → H} {w : World} {base : Nat} {spare : Nat → Bool} {held : Bool}
theorem slice_trod {t e : TypeId} {n : Nat} {cs : List Value} {x : DataW H × List MemPlace} (ht : Tryz.prog.underlying t = some (.slice e)) (h : DataW.trod enc Tryz.prog w base spare held n t cs = some x) : ∃ A len c, cs = [.slice A len c] := by
  rcases open_slice ht h with ⟨rfl, _⟩ | ⟨a, len, cap, m, k, D, Pl, rfl, _⟩
  · exact ⟨none, 0, 0, rfl⟩
  · exact ⟨some a, len, cap, rfl⟩
theorem notches_openW {n : Nat} {cs : List Value} {x : DataW H × List MemPlace} (h : DataW.trod enc Tryz.prog w base spare held n 49 cs = some x) : ∃ A len c l, cs = [.slice A len c] ∧ SpotsAt w A l ∧ l.length = len ∧ len ≤ c ∧ c ≤ 9223372036854775807 ∧ WfL l :=
  pairs_openW Tryz.underlying49 Tryz.underlying95 rfl rfl rfl rfl (by kernel_rfl) (by kernel_rfl) h
set_option maxRecDepth 100000 in
theorem piece_trodW {n : Nat} {cs : List Value} {x : DataW H × List MemPlace} (h : DataW.trod enc Tryz.prog w base spare held n 52 cs = some x) : ∃ a p, cs = PcA.cells a ∧ PcAt w a p ∧ WfP p := by
  obtain ⟨xs, m, _, _, hlen, hl, hg⟩ := DataW.trod_struct Tryz.underlying52 h
  rw [show Tryz.prog.cellsOf 52 = 7 from by kernel_rfl] at hlen
  match cs, hlen with
  | [c0, c1, c2, c3, c4, c5, c6], _ =>
    have g0 : DataW.trod enc Tryz.prog w base spare held m 9 (([c0, c1, c2, c3, c4, c5, c6].drop 0).take (Tryz.prog.cellsOf 9)) = xs[0]? := hg 0 _ rfl
    have g1 : DataW.trod enc Tryz.prog w base spare held m 48 (([c0, c1, c2, c3, c4, c5, c6].drop 1).take (Tryz.prog.cellsOf 48)) = xs[1]? := hg 1 _ rfl
    have g2 : DataW.trod enc Tryz.prog w base spare held m 3 (([c0, c1, c2, c3, c4, c5, c6].drop 2).take (Tryz.prog.cellsOf 3)) = xs[2]? := hg 2 _ rfl
    have g3 : DataW.trod enc Tryz.prog w base spare held m 49 (([c0, c1, c2, c3, c4, c5, c6].drop 3).take (Tryz.prog.cellsOf 49)) = xs[3]? := hg 3 _ rfl
    have g4 : DataW.trod enc Tryz.prog w base spare held m 50 (([c0, c1, c2, c3, c4, c5, c6].drop 4).take (Tryz.prog.cellsOf 50)) = xs[4]? := hg 4 _ rfl
    have g5 : DataW.trod enc Tryz.prog w base spare held m 23 (([c0, c1, c2, c3, c4, c5, c6].drop 5).take (Tryz.prog.cellsOf 23)) = xs[5]? := hg 5 _ rfl
    have g6 : DataW.trod enc Tryz.prog w base spare held m 4 (([c0, c1, c2, c3, c4, c5, c6].drop 6).take (Tryz.prog.cellsOf 4)) = xs[6]? := hg 6 _ rfl
    rw [show Tryz.prog.cellsOf 9 = 1 from by kernel_rfl] at g0
    rw [show Tryz.prog.cellsOf 48 = 1 from by kernel_rfl] at g1
    rw [show Tryz.prog.cellsOf 3 = 1 from by kernel_rfl] at g2
    rw [show Tryz.prog.cellsOf 49 = 1 from by kernel_rfl] at g3
    rw [show Tryz.prog.cellsOf 50 = 1 from by kernel_rfl] at g4
    rw [show Tryz.prog.cellsOf 23 = 1 from by kernel_rfl] at g5
    rw [show Tryz.prog.cellsOf 4 = 1 from by kernel_rfl] at g6
    match xs, hl with
    | [y0, y1, y2, y3, y4, y5, y6], _ =>
      simp at g0 g1 g2 g3 g4 g5 g6
      obtain ⟨nm, e0, _, _⟩ := DataW.trod_string Tryz.underlying9 g0
      obtain ⟨AE, nE, cE, es, e1, hE, lE, hc, hc', hwE⟩ := edges_openW g1
      obtain ⟨gr, e2, _, _⟩ := DataW.trod_int Tryz.underlying3 g2
      obtain ⟨AN, nN, cN, ns, e3, hN, lN, hn, hn', hwN⟩ := notches_openW g3
      obtain ⟨AC, nC, cC, cs, e4, hCc, lC, hcc, hcc', hwC⟩ := spots_openW g4
      obtain ⟨AW, nW, cW, ws, e5, hW, lW, hww, hww'⟩ := ints_open' g5
      obtain ⟨mt, e6, _⟩ := DataW.trod_bool Tryz.underlying4 g6
      simp at e0 e1 e2 e3 e4 e5 e6
      subst e0 e1 e2 e3 e4 e5 e6
      exact ⟨⟨nm, AE, nE, cE, gr, AN, nN, cN, AC, nC, cC, AW, nW, cW, mt⟩, ⟨es, cs, ws, ns⟩, rfl, ⟨hE, lE, hc, hc', hCc, lC, by simp only; omega, hW, lW, hN, lN, by simp only; omega, by simp only; omega⟩, hwE, hwC, hwN⟩
set_option maxRecDepth 100000 in
theorem pieces_openW {n : Nat} {cs : List Value} {x : DataW H × List MemPlace} (h : DataW.trod enc Tryz.prog w base spare held n 24 cs = some x) : ∃ A len c l, cs = [.slice A len c] ∧ PiecesAt w A l ∧ l.length = len ∧ len ≤ c ∧ c ≤ 9223372036854775807 ∧ ∀ k, k < l.length → WfP (gPc l k) := by
  rcases open_slice Tryz.underlying24 h with ⟨rfl, _⟩ | ⟨a, len, cap, m, k, D, Pl, rfl, hb, hl, hm, hmm, _, hx⟩
  · exact ⟨none, 0, 0, [], rfl, PiecesAt.nil, rfl, Nat.le_refl _, by omega, fun _ hk => absurd hk (Nat.not_lt_zero _)⟩
  · rw [show Tryz.prog.cellsOf 52 = 7 from by kernel_rfl] at hx
    have hlm : len ≤ m := by rw [hmm]; split <;> omega
    have key : ∀ i, i < len → ∃ p : Pc, ∃ q : PcA, (∀ j u, (PcA.cells q)[j]? = some u → w.cell? (a.add (i * 7 + j)) = some u) ∧ PcAt w q p ∧ WfP p := fun i hi => by
      obtain ⟨cs', hc, ht'⟩ := hx i (by omega)
      obtain ⟨q, p, rfl, hs, hw⟩ := piece_trodW ht'
      obtain ⟨_, hlen, hat⟩ := World.cells?_some hc
      refine ⟨p, q, fun j u hu => ?_, hs, hw⟩
      have hj : j < 7 := by have := (List.getElem?_eq_some_iff.1 hu).1; simpa using this
      have := hat j hj
      rw [add_add] at this
      rw [this, hu]
    obtain ⟨f, hf⟩ := choose_lt key
    refine ⟨some a, len, cap, (List.range len).map f, rfl, fun k' hk => ?_, by simp, hl, by unfold maxLen at hm; omega, fun k' hk => by
      simp at hk
      obtain ⟨_, _, _, hw⟩ := hf k' hk
      rw [gPc_eq (by simpa using hk)]; simpa using hw⟩
    simp at hk
    obtain ⟨q, hc, hs, _⟩ := hf k' hk
    obtain ⟨q0, z0, _⟩ := hf 0 (by omega)
    obtain ⟨b, off, rfl⟩ := plain_of_cell (by simpa using z0 0 _ rfl)
    refine ⟨b, off, q, rfl, ?_, ?_⟩
    · rw [gPc_eq (by simpa using hk)]; simpa using hs
    · have hc' : ∀ j u, (PcA.cells q)[j]? = some u → w.cell? ⟨b, off + k' * 7 + j, none⟩ = some u := fun j u hu => by
        have := hc j u hu
        rwa [addr_add, ← Nat.add_assoc] at this
      exact ⟨hc' 0 _ rfl, hc' 1 _ rfl, hc' 2 _ rfl, hc' 3 _ rfl, hc' 4 _ rfl, hc' 5 _ rfl, hc' 6 _ rfl⟩
set_option maxRecDepth 100000 in
theorem seam_trod {n : Nat} {cs : List Value} {x : DataW H × List MemPlace} (h : DataW.trod enc Tryz.prog w base spare held n 80 cs = some x) : ∃ s : Sm, cs = [.int .i64 s.pa, .int .i64 s.ea, .int .i64 s.pb, .int .i64 s.eb, .bool s.rev, .int .i64 s.ease] := by
  obtain ⟨xs, m, _, _, hlen, hl, hg⟩ := DataW.trod_struct Tryz.underlying80 h
  rw [show Tryz.prog.cellsOf 80 = 6 from by kernel_rfl] at hlen
  match cs, hlen with
  | [c0, c1, c2, c3, c4, c5], _ =>
    have g0 : DataW.trod enc Tryz.prog w base spare held m 3 (([c0, c1, c2, c3, c4, c5].drop 0).take (Tryz.prog.cellsOf 3)) = xs[0]? := hg 0 _ rfl
    have g1 : DataW.trod enc Tryz.prog w base spare held m 3 (([c0, c1, c2, c3, c4, c5].drop 1).take (Tryz.prog.cellsOf 3)) = xs[1]? := hg 1 _ rfl
    have g2 : DataW.trod enc Tryz.prog w base spare held m 3 (([c0, c1, c2, c3, c4, c5].drop 2).take (Tryz.prog.cellsOf 3)) = xs[2]? := hg 2 _ rfl
    have g3 : DataW.trod enc Tryz.prog w base spare held m 3 (([c0, c1, c2, c3, c4, c5].drop 3).take (Tryz.prog.cellsOf 3)) = xs[3]? := hg 3 _ rfl
    have g4 : DataW.trod enc Tryz.prog w base spare held m 4 (([c0, c1, c2, c3, c4, c5].drop 4).take (Tryz.prog.cellsOf 4)) = xs[4]? := hg 4 _ rfl
    have g5 : DataW.trod enc Tryz.prog w base spare held m 3 (([c0, c1, c2, c3, c4, c5].drop 5).take (Tryz.prog.cellsOf 3)) = xs[5]? := hg 5 _ rfl
    rw [show Tryz.prog.cellsOf 3 = 1 from by kernel_rfl] at g0 g1 g2 g3 g5
    rw [show Tryz.prog.cellsOf 4 = 1 from by kernel_rfl] at g4
    match xs, hl with
    | [y0, y1, y2, y3, y4, y5], _ =>
      simp at g0 g1 g2 g3 g4 g5
      obtain ⟨pa, e0, _, _⟩ := DataW.trod_int Tryz.underlying3 g0
      obtain ⟨ea, e1, _, _⟩ := DataW.trod_int Tryz.underlying3 g1
      obtain ⟨pb, e2, _, _⟩ := DataW.trod_int Tryz.underlying3 g2
      obtain ⟨eb, e3, _, _⟩ := DataW.trod_int Tryz.underlying3 g3
      obtain ⟨rv, e4, _⟩ := DataW.trod_bool Tryz.underlying4 g4
      obtain ⟨es, e5, _, _⟩ := DataW.trod_int Tryz.underlying3 g5
      simp at e0 e1 e2 e3 e4 e5
      subst e0 e1 e2 e3 e4 e5
      exact ⟨⟨pa, ea, pb, eb, rv, es⟩, rfl⟩
set_option maxRecDepth 100000 in
theorem seams_open {n : Nat} {cs : List Value} {x : DataW H × List MemPlace} (h : DataW.trod enc Tryz.prog w base spare held n 26 cs = some x) : ∃ A len c l, cs = [.slice A len c] ∧ SeamsAt w A l ∧ l.length = len ∧ len ≤ c ∧ c ≤ 9223372036854775807 := by
  rcases open_slice Tryz.underlying26 h with ⟨rfl, _⟩ | ⟨a, len, cap, m, k, D, Pl, rfl, hb, hl, hm, hmm, _, hx⟩
  · exact ⟨none, 0, 0, [], rfl, SeamsAt.nil, rfl, Nat.le_refl _, by omega⟩
  · rw [show Tryz.prog.cellsOf 80 = 6 from by kernel_rfl] at hx
    have hlm : len ≤ m := by rw [hmm]; split <;> omega
    have key : ∀ i, i < len → ∃ s : Sm, (∀ j u, [Value.int .i64 s.pa, .int .i64 s.ea, .int .i64 s.pb, .int .i64 s.eb, .bool s.rev, .int .i64 s.ease][j]? = some u → w.cell? (a.add (i * 6 + j)) = some u) := fun i hi => by
      obtain ⟨cs', hc, ht'⟩ := hx i (by omega)
      obtain ⟨s, rfl⟩ := seam_trod ht'
      obtain ⟨_, hlen, hat⟩ := World.cells?_some hc
      refine ⟨s, fun j u hu => ?_⟩
      have hj : j < 6 := by have := (List.getElem?_eq_some_iff.1 hu).1; simpa using this
      have := hat j hj
      rw [add_add] at this
      rw [this, hu]
    obtain ⟨f, hf⟩ := choose_lt key
    refine ⟨some a, len, cap, (List.range len).map f, rfl, fun k' hk => ?_, by simp, hl, by unfold maxLen at hm; omega⟩
    simp at hk
    have hc := hf k' hk
    obtain ⟨b, off, rfl⟩ := plain_of_cell (by simpa using hf 0 (by omega) 0 _ rfl)
    refine ⟨b, off, rfl, ?_⟩
    have hc' : ∀ j u, [Value.int .i64 (f k').pa, .int .i64 (f k').ea, .int .i64 (f k').pb, .int .i64 (f k').eb, .bool (f k').rev, .int .i64 (f k').ease][j]? = some u → w.cell? ⟨b, off + k' * 6 + j, none⟩ = some u := fun j u hu => by
      have := hc j u hu
      rwa [addr_add, ← Nat.add_assoc] at this
    rw [show gSm ((List.range len).map f) k' = f k' by rw [gSm_eq (by simpa using hk)]; simp]
    exact ⟨hc' 0 _ rfl, hc' 1 _ rfl, hc' 2 _ rfl, hc' 3 _ rfl, hc' 4 _ rfl, hc' 5 _ rfl⟩
set_option maxRecDepth 100000 in
theorem style_open {r : Reach} {b0 : Nat} {v : Value} {d : DataW H} {p : List MemPlace} (hv : Value.okWide Tryz.prog w r b0 29 v) (h : DataW.Trod enc Tryz.prog w base spare held 29 v d p) :
    ∃ a s, v = StyA.val a ∧ StyAt w a s ∧ ∀ k, k < s.ps.length → WfP (gPc s.ps k) := by
  obtain ⟨cs, rfl, hsz⟩ := okWide_struct Tryz.underlying29 hv
  obtain ⟨l⟩ := cs
  have hC : Tryz.prog.cellsOf 29 = 7 := by kernel_rfl
  match l, hsz.trans hC with
  | [c0, c1, c2, c3, c4, c5, c6], _ =>
    obtain ⟨fuel, hf⟩ := h
    obtain ⟨xs, n, _, hx, _, hlen, hg⟩ := DataW.trod_struct Tryz.underlying29 hf
    have g0 : DataW.trod enc Tryz.prog w base spare held n 9 (([c0, c1, c2, c3, c4, c5, c6].drop 0).take (Tryz.prog.cellsOf 9)) = xs[0]? := hg 0 _ rfl
    have g1 : DataW.trod enc Tryz.prog w base spare held n 22 (([c0, c1, c2, c3, c4, c5, c6].drop 1).take (Tryz.prog.cellsOf 22)) = xs[1]? := hg 1 _ rfl
    have g2 : DataW.trod enc Tryz.prog w base spare held n 23 (([c0, c1, c2, c3, c4, c5, c6].drop 2).take (Tryz.prog.cellsOf 23)) = xs[2]? := hg 2 _ rfl
    have g3 : DataW.trod enc Tryz.prog w base spare held n 24 (([c0, c1, c2, c3, c4, c5, c6].drop 3).take (Tryz.prog.cellsOf 24)) = xs[3]? := hg 3 _ rfl
    have g4 : DataW.trod enc Tryz.prog w base spare held n 25 (([c0, c1, c2, c3, c4, c5, c6].drop 4).take (Tryz.prog.cellsOf 25)) = xs[4]? := hg 4 _ rfl
    have g5 : DataW.trod enc Tryz.prog w base spare held n 26 (([c0, c1, c2, c3, c4, c5, c6].drop 5).take (Tryz.prog.cellsOf 26)) = xs[5]? := hg 5 _ rfl
    have g6 : DataW.trod enc Tryz.prog w base spare held n 27 (([c0, c1, c2, c3, c4, c5, c6].drop 6).take (Tryz.prog.cellsOf 27)) = xs[6]? := hg 6 _ rfl
    rw [show Tryz.prog.cellsOf 9 = 1 from by kernel_rfl] at g0
    rw [show Tryz.prog.cellsOf 22 = 1 from by kernel_rfl] at g1
    rw [show Tryz.prog.cellsOf 23 = 1 from by kernel_rfl] at g2
    rw [show Tryz.prog.cellsOf 24 = 1 from by kernel_rfl] at g3
    rw [show Tryz.prog.cellsOf 25 = 1 from by kernel_rfl] at g4
    rw [show Tryz.prog.cellsOf 26 = 1 from by kernel_rfl] at g5
    rw [show Tryz.prog.cellsOf 27 = 1 from by kernel_rfl] at g6
    match xs, hlen with
    | [y0, y1, y2, y3, y4, y5, y6], _ =>
      simp at g0 g1 g2 g3 g4 g5 g6
      obtain ⟨nm, e0, _, _⟩ := DataW.trod_string Tryz.underlying9 g0
      obtain ⟨AS, nS, cS, e1⟩ := slice_trod Tryz.underlying22 g1
      obtain ⟨AM, nM, cM, ms, e2, hM, lM, hm1, hm2⟩ := ints_open' g2
      obtain ⟨AP, nP, cP, ps, e3, hP, lP, hp1, hp2, hwP⟩ := pieces_openW g3
      obtain ⟨AU, nU, cU, e4⟩ := slice_trod Tryz.underlying25 g4
      obtain ⟨AK, nK, cK, ss, e5, hK, lK, hk1, hk2⟩ := seams_open g5
      obtain ⟨AO, nO, cO, e6⟩ := slice_trod Tryz.underlying27 g6
      simp at e0 e1 e2 e3 e4 e5 e6
      subst e0 e1 e2 e3 e4 e5 e6
      exact ⟨⟨nm, AS, nS, cS, AM, nM, cM, AP, nP, cP, AU, nU, cU, AK, nK, cK, AO, nO, cO⟩, ⟨ms, ps, ss⟩, rfl, ⟨hM, hP, hK, lM, lP, lK, by simp only; omega, by simp only; omega, by simp only; omega⟩, hwP⟩
set_option maxRecDepth 100000 in
theorem spots_arg {r : Reach} {b0 : Nat} {v : Value} {d : DataW H} {p : List MemPlace} (hv : Value.okWide Tryz.prog w r b0 50 v) (h : DataW.Trod enc Tryz.prog w base spare held 50 v d p) : ∃ A n c l, v = .slice A n c ∧ SpotsAt w A l ∧ l.length = n ∧ n ≤ c ∧ c ≤ 9223372036854775807 ∧ WfL l := by
  obtain ⟨a, len, cap, rfl⟩ := okWide_slice Tryz.underlying50 hv
  obtain ⟨fuel, hf⟩ := h
  obtain ⟨A, n, c, l, e, hi, hl, h1, h2, hw⟩ := spots_openW hf
  simp [Value.cells] at e
  obtain ⟨rfl, rfl, rfl⟩ := e
  exact ⟨_, _, _, l, rfl, hi, hl, h1, h2, hw⟩
end
end Go.Proofs.YtkigmpholnfkbaaGreat
