/- The law TopPattern: for every input it returns true and leaves its arguments as they were. No conditions. -/
import Derived.ProofKit
import Derived.Deep.Slices
import Derived.Lib.SmallJoins
import Derived.OpenShut
import Derived.Test.YtfegbaokcbjllaaGreatRows
import Derived.Test.YtfegbaokcbjllaaGreatKLawTp
/- the arguments opened: pieces, turns, spots, numbers -/
namespace Go.Proofs.YtfegbaokcbjllaaGreat
open Go.ChangeShapes Go.WideShapes Go.ChangeAt Go.RowKit Go.Deep Go.Joins
theorem Tryz.own : ownKnob Tryz.prog.godebug = none := by kernel_rfl
theorem Tryz.laidOut : laidOutB Tryz.prog = true := by kernel_rfl
section
variable {H : Type} {enc : TypeId × Value → H} {w : World} {base : Nat} {spare : Nat → Bool} {held : Bool}
theorem plain_of_cell {a : Addr} {v : Value} (h : w.cell? (a.add 0) = some v) : ∃ b off, a = ⟨b, off, none⟩ := by
 obtain ⟨b, off, spot⟩ := a
 have hs : spot = none := by simpa [Addr.add] using World.cell?_spot h
 subst hs
 exact ⟨b, off, rfl⟩
set_option maxRecDepth 100000 in
theorem ints_open' {n : Nat} {cs : List Value} {x : DataW H × List MemPlace} (h : DataW.trod enc Tryz.prog w base spare held n 23 cs = some x) : ∃ A len c l, cs = [.slice A len c] ∧ IntsAt w A l ∧ l.length = len ∧ len ≤ c ∧ c ≤ 9223372036854775807 := by
 rcases open_slice1 Tryz.underlying23 (by kernel_rfl) h with ⟨rfl, _⟩ | ⟨a, len, cap, m, k, V, D, Pl, rfl, hb, hl, hm, hmm, _, hx⟩
 ·exact ⟨none, 0, 0, [], rfl, IntsAt.nil, rfl, Nat.le_refl _, by omega⟩
 ·have hlm : len ≤ m := by rw [hmm]; split <;> omega
  have key : ∀ i, i < len → ∃ s : Int, w.cell? (a.add i) = some (.int .i64 s) := fun i hi => by
   obtain ⟨hc, ht'⟩ := hx i (by omega)
   obtain ⟨s, es, _, _⟩ := DataW.trod_int Tryz.underlying3 ht'
   simp at es
   exact ⟨s, by rw [hc, es]⟩
  obtain ⟨f, hf⟩ := choose_lt key
  refine ⟨some a, len, cap, (List.range len).map f, rfl, fun k' hk => ?_, by simp, hl, by unfold maxLen at hm; omega⟩
  simp at hk
  have c0 := hf k' hk
  obtain ⟨b, off, rfl⟩ := plain_of_cell (hf 0 (by omega))
  rw [addr_add] at c0
  exact ⟨b, off, rfl, by simpa using c0⟩
end
theorem wf_range {n : Int} (h : (Lit.int .i64 n).wf = true) : -9223372036854775808 ≤ n ∧ n ≤ 9223372036854775807 := by
 have := bounds_i64 h
 omega
section
variable {H : Type} {enc : TypeId × Value → H} {w : World} {base : Nat} {spare : Nat → Bool} {held : Bool}
set_option maxRecDepth 100000 in
theorem pair_trodW {e : TypeId} {f0 f1 : Field} {n : Nat} {cs : List Value} {x : DataW H × List MemPlace} (he : Tryz.prog.underlying e = some (.struct #[f0, f1])) (h0 : f0.type = 3) (h1 : f1.type = 3) (o0 : f0.offset = 0) (o1 : f1.offset = 1) (hC : Tryz.prog.cellsOf e = 2) (hI : Tryz.prog.cellsOf 3 = 1)
  (h : DataW.trod enc Tryz.prog w base spare held n e cs = some x) : ∃ s : Spot, cs = [.int .i64 s.1, .int .i64 s.2] ∧ wfS s := by
 obtain ⟨xs, m, _, _, hlen, hl, hg⟩ := DataW.trod_struct he h
 rw [hC] at hlen
 match cs, hlen with
 |[c0, c1], _ =>
  have g0 := hg 0 f0 rfl
  have g1 := hg 1 f1 rfl
  rw [o0, h0, hI] at g0
  rw [o1, h1, hI] at g1
  match xs, hl with
  |[y0, y1], _ =>
   simp at g0 g1
   obtain ⟨a, ea, _, wa⟩ := DataW.trod_int Tryz.underlying3 g0
   obtain ⟨b, eb, _, wb⟩ := DataW.trod_int Tryz.underlying3 g1
   simp at ea eb
   exact ⟨(a, b), by rw [ea, eb], (wf_range wa).1, (wf_range wa).2, (wf_range wb).1, (wf_range wb).2⟩
set_option maxRecDepth 100000 in
theorem pairs_openW {t e : TypeId} {f0 f1 : Field} {n : Nat} {cs : List Value} {x : DataW H × List MemPlace} (ht : Tryz.prog.underlying t = some (.slice e)) (he : Tryz.prog.underlying e = some (.struct #[f0, f1])) (h0 : f0.type = 3) (h1 : f1.type = 3) (o0 : f0.offset = 0) (o1 : f1.offset = 1) (hC : Tryz.prog.cellsOf e = 2) (hI : Tryz.prog.cellsOf 3 = 1)
  (h : DataW.trod enc Tryz.prog w base spare held n t cs = some x) : ∃ A len c l, cs = [.slice A len c] ∧ SpotsAt w A l ∧ l.length = len ∧ len ≤ c ∧ c ≤ 9223372036854775807 ∧ WfL l := by
 rcases open_slice ht h with ⟨rfl, _⟩ | ⟨a, len, cap, m, k, D, Pl, rfl, hb, hl, hm, hmm, _, hx⟩
 ·exact ⟨none, 0, 0, [], rfl, SpotsAt.nil, rfl, Nat.le_refl _, by omega, fun _ hk => absurd hk (Nat.not_lt_zero _)⟩
 ·rw [hC] at hx
  have hlm : len ≤ m := by rw [hmm]; split <;> omega
  have key : ∀ i, i < len → ∃ s : Spot, w.cell? (a.add (i * 2)) = some (.int .i64 s.1) ∧ w.cell? (a.add (i * 2 + 1)) = some (.int .i64 s.2) ∧ wfS s := fun i hi => by
   obtain ⟨cs', hc, ht'⟩ := hx i (by omega)
   obtain ⟨s, rfl, hw⟩ := pair_trodW he h0 h1 o0 o1 hC hI ht'
   obtain ⟨_, _, hat⟩ := World.cells?_some hc
   have a0 := hat 0 (by omega)
   have a1 := hat 1 (by omega)
   rw [add_add] at a0 a1
   exact ⟨s, by simpa using a0, by simpa using a1, hw⟩
  obtain ⟨f, hf⟩ := choose_lt key
  refine ⟨some a, len, cap, (List.range len).map f, rfl, fun k' hk => ?_, by simp, hl, by unfold maxLen at hm; omega, fun k' hk => by simp at hk; rw [gS_eq (by simpa using hk)]; simpa using (hf k' hk).2.2⟩
  simp at hk
  obtain ⟨c0, c1, _⟩ := hf k' hk
  obtain ⟨b, off, rfl⟩ := plain_of_cell (by simpa using (hf 0 (by omega)).1)
  rw [addr_add] at c0 c1
  refine ⟨b, off, rfl, ?_, ?_⟩
  ·simpa using c0
  ·rw [Nat.add_assoc]; simpa using c1
set_option maxRecDepth 100000 in
theorem spots_openW {n : Nat} {cs : List Value} {x : DataW H × List MemPlace} (h : DataW.trod enc Tryz.prog w base spare held n 38 cs = some x) : ∃ A len c l, cs = [.slice A len c] ∧ SpotsAt w A l ∧ l.length = len ∧ len ≤ c ∧ c ≤ 9223372036854775807 ∧ WfL l :=
 pairs_openW Tryz.underlying38 Tryz.underlying49 rfl rfl rfl rfl (by kernel_rfl) (by kernel_rfl) h
set_option maxRecDepth 100000 in
theorem edge_trodW {n : Nat} {cs : List Value} {x : DataW H × List MemPlace} (h : DataW.trod enc Tryz.prog w base spare held n 59 cs = some x) :
  ∃ (nm : ByteArray) (L : Option Addr) (c : Nat) (l : List Spot), cs = [.string nm, .slice L l.length c] ∧ SpotsAt w L l ∧ l.length ≤ c ∧ c ≤ 9223372036854775807 ∧ WfL l := by
 obtain ⟨xs, m, _, _, hlen, hl, hg⟩ := DataW.trod_struct Tryz.underlying59 h
 rw [show Tryz.prog.cellsOf 59 = 2 from by kernel_rfl] at hlen
 match cs, hlen with
 |[c0, c1], _ =>
  have g0 : DataW.trod enc Tryz.prog w base spare held m 9 (([c0, c1].drop 0).take (Tryz.prog.cellsOf 9)) = xs[0]? := hg 0 _ rfl
  have g1 : DataW.trod enc Tryz.prog w base spare held m 38 (([c0, c1].drop 1).take (Tryz.prog.cellsOf 38)) = xs[1]? := hg 1 _ rfl
  rw [show Tryz.prog.cellsOf 9 = 1 from by kernel_rfl] at g0
  rw [show Tryz.prog.cellsOf 38 = 1 from by kernel_rfl] at g1
  match xs, hl with
  |[y0, y1], _ =>
   simp at g0 g1
   obtain ⟨a, ea, _, _⟩ := DataW.trod_string Tryz.underlying9 g0
   obtain ⟨A, len, c, l, eb, hs, hln, h1, h2, hw⟩ := spots_openW g1
   simp at ea eb
   subst hln
   exact ⟨a, A, c, l, by rw [ea, eb], hs, h1, h2, hw⟩
set_option maxRecDepth 100000 in
theorem edges_openW {n : Nat} {cs : List Value} {x : DataW H × List MemPlace} (h : DataW.trod enc Tryz.prog w base spare held n 36 cs = some x) : ∃ A len c l, cs = [.slice A len c] ∧ EdgesAt w A l ∧ l.length = len ∧ len ≤ c ∧ c ≤ 9223372036854775807 ∧ WfE l := by
 rcases open_slice Tryz.underlying36 h with ⟨rfl, _⟩ | ⟨a, len, cap, m, k, D, Pl, rfl, hb, hl, hm, hmm, _, hx⟩
 ·exact ⟨none, 0, 0, [], rfl, EdgesAt.nil, rfl, Nat.le_refl _, by omega, fun _ hk => absurd hk (Nat.not_lt_zero _)⟩
 ·rw [show Tryz.prog.cellsOf 59 = 2 from by kernel_rfl] at hx
  have hlm : len ≤ m := by rw [hmm]; split <;> omega
  have key : ∀ i, i < len → ∃ e : Edge, ∃ (L : Option Addr) (c : Nat), w.cell? (a.add (i * 2)) = some (.string e.1) ∧ w.cell? (a.add (i * 2 + 1)) = some (.slice L e.2.length c) ∧ SpotsAt w L e.2 ∧ e.2.length ≤ c ∧ c ≤ 9223372036854775807 ∧ WfL e.2 := fun i hi => by
   obtain ⟨cs', hc, ht'⟩ := hx i (by omega)
   obtain ⟨nm, L, c, l, rfl, hs, h1, h2, hw⟩ := edge_trodW ht'
   obtain ⟨_, _, hat⟩ := World.cells?_some hc
   have a0 := hat 0 (by omega)
   have a1 := hat 1 (by omega)
   rw [add_add] at a0 a1
   exact ⟨(nm, l), L, c, by simpa using a0, by simpa using a1, hs, h1, h2, hw⟩
  obtain ⟨f, hf⟩ := choose_lt key
  refine ⟨some a, len, cap, (List.range len).map f, rfl, fun k' hk => ?_, by simp, hl, by unfold maxLen at hm; omega, fun k' hk => by
   simp at hk
   obtain ⟨_, _, _, _, _, _, _, hw⟩ := hf k' hk
   rw [gE_eq (by simpa using hk)]; simpa using hw⟩
  simp at hk
  obtain ⟨L, c, c0, c1, hs, h1, h2, _⟩ := hf k' hk
  obtain ⟨_, _, z0, _⟩ := hf 0 (by omega)
  obtain ⟨b, off, rfl⟩ := plain_of_cell (by simpa using z0)
  rw [addr_add] at c0 c1
  refine ⟨b, off, L, c, rfl, ?_, ?_, ?_, ?_, h2⟩
  ·simpa using c0
  ·rw [Nat.add_assoc]; simpa using c1
  ·simpa using hs
  ·simpa using h1
end
/- the numbers of a piece are numbers of the machine -/
structure WfP (p : Pc) : Prop where
 e : WfE p.es
 c : WfL p.cs
 n : WfL p.ns
section
variable {H : Type} {enc : TypeId × Value → H} {w : World} {base : Nat} {spare : Nat → Bool} {held : Bool}
theorem notches_openW {n : Nat} {cs : List Value} {x : DataW H × List MemPlace} (h : DataW.trod enc Tryz.prog w base spare held n 37 cs = some x) : ∃ A len c l, cs = [.slice A len c] ∧ SpotsAt w A l ∧ l.length = len ∧ len ≤ c ∧ c ≤ 9223372036854775807 ∧ WfL l :=
 pairs_openW Tryz.underlying37 Tryz.underlying79 rfl rfl rfl rfl (by kernel_rfl) (by kernel_rfl) h
set_option maxRecDepth 100000 in
theorem piece_trodW {n : Nat} {cs : List Value} {x : DataW H × List MemPlace} (h : DataW.trod enc Tryz.prog w base spare held n 40 cs = some x) : ∃ a p, cs = PcA.cells a ∧ PcAt w a p ∧ WfP p := by
 obtain ⟨xs, m, _, _, hlen, hl, hg⟩ := DataW.trod_struct Tryz.underlying40 h
 rw [show Tryz.prog.cellsOf 40 = 7 from by kernel_rfl] at hlen
 match cs, hlen with
 |[c0, c1, c2, c3, c4, c5, c6], _ =>
  have g0 : DataW.trod enc Tryz.prog w base spare held m 9 (([c0, c1, c2, c3, c4, c5, c6].drop 0).take (Tryz.prog.cellsOf 9)) = xs[0]? := hg 0 _ rfl
  have g1 : DataW.trod enc Tryz.prog w base spare held m 36 (([c0, c1, c2, c3, c4, c5, c6].drop 1).take (Tryz.prog.cellsOf 36)) = xs[1]? := hg 1 _ rfl
  have g2 : DataW.trod enc Tryz.prog w base spare held m 3 (([c0, c1, c2, c3, c4, c5, c6].drop 2).take (Tryz.prog.cellsOf 3)) = xs[2]? := hg 2 _ rfl
  have g3 : DataW.trod enc Tryz.prog w base spare held m 37 (([c0, c1, c2, c3, c4, c5, c6].drop 3).take (Tryz.prog.cellsOf 37)) = xs[3]? := hg 3 _ rfl
  have g4 : DataW.trod enc Tryz.prog w base spare held m 38 (([c0, c1, c2, c3, c4, c5, c6].drop 4).take (Tryz.prog.cellsOf 38)) = xs[4]? := hg 4 _ rfl
  have g5 : DataW.trod enc Tryz.prog w base spare held m 23 (([c0, c1, c2, c3, c4, c5, c6].drop 5).take (Tryz.prog.cellsOf 23)) = xs[5]? := hg 5 _ rfl
  have g6 : DataW.trod enc Tryz.prog w base spare held m 4 (([c0, c1, c2, c3, c4, c5, c6].drop 6).take (Tryz.prog.cellsOf 4)) = xs[6]? := hg 6 _ rfl
  rw [show Tryz.prog.cellsOf 9 = 1 from by kernel_rfl] at g0
  rw [show Tryz.prog.cellsOf 36 = 1 from by kernel_rfl] at g1
  rw [show Tryz.prog.cellsOf 3 = 1 from by kernel_rfl] at g2
  rw [show Tryz.prog.cellsOf 37 = 1 from by kernel_rfl] at g3
  rw [show Tryz.prog.cellsOf 38 = 1 from by kernel_rfl] at g4
  rw [show Tryz.prog.cellsOf 23 = 1 from by kernel_rfl] at g5
  rw [show Tryz.prog.cellsOf 4 = 1 from by kernel_rfl] at g6
  match xs, hl with
  |[y0, y1, y2, y3, y4, y5, y6], _ =>
   simp at g0 g1 g2 g3 g4 g5 g6
   obtain ⟨nm, e0, _, _⟩ := DataW.trod_string Tryz.underlying9 g0
   obtain ⟨AE, nE, cE, es, e1, hE, lE, hc, hc', hwE⟩ := edges_openW g1
   obtain ⟨gr, e2, _, _⟩ := DataW.trod_int Tryz.underlying3 g2
   obtain ⟨AN, nN, cN, ns, e3, hN, lN, hn, hn', hwN⟩ := notches_openW g3
   obtain ⟨AC, nC, cC, cs, e4, hCc, lC, hcc, hcc', hwC⟩ := spots_openW g4
   obtain ⟨AW, nW, cW, ws, e5, hW, lW, hww, hww'⟩ := ints_open' g5
   obtain ⟨mt, e6, _⟩ := DataW.trod_bool Tryz.underlying4 g6
   simp at e0 e1 e2 e3 e4 e5 e6
   subst e0 e1 e2 e3 e4 e5 e6
   exact ⟨⟨nm, AE, nE, cE, gr, AN, nN, cN, AC, nC, cC, AW, nW, cW, mt⟩, ⟨es, cs, ws, ns⟩, rfl, ⟨hE, lE, hc, hc', hCc, lC, by simp only; omega, hW, lW, hN, lN, by simp only; omega, by simp only; omega⟩, hwE, hwC, hwN⟩
set_option maxRecDepth 100000 in
theorem pieces_openW {n : Nat} {cs : List Value} {x : DataW H × List MemPlace} (h : DataW.trod enc Tryz.prog w base spare held n 24 cs = some x) : ∃ A len c l, cs = [.slice A len c] ∧ PiecesAt w A l ∧ l.length = len ∧ len ≤ c ∧ c ≤ 9223372036854775807 ∧ ∀ k, k < l.length → WfP (gPc l k) := by
 rcases open_slice Tryz.underlying24 h with ⟨rfl, _⟩ | ⟨a, len, cap, m, k, D, Pl, rfl, hb, hl, hm, hmm, _, hx⟩
 ·exact ⟨none, 0, 0, [], rfl, PiecesAt.nil, rfl, Nat.le_refl _, by omega, fun _ hk => absurd hk (Nat.not_lt_zero _)⟩
 ·rw [show Tryz.prog.cellsOf 40 = 7 from by kernel_rfl] at hx
  have hlm : len ≤ m := by rw [hmm]; split <;> omega
  have key : ∀ i, i < len → ∃ p : Pc, ∃ q : PcA, (∀ j u, (PcA.cells q)[j]? = some u → w.cell? (a.add (i * 7 + j)) = some u) ∧ PcAt w q p ∧ WfP p := fun i hi => by
   obtain ⟨cs', hc, ht'⟩ := hx i (by omega)
   obtain ⟨q, p, rfl, hs, hw⟩ := piece_trodW ht'
   obtain ⟨_, hlen, hat⟩ := World.cells?_some hc
   refine ⟨p, q, fun j u hu => ?_, hs, hw⟩
   have hj : j < 7 := by have := (List.getElem?_eq_some_iff.1 hu).1; simpa using this
   have := hat j hj
   rw [add_add] at this
   rw [this, hu]
  obtain ⟨f, hf⟩ := choose_lt key
  refine ⟨some a, len, cap, (List.range len).map f, rfl, fun k' hk => ?_, by simp, hl, by unfold maxLen at hm; omega, fun k' hk => by
   simp at hk
   obtain ⟨_, _, _, hw⟩ := hf k' hk
   rw [gPc_eq (by simpa using hk)]; simpa using hw⟩
  simp at hk
  obtain ⟨q, hc, hs, _⟩ := hf k' hk
  obtain ⟨q0, z0, _⟩ := hf 0 (by omega)
  obtain ⟨b, off, rfl⟩ := plain_of_cell (by simpa using z0 0 _ rfl)
  refine ⟨b, off, q, rfl, ?_, ?_⟩
  ·rw [gPc_eq (by simpa using hk)]; simpa using hs
  ·have hc' : ∀ j u, (PcA.cells q)[j]? = some u → w.cell? ⟨b, off + k' * 7 + j, none⟩ = some u := fun j u hu => by
    have := hc j u hu
    rwa [addr_add, ← Nat.add_assoc] at this
   exact ⟨hc' 0 _ rfl, hc' 1 _ rfl, hc' 2 _ rfl, hc' 3 _ rfl, hc' 4 _ rfl, hc' 5 _ rfl, hc' 6 _ rfl⟩
set_option maxRecDepth 100000 in
theorem seam_trod {n : Nat} {cs : List Value} {x : DataW H × List MemPlace} (h : DataW.trod enc Tryz.prog w base spare held n 71 cs = some x) : ∃ s : Sm, cs = [.int .i64 s.pa, .int .i64 s.ea, .int .i64 s.pb, .int .i64 s.eb, .bool s.rev, .int .i64 s.ease] := by
 obtain ⟨xs, m, _, _, hlen, hl, hg⟩ := DataW.trod_struct Tryz.underlying71 h
 rw [show Tryz.prog.cellsOf 71 = 6 from by kernel_rfl] at hlen
 match cs, hlen with
 |[c0, c1, c2, c3, c4, c5], _ =>
  have g0 : DataW.trod enc Tryz.prog w base spare held m 3 (([c0, c1, c2, c3, c4, c5].drop 0).take (Tryz.prog.cellsOf 3)) = xs[0]? := hg 0 _ rfl
  have g1 : DataW.trod enc Tryz.prog w base spare held m 3 (([c0, c1, c2, c3, c4, c5].drop 1).take (Tryz.prog.cellsOf 3)) = xs[1]? := hg 1 _ rfl
  have g2 : DataW.trod enc Tryz.prog w base spare held m 3 (([c0, c1, c2, c3, c4, c5].drop 2).take (Tryz.prog.cellsOf 3)) = xs[2]? := hg 2 _ rfl
  have g3 : DataW.trod enc Tryz.prog w base spare held m 3 (([c0, c1, c2, c3, c4, c5].drop 3).take (Tryz.prog.cellsOf 3)) = xs[3]? := hg 3 _ rfl
  have g4 : DataW.trod enc Tryz.prog w base spare held m 4 (([c0, c1, c2, c3, c4, c5].drop 4).take (Tryz.prog.cellsOf 4)) = xs[4]? := hg 4 _ rfl
  have g5 : DataW.trod enc Tryz.prog w base spare held m 3 (([c0, c1, c2, c3, c4, c5].drop 5).take (Tryz.prog.cellsOf 3)) = xs[5]? := hg 5 _ rfl
  rw [show Tryz.prog.cellsOf 3 = 1 from by kernel_rfl] at g0 g1 g2 g3 g5
  rw [show Tryz.prog.cellsOf 4 = 1 from by kernel_rfl] at g4
  match xs, hl with
  |[y0, y1, y2, y3, y4, y5], _ =>
   simp at g0 g1 g2 g3 g4 g5
   obtain ⟨pa, e0, _, _⟩ := DataW.trod_int Tryz.underlying3 g0
   obtain ⟨ea, e1, _, _⟩ := DataW.trod_int Tryz.underlying3 g1
   obtain ⟨pb, e2, _, _⟩ := DataW.trod_int Tryz.underlying3 g2
   obtain ⟨eb, e3, _, _⟩ := DataW.trod_int Tryz.underlying3 g3
   obtain ⟨rv, e4, _⟩ := DataW.trod_bool Tryz.underlying4 g4
   obtain ⟨es, e5, _, _⟩ := DataW.trod_int Tryz.underlying3 g5
   simp at e0 e1 e2 e3 e4 e5
   subst e0 e1 e2 e3 e4 e5
   exact ⟨⟨pa, ea, pb, eb, rv, es⟩, rfl⟩
set_option maxRecDepth 100000 in
theorem seams_open {n : Nat} {cs : List Value} {x : DataW H × List MemPlace} (h : DataW.trod enc Tryz.prog w base spare held n 26 cs = some x) : ∃ A len c l, cs = [.slice A len c] ∧ SeamsAt w A l ∧ l.length = len ∧ len ≤ c ∧ c ≤ 9223372036854775807 := by
 rcases open_slice Tryz.underlying26 h with ⟨rfl, _⟩ | ⟨a, len, cap, m, k, D, Pl, rfl, hb, hl, hm, hmm, _, hx⟩
 ·exact ⟨none, 0, 0, [], rfl, SeamsAt.nil, rfl, Nat.le_refl _, by omega⟩
 ·rw [show Tryz.prog.cellsOf 71 = 6 from by kernel_rfl] at hx
  have hlm : len ≤ m := by rw [hmm]; split <;> omega
  have key : ∀ i, i < len → ∃ s : Sm, (∀ j u, [Value.int .i64 s.pa, .int .i64 s.ea, .int .i64 s.pb, .int .i64 s.eb, .bool s.rev, .int .i64 s.ease][j]? = some u → w.cell? (a.add (i * 6 + j)) = some u) := fun i hi => by
   obtain ⟨cs', hc, ht'⟩ := hx i (by omega)
   obtain ⟨s, rfl⟩ := seam_trod ht'
   obtain ⟨_, hlen, hat⟩ := World.cells?_some hc
   refine ⟨s, fun j u hu => ?_⟩
   have hj : j < 6 := by have := (List.getElem?_eq_some_iff.1 hu).1; simpa using this
   have := hat j hj
   rw [add_add] at this
   rw [this, hu]
  obtain ⟨f, hf⟩ := choose_lt key
  refine ⟨some a, len, cap, (List.range len).map f, rfl, fun k' hk => ?_, by simp, hl, by unfold maxLen at hm; omega⟩
  simp at hk
  have hc := hf k' hk
  obtain ⟨b, off, rfl⟩ := plain_of_cell (by simpa using hf 0 (by omega) 0 _ rfl)
  refine ⟨b, off, rfl, ?_⟩
  have hc' : ∀ j u, [Value.int .i64 (f k').pa, .int .i64 (f k').ea, .int .i64 (f k').pb, .int .i64 (f k').eb, .bool (f k').rev, .int .i64 (f k').ease][j]? = some u → w.cell? ⟨b, off + k' * 6 + j, none⟩ = some u := fun j u hu => by
   have := hc j u hu
   rwa [addr_add, ← Nat.add_assoc] at this
  rw [show gSm ((List.range len).map f) k' = f k' by rw [gSm_eq (by simpa using hk)]; simp]
  exact ⟨hc' 0 _ rfl, hc' 1 _ rfl, hc' 2 _ rfl, hc' 3 _ rfl, hc' 4 _ rfl, hc' 5 _ rfl⟩
end
section
variable {H : Type} {enc : TypeId × Value → H} {w : World} {base : Nat} {spare : Nat → Bool} {held : Bool}
set_option maxRecDepth 100000 in
theorem strings_open {n : Nat} {cs : List Value} {x : DataW H × List MemPlace} (h : DataW.trod enc Tryz.prog w base spare held n 22 cs = some x) : ∃ A len c l, cs = [.slice A len c] ∧ StrsAt w A l ∧ l.length = len ∧ len ≤ c ∧ c ≤ 9223372036854775807 := by
 rcases open_slice1 Tryz.underlying22 (by kernel_rfl) h with ⟨rfl, _⟩ | ⟨a, len, cap, m, k, V, D, Pl, rfl, hb, hl, hm, hmm, _, hx⟩
 ·exact ⟨none, 0, 0, [], rfl, fun _ hk => absurd hk (Nat.not_lt_zero _), rfl, Nat.le_refl _, by omega⟩
 ·have hlm : len ≤ m := by rw [hmm]; split <;> omega
  have key : ∀ i, i < len → ∃ s : ByteArray, w.cell? (a.add i) = some (.string s) := fun i hi => by
   obtain ⟨hc, ht'⟩ := hx i (by omega)
   obtain ⟨s, es, _, _⟩ := DataW.trod_string Tryz.underlying9 ht'
   simp at es
   exact ⟨s, by rw [hc, es]⟩
  obtain ⟨f, hf⟩ := choose_lt key
  refine ⟨some a, len, cap, (List.range len).map f, rfl, fun k' hk => ?_, by simp, hl, by unfold maxLen at hm; omega⟩
  simp at hk
  have c0 := hf k' hk
  obtain ⟨b, off, rfl⟩ := plain_of_cell (hf 0 (by omega))
  rw [addr_add] at c0
  exact ⟨b, off, rfl, by rw [c0, gB_eq (by simpa using hk)]; simp⟩
set_option maxRecDepth 100000 in
theorem use_trod {n : Nat} {cs : List Value} {x : DataW H × List MemPlace} (h : DataW.trod enc Tryz.prog w base spare held n 69 cs = some x) : ∃ s : UsX, cs = [.int .i64 s.pc, .int .i64 s.ct, .bool s.pr] := by
 obtain ⟨xs, m, _, _, hlen, hl, hg⟩ := DataW.trod_struct Tryz.underlying69 h
 rw [show Tryz.prog.cellsOf 69 = 3 from by kernel_rfl] at hlen
 match cs, hlen with
 |[c0, c1, c2], _ =>
  have g0 : DataW.trod enc Tryz.prog w base spare held m 3 (([c0, c1, c2].drop 0).take (Tryz.prog.cellsOf 3)) = xs[0]? := hg 0 _ rfl
  have g1 : DataW.trod enc Tryz.prog w base spare held m 3 (([c0, c1, c2].drop 1).take (Tryz.prog.cellsOf 3)) = xs[1]? := hg 1 _ rfl
  have g2 : DataW.trod enc Tryz.prog w base spare held m 4 (([c0, c1, c2].drop 2).take (Tryz.prog.cellsOf 4)) = xs[2]? := hg 2 _ rfl
  rw [show Tryz.prog.cellsOf 3 = 1 from by kernel_rfl] at g0 g1
  rw [show Tryz.prog.cellsOf 4 = 1 from by kernel_rfl] at g2
  match xs, hl with
  |[y0, y1, y2], _ =>
   simp at g0 g1 g2
   obtain ⟨pc, e0, _, _⟩ := DataW.trod_int Tryz.underlying3 g0
   obtain ⟨ct, e1, _, _⟩ := DataW.trod_int Tryz.underlying3 g1
   obtain ⟨pr, e2, _⟩ := DataW.trod_bool Tryz.underlying4 g2
   simp at e0 e1 e2
   subst e0 e1 e2
   exact ⟨⟨pc, ct, pr⟩, rfl⟩
set_option maxRecDepth 100000 in
theorem uses_open {n : Nat} {cs : List Value} {x : DataW H × List MemPlace} (h : DataW.trod enc Tryz.prog w base spare held n 25 cs = some x) : ∃ A len c l, cs = [.slice A len c] ∧ UsesAt w A l ∧ l.length = len ∧ len ≤ c ∧ c ≤ 9223372036854775807 := by
 rcases open_slice Tryz.underlying25 h with ⟨rfl, _⟩ | ⟨a, len, cap, m, k, D, Pl, rfl, hb, hl, hm, hmm, _, hx⟩
 ·exact ⟨none, 0, 0, [], rfl, fun _ hk => absurd hk (Nat.not_lt_zero _), rfl, Nat.le_refl _, by omega⟩
 ·rw [show Tryz.prog.cellsOf 69 = 3 from by kernel_rfl] at hx
  have hlm : len ≤ m := by rw [hmm]; split <;> omega
  have key : ∀ i, i < len → ∃ s : UsX, (∀ j u, [Value.int .i64 s.pc, .int .i64 s.ct, .bool s.pr][j]? = some u → w.cell? (a.add (i * 3 + j)) = some u) := fun i hi => by
   obtain ⟨cs', hc, ht'⟩ := hx i (by omega)
   obtain ⟨s, rfl⟩ := use_trod ht'
   obtain ⟨_, hlen, hat⟩ := World.cells?_some hc
   refine ⟨s, fun j u hu => ?_⟩
   have hj : j < 3 := by have := (List.getElem?_eq_some_iff.1 hu).1; simpa using this
   have := hat j hj
   rw [add_add] at this
   rw [this, hu]
  obtain ⟨f, hf⟩ := choose_lt key
  refine ⟨some a, len, cap, (List.range len).map f, rfl, fun k' hk => ?_, by simp, hl, by unfold maxLen at hm; omega⟩
  simp at hk
  have hc := hf k' hk
  obtain ⟨b, off, rfl⟩ := plain_of_cell (by simpa using hf 0 (by omega) 0 _ rfl)
  refine ⟨b, off, rfl, ?_⟩
  have hc' : ∀ j u, [Value.int .i64 (f k').pc, .int .i64 (f k').ct, .bool (f k').pr][j]? = some u → w.cell? ⟨b, off + k' * 3 + j, none⟩ = some u := fun j u hu => by
   have := hc j u hu
   rwa [addr_add, ← Nat.add_assoc] at this
  rw [show gU ((List.range len).map f) k' = f k' by unfold gU; simp [hk]]
  exact ⟨hc' 0 _ rfl, hc' 1 _ rfl, hc' 2 _ rfl⟩
set_option maxRecDepth 100000 in
theorem piecesX_open {n : Nat} {cs : List Value} {x : DataW H × List MemPlace} (h : DataW.trod enc Tryz.prog w base spare held n 24 cs = some x) : ∃ A len c l, cs = [.slice A len c] ∧ PiecesX w A l ∧ l.length = len ∧ len ≤ c ∧ c ≤ 9223372036854775807 ∧ ∀ k, k < l.length → WfP (gPx l k).p := by
 rcases open_slice Tryz.underlying24 h with ⟨rfl, _⟩ | ⟨a, len, cap, m, k, D, Pl, rfl, hb, hl, hm, hmm, _, hx⟩
 ·exact ⟨none, 0, 0, [], rfl, fun _ hk => absurd hk (Nat.not_lt_zero _), rfl, Nat.le_refl _, by omega, fun _ hk => absurd hk (Nat.not_lt_zero _)⟩
 ·rw [show Tryz.prog.cellsOf 40 = 7 from by kernel_rfl] at hx
  have hlm : len ≤ m := by rw [hmm]; split <;> omega
  have key : ∀ i, i < len → ∃ X : PcX, ∃ q : PcA, (∀ j u, (PcA.cells q)[j]? = some u → w.cell? (a.add (i * 7 + j)) = some u) ∧ PcAt w q X.p ∧ WfP X.p ∧ q.nm = X.nm ∧ q.gr = X.gr := fun i hi => by
   obtain ⟨cs', hc, ht'⟩ := hx i (by omega)
   obtain ⟨q, p, rfl, hs, hw⟩ := piece_trodW ht'
   obtain ⟨_, hlen, hat⟩ := World.cells?_some hc
   refine ⟨⟨q.nm, q.gr, p⟩, q, fun j u hu => ?_, hs, hw, rfl, rfl⟩
   have hj : j < 7 := by have := (List.getElem?_eq_some_iff.1 hu).1; simpa using this
   have := hat j hj
   rw [add_add] at this
   rw [this, hu]
  obtain ⟨f, hf⟩ := choose_lt key
  refine ⟨some a, len, cap, (List.range len).map f, rfl, fun k' hk => ?_, by simp, hl, by unfold maxLen at hm; omega, fun k' hk => by
   simp at hk
   obtain ⟨_, _, _, hw, _⟩ := hf k' hk
   rw [gPx_eq (by simpa using hk)]; simpa using hw⟩
  simp at hk
  obtain ⟨q, hc, hs, _, h1, h2⟩ := hf k' hk
  obtain ⟨q0, z0, _⟩ := hf 0 (by omega)
  obtain ⟨b, off, rfl⟩ := plain_of_cell (by simpa using z0 0 _ rfl)
  have e : gPx ((List.range len).map f) k' = f k' := by rw [gPx_eq (by simpa using hk)]; simp
  refine ⟨b, off, q, rfl, by rw [e]; exact hs, ?_, by rw [e]; exact h1, by rw [e]; exact h2⟩
  have hc' : ∀ j u, (PcA.cells q)[j]? = some u → w.cell? ⟨b, off + k' * 7 + j, none⟩ = some u := fun j u hu => by
   have := hc j u hu
   rwa [addr_add, ← Nat.add_assoc] at this
  exact ⟨hc' 0 _ rfl, hc' 1 _ rfl, hc' 2 _ rfl, hc' 3 _ rfl, hc' 4 _ rfl, hc' 5 _ rfl, hc' 6 _ rfl⟩
theorem slice_trod_bd {t e : TypeId} {n : Nat} {cs : List Value} {x : DataW H × List MemPlace} (ht : Tryz.prog.underlying t = some (.slice e)) (h : DataW.trod enc Tryz.prog w base spare held n t cs = some x) : ∃ A len c, cs = [.slice A len c] ∧ len ≤ 9223372036854775807 := by
 rcases open_slice ht h with ⟨rfl, _⟩ | ⟨a, len, cap, m, k, D, Pl, rfl, _, hl, hm, _⟩
 ·exact ⟨none, 0, 0, rfl, by omega⟩
 ·exact ⟨some a, len, cap, rfl, by unfold maxLen at hm; omega⟩
set_option maxRecDepth 100000 in
theorem style_openX {r : Reach} {b0 : Nat} {v : Value} {d : DataW H} {p : List MemPlace} (hv : Value.okWide Tryz.prog w r b0 29 v) (h : DataW.Trod enc Tryz.prog w base spare held 29 v d p) :
  ∃ a x, v = StyA.val a ∧ StyXAt w a x ∧ ∀ k, k < x.ps.length → WfP (gPx x.ps k).p := by
 obtain ⟨cs, rfl, hsz⟩ := okWide_struct Tryz.underlying29 hv
 obtain ⟨l⟩ := cs
 have hC : Tryz.prog.cellsOf 29 = 7 := by kernel_rfl
 match l, hsz.trans hC with
 |[c0, c1, c2, c3, c4, c5, c6], _ =>
  obtain ⟨fuel, hf⟩ := h
  obtain ⟨xs, n, _, hx, _, hlen, hg⟩ := DataW.trod_struct Tryz.underlying29 hf
  have g0 : DataW.trod enc Tryz.prog w base spare held n 9 (([c0, c1, c2, c3, c4, c5, c6].drop 0).take (Tryz.prog.cellsOf 9)) = xs[0]? := hg 0 _ rfl
  have g1 : DataW.trod enc Tryz.prog w base spare held n 22 (([c0, c1, c2, c3, c4, c5, c6].drop 1).take (Tryz.prog.cellsOf 22)) = xs[1]? := hg 1 _ rfl
  have g2 : DataW.trod enc Tryz.prog w base spare held n 23 (([c0, c1, c2, c3, c4, c5, c6].drop 2).take (Tryz.prog.cellsOf 23)) = xs[2]? := hg 2 _ rfl
  have g3 : DataW.trod enc Tryz.prog w base spare held n 24 (([c0, c1, c2, c3, c4, c5, c6].drop 3).take (Tryz.prog.cellsOf 24)) = xs[3]? := hg 3 _ rfl
  have g4 : DataW.trod enc Tryz.prog w base spare held n 25 (([c0, c1, c2, c3, c4, c5, c6].drop 4).take (Tryz.prog.cellsOf 25)) = xs[4]? := hg 4 _ rfl
  have g5 : DataW.trod enc Tryz.prog w base spare held n 26 (([c0, c1, c2, c3, c4, c5, c6].drop 5).take (Tryz.prog.cellsOf 26)) = xs[5]? := hg 5 _ rfl
  have g6 : DataW.trod enc Tryz.prog w base spare held n 27 (([c0, c1, c2, c3, c4, c5, c6].drop 6).take (Tryz.prog.cellsOf 27)) = xs[6]? := hg 6 _ rfl
  rw [show Tryz.prog.cellsOf 9 = 1 from by kernel_rfl] at g0
  rw [show Tryz.prog.cellsOf 22 = 1 from by kernel_rfl] at g1
  rw [show Tryz.prog.cellsOf 23 = 1 from by kernel_rfl] at g2
  rw [show Tryz.prog.cellsOf 24 = 1 from by kernel_rfl] at g3
  rw [show Tryz.prog.cellsOf 25 = 1 from by kernel_rfl] at g4
  rw [show Tryz.prog.cellsOf 26 = 1 from by kernel_rfl] at g5
  rw [show Tryz.prog.cellsOf 27 = 1 from by kernel_rfl] at g6
  match xs, hlen with
  |[y0, y1, y2, y3, y4, y5, y6], _ =>
   simp at g0 g1 g2 g3 g4 g5 g6
   obtain ⟨nm, e0, _, _⟩ := DataW.trod_string Tryz.underlying9 g0
   obtain ⟨AS, nS, cS, sz, e1, hS, lS, hs1, hs2⟩ := strings_open g1
   obtain ⟨AM, nM, cM, ms, e2, hM, lM, hm1, hm2⟩ := ints_open' g2
   obtain ⟨AP, nP, cP, ps, e3, hP, lP, hp1, hp2, hwP⟩ := piecesX_open g3
   obtain ⟨AU, nU, cU, us, e4, hU, lU, hu1, hu2⟩ := uses_open g4
   obtain ⟨AK, nK, cK, ss, e5, hK, lK, hk1, hk2⟩ := seams_open g5
   obtain ⟨AO, nO, cO, e6, ho⟩ := slice_trod_bd Tryz.underlying27 g6
   simp at e0 e1 e2 e3 e4 e5 e6
   subst e0 e1 e2 e3 e4 e5 e6
   exact ⟨⟨nm, AS, nS, cS, AM, nM, cM, AP, nP, cP, AU, nU, cU, AK, nK, cK, AO, nO, cO⟩, ⟨nm, sz, ms, ps, us, ss, nO⟩, rfl, ⟨rfl, hS, hM, hP, hU, hK, lS, lM, lP, lU, lK, rfl, by simp only; omega, by simp only; omega, by simp only; omega, by simp only; omega, by simp only; omega, ho, hp1, hs1⟩, hwP⟩
end
section
variable {H : Type} {enc : TypeId × Value → H} {w : World} {base : Nat} {spare : Nat → Bool} {held : Bool}
set_option maxRecDepth 100000 in
theorem strings_openZ {n : Nat} {cs : List Value} {x : DataW H × List MemPlace} (h : DataW.trod enc Tryz.prog w base spare held n 22 cs = some x) : ∃ A len c l, cs = [.slice A len c] ∧ StrsAt w A l ∧ l.length = len ∧ ∀ k, k < l.length → (gB l k).size ≤ 9223372036854775807 := by
 rcases open_slice1 Tryz.underlying22 (by kernel_rfl) h with ⟨rfl, _⟩ | ⟨a, len, cap, m, k, V, D, Pl, rfl, hb, hl, hm, hmm, _, hx⟩
 ·exact ⟨none, 0, 0, [], rfl, fun _ hk => absurd hk (Nat.not_lt_zero _), rfl, fun _ hk => absurd hk (Nat.not_lt_zero _)⟩
 ·have hlm : len ≤ m := by rw [hmm]; split <;> omega
  have key : ∀ i, i < len → ∃ s : ByteArray, w.cell? (a.add i) = some (.string s) ∧ s.size ≤ 9223372036854775807 := fun i hi => by
   obtain ⟨hc, ht'⟩ := hx i (by omega)
   obtain ⟨s, es, _, hz⟩ := DataW.trod_string Tryz.underlying9 ht'
   simp at es
   exact ⟨s, by rw [hc, es], by unfold maxLen at hz; omega⟩
  obtain ⟨f, hf⟩ := choose_lt key
  refine ⟨some a, len, cap, (List.range len).map f, rfl, fun k' hk => ?_, by simp, fun k' hk => ?_⟩
  ·simp at hk
   have c0 := (hf k' hk).1
   obtain ⟨b, off, rfl⟩ := plain_of_cell (hf 0 (by omega)).1
   rw [addr_add] at c0
   exact ⟨b, off, rfl, by rw [c0, gB_eq (by simpa using hk)]; simp⟩
  ·simp at hk
   rw [gB_eq (by simpa using hk)]; simpa using (hf k' hk).2
set_option maxRecDepth 100000 in
theorem style_sz {a : StyA} {x : StyX} {d : DataW H} {p : List MemPlace} (h : DataW.Trod enc Tryz.prog w base spare held 29 a.val d p) (hs : StyXAt w a x) : ∀ k, k < x.sz.length → (gB x.sz k).size ≤ 9223372036854775807 := by
 obtain ⟨fuel, hf⟩ := h
 obtain ⟨xs, n, _, hx, _, hlen, hg⟩ := DataW.trod_struct Tryz.underlying29 hf
 have g1 : DataW.trod enc Tryz.prog w base spare held n 22 ((a.cells.drop 1).take (Tryz.prog.cellsOf 22)) = xs[1]? := hg 1 _ rfl
 rw [show Tryz.prog.cellsOf 22 = 1 from by kernel_rfl] at g1
 match xs, hlen with
 |[y0, y1, y2, y3, y4, y5, y6], _ =>
  simp at g1
  obtain ⟨A, len, c, l, e1, hS, lS, hz⟩ := strings_openZ g1
  simp at e1
  obtain ⟨e1, e2, e3⟩ := e1
  intro k hk
  have hlen : l.length = x.sz.length := by rw [lS, ← e2, hs.lS]
  have hk' : k < l.length := by omega
  obtain ⟨b, off, eA, hc⟩ := hs.S k hk
  obtain ⟨b', off', eA', hc'⟩ := hS k hk'
  rw [← e1, eA] at eA'
  injection eA' with eA'
  injection eA' with h1 h2
  subst h1 h2
  rw [hc] at hc'
  injection hc' with hc'
  injection hc' with hc'
  rw [hc']
  exact hz k hk'
end
section
variable {H : Type} {enc : TypeId × Value → H} {w : World} {base : Nat} {spare : Nat → Bool} {held : Bool}
set_option maxRecDepth 100000 in
theorem turn_open {r : Reach} {b0 : Nat} {v : Value} {d : DataW H} {p : List MemPlace} (hv : Value.okWide Tryz.prog w r b0 31 v) (h : DataW.Trod enc Tryz.prog w base spare held 31 v d p) : ∃ f q, v = TV f q := by
 obtain ⟨cs, rfl, hsz⟩ := okWide_struct Tryz.underlying31 hv
 obtain ⟨l⟩ := cs
 have hC : Tryz.prog.cellsOf 31 = 2 := by kernel_rfl
 match l, hsz.trans hC with
 |[c0, c1], _ =>
  obtain ⟨fuel, hf⟩ := h
  obtain ⟨xs, n, _, hx, _, hlen, hg⟩ := DataW.trod_struct Tryz.underlying31 hf
  have g0 : DataW.trod enc Tryz.prog w base spare held n 4 (([c0, c1].drop 0).take (Tryz.prog.cellsOf 4)) = xs[0]? := hg 0 _ rfl
  have g1 : DataW.trod enc Tryz.prog w base spare held n 3 (([c0, c1].drop 1).take (Tryz.prog.cellsOf 3)) = xs[1]? := hg 1 _ rfl
  rw [show Tryz.prog.cellsOf 4 = 1 from by kernel_rfl] at g0
  rw [show Tryz.prog.cellsOf 3 = 1 from by kernel_rfl] at g1
  match xs, hlen with
  |[y0, y1], _ =>
   simp at g0 g1
   obtain ⟨a, ea, _⟩ := DataW.trod_bool Tryz.underlying4 g0
   obtain ⟨b, eb, _, _⟩ := DataW.trod_int Tryz.underlying3 g1
   simp at ea eb
   exact ⟨a, b, by rw [ea, eb]⟩
end
set_option maxRecDepth 100000 in
theorem topPattern_lifted (os : Os) (started : os.Started) (H : Type) (enc : TypeId × Value → H) :
  ReturnsInHanded {} Tryz.checked os 3 .any (Rows.topPatternSpec.pre6 enc Tryz.prog Tryz.f3 Rows.topPatternRow.domain false) (Rows.topPatternSpec.post enc Tryz.prog Tryz.f3 false true false false) := by
 refine returnsInHanded_of_change (C := Tryz.checked) Tryz.own started (by kernel_rfl) Tryz.func3
  (ChangeSpec.witness6 (enc := enc) (C := Tryz.checked) false ⟨#[], #[.agg #[.string ⟨#[]⟩, .slice none 0 0, .slice none 0 0, .slice none 0 0, .slice none 0 0, .slice none 0 0, .slice none 0 0], .agg #[.bool false, .int .i64 0]], []⟩ 8 (by kernel_rfl) (by kernel_rfl) (by kernel_rfl) (by kernel_rfl)) ?_
 intro W base args ds gs before hval0 hW hcnd _
 have hval : ∀ (j : Nat) t v, Tryz.f3.params[j]? = some t → args[j]? = some v → Value.okWide Tryz.prog W .any base t v := hval0
 have hW' := hW
 obtain ⟨p, q, hA0, hV, rfl, hfz, hnd⟩ := hW
 have hA : DataW.TrodAll enc Tryz.prog W 0 (fun _ => true) true Tryz.f3.params.toList args.toList ds p := hA0
 rw [Tryz.params3] at hA hval
 obtain ⟨v0, vs0, d0, ds0, p0, q0, hargs, rfl, rfl, h0, r0⟩ := trodAll_cons hA
 obtain ⟨v1, vs1, d1, ds1, p1, q1, rfl, rfl, rfl, h1, r1⟩ := trodAll_cons r0
 obtain ⟨rfl, rfl, rfl⟩ := trodAll_nil r1
 obtain rfl : args = #[v0, v1] := by cases args; simp_all
 obtain ⟨rfl, rfl⟩ := trodVars_none hV
 have k0 := h0
 have lt0 : ∀ x ∈ p0, x.block < W.heap.size := by obtain ⟨m, hm⟩ := k0; exact DataW.trod_lt m _ _ _ hm
 obtain ⟨a0, s0, hv0, hS0, wS0⟩ := style_openX (hval 0 29 v0 rfl rfl) h0
 subst hv0
 have k1 := h1
 have lt1 : ∀ x ∈ p1, x.block < W.heap.size := by obtain ⟨m, hm⟩ := k1; exact DataW.trod_lt m _ _ _ hm
 obtain ⟨f1, a1, hv1⟩ := turn_open (hval 1 31 v1 rfl rfl) h1
 subst hv1
 clear hA0 hval0
 refine (topPattern_any a0 s0 f1 a1 W hS0 (fun k hk => ⟨(wS0 k hk).e, (wS0 k hk).c⟩) (style_sz k0 hS0)).mono fun e W' ⟨he, bel⟩ => ?_
 subst he
 exact ⟨_, rfl, _, _, _, [], _, [], hW', trodAll_mk1 (shut_bool Tryz.underlying4 _), (trodAll_cons_mk (Below.trod Tryz.laidOut (by kernel_rfl) (of_decide_eq_true (by kernel_rfl)) k0 bel lt0) (trodAll_cons_mk (Below.trod Tryz.laidOut (by kernel_rfl) (of_decide_eq_true (by kernel_rfl)) k1 bel lt1) trodAll_mk0)), rfl, Below.frame bel _, fun h => by cases h⟩
theorem topPattern_holds : Rows.TopPatternSaid :=
 OpenClaim.holds_of_wide 3 Tryz.f3 rfl rfl rfl rfl rfl rfl rfl ⟨rfl, rfl, rfl, rfl, rfl⟩ rfl rfl rfl rfl rfl (by kernel_rfl) Tryz.func3 (by kernel_rfl)
  (of_decide_eq_true (by kernel_rfl)) (by unfold Func.isWrapper; first | (rw [if_pos (by decide +kernel)]; kernel_rfl) | (rw [if_neg (by decide +kernel)]; exact ⟨rfl, rfl⟩))
  (fun os started H enc _ => topPattern_lifted os started H enc)
end Go.Proofs.YtfegbaokcbjllaaGreat
