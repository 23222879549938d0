/- garmentlaw23.alone, on lists that hold just the lonely notches -/
import Derived.Deep.CutRange
import Derived.Test.YtliijigdbpmpaaaKSameK
import Derived.Test.YtliijigdbpmpaaaKIssP
/- garmentlaw23.has -/
namespace Go.Proofs.Ytliijigdbpmpaaa
open Go.RowKit
def eqK (a b : Iss) : Bool := decide (a = b)
theorem eqK_iff (a b : Iss) : eqK a b = true ↔ a = b := by unfold eqK; exact decide_eq_true_iff
@[go_sem high] theorem run_eql_issue (w : World) (a b c d e f : Int) : (binOp .eql 69 (.agg #[.int .i64 a, .int .i64 b, .int .i64 c]) (.agg #[.int .i64 d, .int .i64 e, .int .i64 f])).run Try.prog w = .ok (.bool (eqK (a, b, c) (d, e, f))) w := by
  simp only [eqK, Prod.mk.injEq]
  by_cases h : a = d <;> by_cases h' : b = e <;> by_cases h'' : c = f <;> simp [go_sem, h, h', h'']
def memB (l : List Iss) (x : Iss) : Bool := decide (x ∈ l)
theorem gK_eq {l : List Iss} {k : Nat} (h : k < l.length) : gK l k = l[k] := by simp [gK, h]
set_option maxRecDepth 100000 in
set_option maxHeartbeats 800000 in
theorem lhas_any (A : Option Addr) (n c : Nat) (l : List Iss) (x0 x1 x2 : Int) (w : World) (ha : IssAt w A l) (hl : l.length = n) (hn : n ≤ 1000000) :
    Calls Try.prog 23 #[.slice A n c, .agg #[.int .i64 x0, .int .i64 x1, .int .i64 x2]] w fun e w' => e = .returned (.bool (memB l (x0, x1, x2))) ∧ Ext w w' := by
  have HL := Lib.hid hl; clear hl
  have HA := Lib.hid ha; clear ha
  go_enter Try.func23, Try.ntmps23
  go_wp2_with fail
  refine wp_at fun W0 hW0 => ?_
  have hB : Blk 69 W0 w.heap.size [.int .i64 x0, .int .i64 x1, .int .i64 x2] := by rw [hW0]; exact Blk.new' rfl
  have hx0' : Ext w W0 := by rw [hW0]; exact (Ext.refl _).alloc _
  have HB := Lib.hid hB; have HX0 := Lib.hid hx0'; clear hW0 hB hx0'
  go_loopw [5] (fun i wr => ∃ k : Nat, k ≤ n ∧ i = .int .i64 k ∧ (∀ j, j < k → gK l j ≠ (x0, x1, x2)) ∧ Ext W0 wr) (fun i _ => n - (intOf i).toNat)
  case atStart => exact ⟨0, Nat.zero_le _, rfl, fun j hj => absurd hj (Nat.not_lt_zero _), Ext.refl _⟩
  case round =>
    obtain ⟨k, hk, rfl, hall, hx⟩ := hrel
    have HALL := Lib.hid hall; have HX := Lib.hid hx; clear hall hx
    by_cases hlt : k < n
    · have hkl : k < l.length := by rw [HL.out]; exact hlt
      obtain ⟨b, off, hA, d0, d1, d2⟩ := (HA.out.ext (HX0.out.trans HX.out)) k hkl
      subst hA
      have e0 := (HB.out.ext HX.out).cell 0
      have e1 := (HB.out.ext HX.out).cell 1
      have e2 := (HB.out.ext HX.out).cell 2
      simp only [List.getElem?_cons_succ, List.getElem?_cons_zero] at e0 e1 e2
      obtain ⟨g, hg⟩ : ∃ g, g = gK l k := ⟨_, rfl⟩
      rw [← hg] at d0 d1 d2
      have HG := Lib.hid hg; clear hg
      obtain ⟨g0, g1, g2⟩ := g
      simp only at d0 d1 d2
      by_cases he : (g0, g1, g2) = (x0, x1, x2)
      · have hb : eqK (g0, g1, g2) (x0, x1, x2) = true := (eqK_iff _ _).2 he
        have HM : Hid (memB l (x0, x1, x2) = true) := by show _ = _; unfold memB; refine decide_eq_true ?_; rw [← he, HG.out, gK_eq hkl]; exact List.getElem_mem _
        clear he
        go_upto_region 4 with fail
        go_quiet (fail)
        go_wp2_with fail
        go_ret
        exact ⟨ret_bool HM.out.symm, (HX0.out.trans HX.out).drewN _⟩
      · have hb : eqK (g0, g1, g2) (x0, x1, x2) = false := by rw [Bool.eq_false_iff]; exact fun h => he ((eqK_iff _ _).1 h)
        have HM : Hid (gK l k ≠ (x0, x1, x2)) := by show _ ≠ _; rw [← HG.out]; exact he
        clear he
        go_upto_region 4 with fail
        go_quiet (fail)
        go_wp2_with fail
        go_roundw
        case rel => exact ⟨k + 1, by omega, by go_num, fun j hj => (Nat.lt_succ_iff_lt_or_eq.1 hj).elim (HALL.out j) (fun e => by rw [e]; exact HM.out), HX.out.drewN _⟩
        case measure => simp [intOf]; omega
    · obtain rfl : k = n := by omega
      have HM : Hid (memB l (x0, x1, x2) = false) := by
        show _ = _
        unfold memB
        refine decide_eq_false fun h => ?_
        obtain ⟨j, hj, e⟩ := List.getElem_of_mem h
        exact HALL.out j (by rw [← HL.out]; exact hj) (by rw [gK_eq hj]; exact e)
      go_wp2_with fail
      go_ret
      exact ⟨ret_bool HM.out.symm, HX0.out.trans HX.out⟩
end Go.Proofs.Ytliijigdbpmpaaa
namespace Go.Proofs.Ytliijigdbpmpaaa
open Go.RowKit
def metTo (q : Pc) (m eb at' : Int) (y : Nat) : Bool := (List.range y).any (nearF q.ns (plL q m) eb at')
theorem metTo_succ (q : Pc) (m eb at' : Int) (y : Nat) : metTo q m eb at' (y + 1) = (metTo q m eb at' y || nearF q.ns (plL q m) eb at' y) := by
  unfold metTo; rw [List.range_succ, List.any_append]; simp
set_option maxRecDepth 100000 in
set_option maxHeartbeats 6400000 in
theorem lalone_any (AL : Option Addr) (nL cL : Nat) (L : List Iss) (kd kk x2 : Int) (a b : PcA) (p q : Pc) (m ea eb : Int) (rev : Bool) (AA AB : Option Addr) (cA cB : Nat) (w : World)
    (hL : IssAt w AL L) (hlL : L.length = nL) (hnL : nL ≤ 1000000) (hp : PcAt w a p) (hq : PcAt w b q) (ha : IntsAt w AA (plL p m)) (hb : IntsAt w AB (plL q m)) (hop : PlOk p m) (hoq : PlOk q m)
    (hmem : ∀ i : Nat, i < p.ns.length → ((kd, kk, (i : Int)) ∈ L ↔ lonF p q m ea eb rev i = true)) :
    Calls Try.prog 22 #[.slice AL nL cL, .agg #[.int .i64 kd, .int .i64 kk, .int .i64 x2], a.val, b.val, .slice AA a.nN cA, .slice AB b.nN cB, .int .i64 ea, .int .i64 eb, .int .i64 (grdN p m ea.toNat : Int), .int .i64 (grdN q m eb.toNat : Int), .bool rev] w fun e w' => e = .returned (.int .i64 ((lonL p q m ea eb rev).length : Int)) ∧ Ext w w' := by
  have HMEM := Lib.hid hmem; have HOP := Lib.hid hop; have HOQ := Lib.hid hoq; have HA := Lib.hid ha; have HB := Lib.hid hb; have HL := Lib.hid hL; have HLL := Lib.hid hlL
  have HLNP : Hid (p.ns.length = a.nN) := hp.ln
  have HLNQ : Hid (q.ns.length = b.nN) := hq.ln
  have HNP : Hid (SpotsAt w a.AN p.ns) := hp.n
  have HNQ : Hid (SpotsAt w b.AN q.ns) := hq.n
  clear hmem hop hoq ha hb hL hlL hp hq
  have HFB := Lib.hid (lengthN_bd (gE (gradedE q.es q.cs m) eb.toNat).2)
  obtain ⟨FP, hFP⟩ : ∃ x, x = grdN p m ea.toNat := ⟨_, rfl⟩
  obtain ⟨FQ, hFQ⟩ : ∃ x, x = grdN q m eb.toNat := ⟨_, rfl⟩
  rw [← hFP, ← hFQ]
  have HFP := Lib.hid hFP; have HFQ := Lib.hid hFQ; clear hFP hFQ
  obtain ⟨nm, AE, nE, cE, gr, AN, nN, cN, AC, nC, cC, AW, nW, cW, mt⟩ := a
  obtain ⟨nm', AE', nE', cE', gr', AN', nN', cN', AC', nC', cC', AW', nW', cW', mt'⟩ := b
  simp only [PcA.val] at HLNP HLNQ HNP HNQ ⊢
  have h16 : nN ≤ 16 := by rw [← HLNP.out]; exact HOP.out.n
  have h16' : nN' ≤ 16 := by rw [← HLNQ.out]; exact HOQ.out.n
  go_enter Try.func22, Try.ntmps22
  go_wp2_with fail
  refine wp_at fun W0 hW0 => ?_
  have hB0 : Blk 69 W0 w.heap.size [.int .i64 kd, .int .i64 kk, .int .i64 x2] := by rw [hW0]; exact ((Blk.new' rfl).ext (ext1 _ _)).ext (ext1 _ _)
  have hB1 : Blk 27 W0 (w.heap.size + 1) [.string nm, .slice AE nE cE, .int .i64 gr, .slice AN nN cN, .slice AC nC cC, .slice AW nW cW, .bool mt] := by rw [hW0]; exact (Blk.new' (by simp)).ext (ext1 _ _)
  have hB2 : Blk 27 W0 (w.heap.size + 1 + 1) [.string nm', .slice AE' nE' cE', .int .i64 gr', .slice AN' nN' cN', .slice AC' nC' cC', .slice AW' nW' cW', .bool mt'] := by rw [hW0]; exact Blk.new' (by simp)
  have hx0 : Ext w W0 := by rw [hW0]; exact (((Ext.refl _).alloc _).alloc _).alloc _
  clear hW0
  go_loopw [23, 24] (fun v i wr => ∃ (k : Nat) (x : Int), k ≤ nN ∧ i = .int .i64 k ∧ v = .int .i64 ((lonTo p q m ea eb rev k).length : Int) ∧ Blk 69 wr w.heap.size [.int .i64 kd, .int .i64 kk, .int .i64 x] ∧
      Blk 27 wr (w.heap.size + 1) [.string nm, .slice AE nE cE, .int .i64 gr, .slice AN nN cN, .slice AC nC cC, .slice AW nW cW, .bool mt] ∧ Blk 27 wr (w.heap.size + 1 + 1) [.string nm', .slice AE' nE' cE', .int .i64 gr', .slice AN' nN' cN', .slice AC' nC' cC', .slice AW' nW' cW', .bool mt'] ∧ Ext w wr) (fun _ i _ => nN - (intOf i).toNat)
  case atStart => exact ⟨0, x2, Nat.zero_le _, rfl, rfl, hB0, hB1, hB2, hx0⟩
  case round =>
    clear hB0 hB1 hB2 hx0
    obtain ⟨k, x, hk, rfl, hv, hB0, hB1, hB2, hx⟩ := hrel
    have hlk := lonTo_len p q m ea eb rev k
    have HSY : Hid (lonF p q m ea eb rev k = true → (lonTo p q m ea eb rev (k + 1)).length = (lonTo p q m ea eb rev k).length + 1) := lonTo_yes
    have HSN : Hid (lonF p q m ea eb rev k = false → (lonTo p q m ea eb rev (k + 1)).length = (lonTo p q m ea eb rev k).length) := lonTo_no
    have HEND : Hid (k = nN → (lonL p q m ea eb rev).length = (lonTo p q m ea eb rev k).length) := fun h => by unfold lonL; rw [HLNP.out, h]
    obtain ⟨C, hC⟩ : ∃ C, C = (lonTo p q m ea eb rev k).length := ⟨_, rfl⟩
    rw [← hC] at hv hlk HSY HSN HEND
    clear hC
    subst hv
    obtain ⟨wr0, rfl⟩ : ∃ wr0 : World, wr0 = wr := ⟨_, rfl⟩
    have HB0 := Lib.hid hB0; have HB1 := Lib.hid hB1; have HB2 := Lib.hid hB2; have HX := Lib.hid hx
    clear hB0 hB1 hB2 hx
    by_cases hlt : k < nN
    rotate_left
    · obtain rfl : k = nN := by omega
      have HC := Lib.hid (HEND.out rfl)
      clear HEND
      go_wp2_with fail
      go_ret
      exact ⟨ret_int (by rw [HC.out]), HX.out⟩
    have hkl : k < p.ns.length := by rw [HLNP.out]; exact hlt
    obtain ⟨bn, on, hAN, n0, _⟩ := (HNP.out.ext HX.out).g (k := k) hkl
    subst hAN
    obtain ⟨ed, hed⟩ : ∃ ed, ed = (gS p.ns k).1 := ⟨_, rfl⟩
    rw [← hed] at n0
    have HED := Lib.hid hed; clear hed
    have b3 := HB1.out.cell 3
    simp only [List.getElem?_cons_succ, List.getElem?_cons_zero] at b3
    have hkk : (k : Int) < nN := by omega
    have hkk0 : (0 : Int) ≤ k := by omega
    by_cases he : ed = ea
    rotate_left
    · have heb : (ed != ea) = true := by simp [he]
      have hF : lonF p q m ea eb rev k = false := by unfold lonF; rw [← HED.out]; simp [he]
      have HF := Lib.hid (HSN.out hF)
      clear hF he
      go_wp2_with fail
      go_roundw
      case rel => exact ⟨k + 1, x, by omega, by go_num, by rw [HF.out], HB0.out, HB1.out, HB2.out, HX.out⟩
      case measure => simp [intOf]; omega
    subst he
    have heb : (ed != ed) = false := by simp
    obtain ⟨bp, op, hAA, p0⟩ := (HA.out.ext HX.out).g (k := k) (by rw [plL_len]; exact hkl)
    subst hAA
    rw [plL_get hkl] at p0
    obtain ⟨PV, hPV⟩ : ∃ PV, PV = plV p m k := ⟨_, rfl⟩
    rw [← hPV] at p0
    obtain ⟨AT, hAT⟩ : ∃ x, x = partV (FP : Int) (FQ : Int) rev PV := ⟨_, rfl⟩
    have hatb : 0 ≤ AT ∧ AT ≤ 1000000000000 := by
      rw [hAT]; exact partV_bd (by omega) (by have := HFB.out; rw [HFQ.out]; unfold grdN; omega)
    have HMET : Hid (metF p q m ed eb rev k = metTo q m eb AT nN') := by
      show _ = _
      unfold metF hasB metTo
      rw [HLNQ.out, ← HFP.out, ← HFQ.out, ← hPV, ← hAT]
    have HLON : Hid (lonF p q m ed eb rev k = !metTo q m eb AT nN') := by
      show _ = _
      unfold lonF
      rw [HMET.out, ← HED.out]; simp
    have HPC : Hid (∀ W, Calls Try.prog 41 #[.int .i64 (FP : Int), .int .i64 (FQ : Int), .bool rev, .int .i64 PV] W fun e w' => e = .returned (.tuple #[.int .i64 AT, .int .i64 (partE (FP : Int) (FQ : Int) PV)]) ∧ Ext W w') := fun W => by rw [hAT]; exact partner_any _ _ _ _ W
    clear hPV hAT HMET
    generalize partE (FP : Int) (FQ : Int) PV = PE at HPC
    go_wp2_with fail
    refine (HPC.out _).mono ?_
    rintro e w1 ⟨rfl, he1⟩
    have HX1 := Lib.hid (HX.out.trans he1); have HB01 := Lib.hid (HB0.out.ext he1); have HB11 := Lib.hid (HB1.out.ext he1); have HB21 := Lib.hid (HB2.out.ext he1)
    clear he1 n0 p0 b3 HB0 HB1 HB2
    go_wp2_with fail
    go_loopw [27, 28] (fun t j wr => ∃ y : Nat, y ≤ nN' ∧ j = .int .i64 y ∧ t = .bool (metTo q m eb AT y) ∧ wr = w1) (fun _ j _ => nN' - (intOf j).toNat)
    case atStart => exact ⟨0, Nat.zero_le _, rfl, rfl, rfl⟩
    case round =>
      obtain ⟨y, hy, rfl, hv, hwr⟩ := hrel
      have hwr' := hwr.symm
      subst hwr'
      have HMS := Lib.hid (metTo_succ q m eb AT y)
      have HME : Hid (y = nN' → metTo q m eb AT nN' = metTo q m eb AT y) := fun h => by rw [h]
      obtain ⟨M, hM⟩ : ∃ M, M = metTo q m eb AT y := ⟨_, rfl⟩
      rw [← hM] at hv HMS HME
      subst hv
      clear hM
      by_cases hyl : y < nN'
      · have hyq : y < q.ns.length := by rw [HLNQ.out]; exact hyl
        obtain ⟨bm, om, hAN', q0, _⟩ := (HNQ.out.ext HX1.out).g (k := y) hyq
        subst hAN'
        obtain ⟨bq, oq, hAB, r0⟩ := (HB.out.ext HX1.out).g (k := y) (by rw [plL_len]; exact hyq)
        subst hAB
        obtain ⟨eq', heq⟩ : ∃ x, x = (gS q.ns y).1 := ⟨_, rfl⟩
        obtain ⟨QV, hQV⟩ : ∃ x, x = gI (plL q m) y := ⟨_, rfl⟩
        rw [← heq] at q0
        rw [← hQV] at r0
        have HNF : Hid (nearF q.ns (plL q m) eb AT y = decide (eq' = eb ∧ (AT - 1000 ≤ QV ∧ QV ≤ AT + 1000))) := by
          show _ = _
          unfold nearF
          rw [← heq, ← hQV]
          simp only [gap_iff]
        clear heq hQV
        have b3 := HB21.out.cell 3
        simp only [List.getElem?_cons_succ, List.getElem?_cons_zero] at b3
        cases M
        rotate_left
        · have HT : Hid (metTo q m eb AT (y + 1) = true) := by show _ = _; rw [HMS.out]; rfl
          go_wp2_with fail
          go_roundw
          case rel => exact ⟨y + 1, by omega, by go_num, by rw [HT.out], trivial⟩
          case measure => simp [intOf]; omega
        by_cases f0 : eq' = eb
        · have f0b : (eq' == eb) = true := by simp [f0]
          by_cases f1 : AT - 1000 ≤ QV
          · by_cases f2 : QV ≤ AT + 1000
            · have HT : Hid (metTo q m eb AT (y + 1) = true) := by show _ = _; rw [HMS.out, HNF.out, decide_eq_true ⟨f0, f1, f2⟩]; rfl
              clear f0
              go_wp2_with fail
              go_roundw
              case rel => exact ⟨y + 1, by omega, by go_num, by rw [HT.out], trivial⟩
              case measure => simp [intOf]; omega
            · have HT : Hid (metTo q m eb AT (y + 1) = false) := by show _ = _; rw [HMS.out, HNF.out, decide_eq_false (fun h => f2 h.2.2)]; rfl
              clear f0
              go_wp2_with fail
              go_roundw
              case rel => exact ⟨y + 1, by omega, by go_num, by rw [HT.out], trivial⟩
              case measure => simp [intOf]; omega
          · have HT : Hid (metTo q m eb AT (y + 1) = false) := by show _ = _; rw [HMS.out, HNF.out, decide_eq_false (fun h => f1 h.2.1)]; rfl
            clear f0
            go_wp2_with fail
            go_roundw
            case rel => exact ⟨y + 1, by omega, by go_num, by rw [HT.out], trivial⟩
            case measure => simp [intOf]; omega
        · have f0b : (eq' == eb) = false := by simp [f0]
          have HT : Hid (metTo q m eb AT (y + 1) = false) := by show _ = _; rw [HMS.out, HNF.out, decide_eq_false (fun h => f0 h.1)]; rfl
          clear f0
          go_wp2_with fail
          go_roundw
          case rel => exact ⟨y + 1, by omega, by go_num, by rw [HT.out], trivial⟩
          case measure => simp [intOf]; omega
      · obtain rfl : y = nN' := by omega
        have HMM : Hid (metTo q m eb AT y = M) := HME.out rfl
        have HLM : Hid (lonF p q m ed eb rev k = !M) := by show _ = _; rw [HLON.out, HMM.out]
        have HMB : Hid (memB L (kd, kk, (k : Int)) = !M) := by
          show _ = _
          rw [← HLM.out]
          unfold memB
          rw [Bool.eq_iff_iff, decide_eq_true_iff]
          exact HMEM.out k hkl
        obtain ⟨x0, x1, xx⟩ : w1.cell? ⟨w.heap.size, 0, none⟩ = some (.int .i64 kd) ∧ w1.cell? ⟨w.heap.size, 1, none⟩ = some (.int .i64 kk) ∧ w1.cell? ⟨w.heap.size, 2, none⟩ = some (.int .i64 x) := ⟨HB01.out.cell 0, HB01.out.cell 1, HB01.out.cell 2⟩
        have xf := HB01.out.frozen 2
        clear HME HMS
        go_upto_region 13 with fail
        refine wp_at fun W2 hW2 => ?_
        have hB02 : Blk 69 W2 w.heap.size [.int .i64 kd, .int .i64 kk, .int .i64 (k : Int)] := by rw [hW2]; exact HB01.out.set 2 _
        have hB12 : Blk 27 W2 (w.heap.size + 1) [.string nm, .slice AE nE cE, .int .i64 gr, .slice (some ⟨bn, on, none⟩) nN cN, .slice AC nC cC, .slice AW nW cW, .bool mt] := by rw [hW2]; exact HB11.out.other (by show w.heap.size + 1 ≠ w.heap.size; omega) _
        have hB22 : Blk 27 W2 (w.heap.size + 1 + 1) [.string nm', .slice AE' nE' cE', .int .i64 gr', .slice AN' y cN', .slice AC' nC' cC', .slice AW' nW' cW', .bool mt'] := by rw [hW2]; exact HB21.out.other (by show w.heap.size + 1 + 1 ≠ w.heap.size; omega) _
        have hx2 : Ext w W2 := by rw [hW2]; exact HX1.out.setCell (by simp) _
        have HB02 := Lib.hid hB02; have HB12 := Lib.hid hB12; have HB22 := Lib.hid hB22; have HX2 := Lib.hid hx2
        clear hW2 hB02 hB12 hB22 hx2 x0 x1 xx xf HB01 HB11 HB21
        obtain ⟨x0, x1, xx⟩ : W2.cell? ⟨w.heap.size, 0, none⟩ = some (.int .i64 kd) ∧ W2.cell? ⟨w.heap.size, 1, none⟩ = some (.int .i64 kk) ∧ W2.cell? ⟨w.heap.size, 2, none⟩ = some (.int .i64 (k : Int)) := ⟨HB02.out.cell 0, HB02.out.cell 1, HB02.out.cell 2⟩
        go_wp2_with fail
        refine (lhas_any AL nL cL L kd kk (k : Int) _ (HL.out.ext HX2.out) HLL.out hnL).mono ?_
        rintro e w3 ⟨rfl, he3⟩
        rw [HMB.out]
        have HX3 := Lib.hid (HX2.out.trans he3); have HB03 := Lib.hid (HB02.out.ext he3); have HB13 := Lib.hid (HB12.out.ext he3); have HB23 := Lib.hid (HB22.out.ext he3)
        clear x0 x1 xx he3 HB02 HB12 HB22
        cases M
        · have HF := Lib.hid (HSY.out HLM.out)
          go_wp2_with fail
          go_roundw
          case rel => exact ⟨k + 1, (k : Int), by omega, by go_num, by rw [HF.out]; go_num, HB03.out, HB13.out, HB23.out, HX3.out⟩
          case measure => simp [intOf]; omega
        · have HF := Lib.hid (HSN.out HLM.out)
          go_wp2_with fail
          go_roundw
          case rel => exact ⟨k + 1, (k : Int), by omega, by go_num, by rw [HF.out], HB03.out, HB13.out, HB23.out, HX3.out⟩
          case measure => simp [intOf]; omega
end Go.Proofs.Ytliijigdbpmpaaa
