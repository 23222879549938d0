/- the reference: garmentref23.Unmatched -/
import Derived.Laws.AppendOwnNone
import Derived.Deep.CutRange
import Derived.Deep.RegionHeld3
import Derived.Test.YtliijigdbpmpaaaGreatKRNear
import Derived.Test.YtliijigdbpmpaaaGreatKRLens2
import Derived.Test.YtliijigdbpmpaaaGreatKLawNp
/- garmentref23.Few -/
namespace Go.Proofs.YtliijigdbpmpaaaGreat
open Go.RowKit
structure FwS (s : Sty) : Prop where
  P : s.ps.length ≤ 4
  K : s.ss.length ≤ 6
  M : s.ms.length ≤ 20
  p : ∀ k, k < s.ps.length → LtP (gPc s.ps k) 60
def RetFw (w : World) (s : Sty) (e : Ending) (w' : World) : Prop := ∃ b, e = .returned (.bool b) ∧ Ext w w' ∧ (b = true → FwS s)
set_option maxRecDepth 100000 in
set_option maxHeartbeats 1600000 in
theorem few_any (a : StyA) (s : Sty) (w : World) (hs : StyAt w a s) :
    Calls Tryz.prog 13 #[a.val] w (RetFw w s) := by
  have HS := Lib.hid hs; clear hs
  obtain ⟨nm, AS, nS, cS, AM, nM, cM, AP, nP, cP, AU, nU, cU, AK, nK, cK, AO, nO, cO⟩ := a
  have HLP : Hid (s.ps.length = nP) := HS.out.lP
  have HLK : Hid (s.ss.length = nK) := HS.out.lK
  have HLM : Hid (s.ms.length = nM) := HS.out.lM
  have HPS := Lib.hid HS.out.P
  simp only [StyA.val] at HPS ⊢
  by_cases h1 : 4 < nP
  · go_enter Tryz.func13, Tryz.ntmps13
    go_wp2_with fail
    go_ret
    exact ⟨_, rfl, (Ext.refl _).alloc _, fun h => by cases h⟩
  by_cases h2 : 6 < nK
  · go_enter Tryz.func13, Tryz.ntmps13
    go_wp2_with fail
    go_ret
    exact ⟨_, rfl, (Ext.refl _).alloc _, fun h => by cases h⟩
  by_cases h3 : 20 < nM
  · go_enter Tryz.func13, Tryz.ntmps13
    go_wp2_with fail
    go_ret
    exact ⟨_, rfl, (Ext.refl _).alloc _, fun h => by cases h⟩
  by_cases h4 : 20 < nS
  · go_enter Tryz.func13, Tryz.ntmps13
    go_wp2_with fail
    go_ret
    exact ⟨_, rfl, (Ext.refl _).alloc _, fun h => by cases h⟩
  go_enter Tryz.func13, Tryz.ntmps13
  go_wp2_with fail
  refine wp_at fun W0 hW0 => ?_
  have hB : Blk 44 W0 w.heap.size [.string nm, .slice AS nS cS, .slice AM nM cM, .slice AP nP cP, .slice AU nU cU, .slice AK nK cK, .slice AO nO cO] := by rw [hW0]; exact Blk.new' rfl
  have hx0 : Ext w W0 := by rw [hW0]; exact (Ext.refl _).alloc _
  have HB := Lib.hid hB; have HX0 := Lib.hid hx0; clear hW0 hB hx0
  go_loopw [3] (fun i wr => ∃ k : Nat, k ≤ nP ∧ i = .int .i64 k ∧ (∀ j, j < k → LtP (gPc s.ps j) 60) ∧ Ext W0 wr) (fun i _ => nP - (intOf i).toNat)
  case atStart => exact ⟨0, Nat.zero_le _, rfl, fun j hj => absurd hj (Nat.not_lt_zero _), Ext.refl _⟩
  case round =>
    obtain ⟨k, hk, rfl, hall, hx⟩ := hrel
    have HALL := Lib.hid hall; have HX := Lib.hid hx; clear hall hx
    obtain ⟨c0, c1, c2, c3, c4, c5, c6⟩ := blk7 (HB.out.ext HX.out)
    by_cases hlt : k < nP
    · obtain ⟨bp, op, q, hAP, hpA, hcA⟩ := (HPS.out.ext (HX0.out.trans HX.out)) k (by rw [HLP.out]; exact hlt)
      subst hAP
      have HC := Lib.hid (light3_any q (gPc s.ps k) wr hpA)
      clear hpA
      obtain ⟨pnm, pAE, pnE, pcE, pgr, pAN, pnN, pcN, pAC, pnC, pcC, pAW, pnW, pcW, pmt⟩ := q
      obtain ⟨a0, a1, a2, a3, a4, a5, a6⟩ := hcA
      simp only [PcA.val] at HC a0 a1 a2 a3 a4 a5 a6
      go_wp2_with fail
      refine HC.out.mono ?_
      rintro e w1 ⟨b, rfl, he1, hb⟩
      clear a0 a1 a2 a3 a4 a5 a6 c0 c1 c2 c3 c4 c5 c6
      cases b
      · go_wp2_with fail
        go_ret
        exact ⟨_, rfl, (HX0.out.trans HX.out).trans he1, fun h => by cases h⟩
      · have HLT := Lib.hid (hb rfl); clear hb
        go_wp2_with fail
        go_roundw
        case rel => exact ⟨k + 1, by omega, by go_num, fun j hj => by
          rcases Nat.lt_succ_iff_lt_or_eq.1 hj with h | h
          · exact HALL.out j h
          · subst h; exact HLT.out, HX.out.trans he1⟩
        case measure => simp [intOf]; omega
    · obtain rfl : k = nP := by omega
      go_wp2_with fail
      go_ret
      exact ⟨_, rfl, HX0.out.trans HX.out, fun _ => ⟨by rw [HLP.out]; omega, by rw [HLK.out]; omega, by rw [HLM.out]; omega, fun j hj => HALL.out j (by rw [← HLP.out]; exact hj)⟩⟩
end Go.Proofs.YtliijigdbpmpaaaGreat
namespace Go.Proofs.YtliijigdbpmpaaaGreat
open Go.RowKit
/- append onto an own row, the source an own row: nil, or not -/
theorem wpList_append_both {P : Program} {w : World} {ops : Array Oper} {rest : List Oper} {o : Oper} {a : Act} {Q : Exit → Act → World → Prop} (hgd : o.guard = none) (s x : Operand) (t : TypeId)
    (ho : o.op = .call { callee := .builtin .append, args := #[s, x], argTypes := #[t, t] })
    (base : Nat) (e : TypeId) (i : TypeInfo) (z : Value) (size bytes : Nat) (ht : P.underlying t = some (.slice e)) (hi : P.info? e = some i) (hz : i.zero = some z)
    (hsize : i.size = size) (hby : i.bytes = bytes) (hzs : z.cells.size = size) (hsz : 0 < size)
    (v : Value) (n : Nat) (xs : List Value) (hs : a.eval s = v) (hown : w.ownsRow base e size v n xs)
    (b1 : Nat) (v1 : Value) (m : Nat) (news : List Value) (hx : a.eval x = v1) (hsrc : w.ownsRow b1 e size v1 m news) (h1 : ∀ u ∈ news, u.oneCell' = true)
    (h63 : n + m ≤ maxLen) (hbytes : (n + m) * bytes ≤ 140737488355328) (hbase : base ≤ w.heap.size)
    (h : ∀ v' w', w'.ownsRow base e size v' (n + m) (xs ++ news) → w.grownBy w' v.ownBlock → wpList P ops Q rest (a.put o.dst v') w') : wpList P ops Q (o :: rest) a w := by
  have hlen := hsrc.1
  have hsrc' := hsrc
  rcases hsrc.2 with ⟨e1, h0⟩ | ⟨g, cap, cur, e1, _⟩
  · subst h0
    have hnil : news = [] := List.eq_nil_of_length_eq_zero (by simpa using hlen)
    subst hnil
    subst e1
    refine wpList_append_own_none hgd s x t ho base e i size ht hi v n xs hs hown hx ?_
    exact h v w (by simpa using hown) (World.grownBy.refl w _)
  · subst e1
    exact wpList_append_own w hgd s x t ho base e i z size bytes ht hi hz hsize hby hzs hsz v n xs hs hown ⟨g, 0, none⟩ m cap news hx hlen (World.ownsRow.cells hsrc' (g := g) rfl) h1 h63 hbytes hbase (fun v' w' h2 h3 _ => h v' w' h2 h3)
theorem retPd_own {w w' : World} {p : Pc} {m : Int} {e : Ending} (h : RetPd w p m e w') : ∃ A c, e = .returned (.tuple #[.slice A (plQ p m).length c, .int .i64 (plE p m)]) ∧ OwnI w' 0 (.slice A (plQ p m).length c) (plQ p m) ∧ Ext w w' := by
  obtain ⟨v, h1, h2, h3, h4⟩ := h
  by_cases hz : plE p m = 0
  · have e1 : plQ p m = plL p m := by unfold plQ; rw [if_pos hz]
    have hO := h2 hz
    obtain ⟨A, c, hv, _, _⟩ := OwnI.slice' (n := (plL p m).length) hO rfl
    subst hv
    rw [e1]; exact ⟨A, c, h1, own_base_le hO (Nat.zero_le _), h4⟩
  · have e1 : plQ p m = [] := by unfold plQ; rw [if_neg hz]
    have hv := h3 hz
    subst hv
    rw [e1]; exact ⟨none, 0, h1, OwnI.nil _ _, h4⟩
theorem isscells_one (l : List Iss) : ∀ u ∈ isscells l, u.oneCell' = true := by
  intro u hu
  unfold isscells at hu
  rw [List.mem_flatMap] at hu
  obtain ⟨s, _, hs⟩ := hu
  simp at hs
  rcases hs with rfl | rfl | rfl <;> rfl
theorem FwS.lt {s : Sty} (hf : FwS s) : LtS s :=
  ⟨by have := hf.P; omega, by have := hf.K; omega, fun k hk => ⟨(hf.p k hk).e, (hf.p k hk).c, (hf.p k hk).w, (hf.p k hk).n, fun j hj => ⟨Nat.le_trans ((hf.p k hk).l j hj).1 (by decide), ((hf.p k hk).l j hj).2⟩⟩⟩
theorem unm_le' {s : Sty} {z : Int} : ∀ k, k ≤ s.ss.length → (∀ j, j < k → SeamOk s z j) → (unmTo s z k).length ≤ 32 * k
  | 0, _, _ => by simp [unmTo]
  | k + 1, hk, h => by
    have ih := unm_le' k (by omega) (fun j hj => h j (by omega))
    have ho := h k (by omega)
    rw [unm_len ho (by omega)]
    have l1 := lonTo_len (gPc s.ps (gSm s.ss k).pa.toNat) (gPc s.ps (gSm s.ss k).pb.toNat) (gI s.ms z.toNat) (gSm s.ss k).ea (gSm s.ss k).eb (gSm s.ss k).rev (gPc s.ps (gSm s.ss k).pa.toNat).ns.length
    have l2 := lonTo_len (gPc s.ps (gSm s.ss k).pb.toNat) (gPc s.ps (gSm s.ss k).pa.toNat) (gI s.ms z.toNat) (gSm s.ss k).eb (gSm s.ss k).ea (gSm s.ss k).rev (gPc s.ps (gSm s.ss k).pb.toNat).ns.length
    have n1 := ho.a.n; have n2 := ho.b.n
    unfold lonL
    omega
set_option maxRecDepth 100000 in
set_option maxHeartbeats 6400000 in
theorem runmatched_any (a : StyA) (s : Sty) (z : Int) (w : World) (hs : StyAt w a s) (hf : FwS s) :
    Calls Tryz.prog 15 #[a.val, .int .i64 z] w (RetUm w s z) := by
  have HS := Lib.hid hs; clear hs
  have HF := Lib.hid hf; clear hf
  have H3 := Lib.hid (fun (k : Nat) W (h : Ext w W) => rlengths_any a s z (k : Int) W (HS.out.ext h) HF.out.lt)
  have HLK := Lib.hid HS.out.lK
  have HLP := Lib.hid HS.out.lP
  have HLM := Lib.hid HS.out.lM
  have HKS := Lib.hid HS.out.K
  have HPS := Lib.hid HS.out.P
  have HMS := Lib.hid HS.out.M
  obtain ⟨nm, AS, nS, cS, AM, nM, cM, AP, nP, cP, AU, nU, cU, AK, nK, cK, AO, nO, cO⟩ := a
  simp only [StyA.val] at H3 HLK HLP HLM HKS HPS HMS ⊢
  clear HS
  have hK6 : nK ≤ 6 := by rw [← HLK.out]; exact HF.out.K
  obtain ⟨i0, hi0, hz0, hz1, hz2⟩ := info_parts issue_info
  by_cases g0 : z < 0
  · have HR : Hid (unmE s z = 3) := by show _ = _; unfold unmE; rw [if_pos (by unfold sizeB; exact decide_eq_false (by omega))]
    go_enter Tryz.func15, Tryz.ntmps15
    go_wp2_with fail
    go_ret2
    exact retUm_bad HR.out (by decide) ((Ext.refl _).alloc _)
  obtain ⟨Z, rfl⟩ := Int.eq_ofNat_of_zero_le (show 0 ≤ z by omega)
  by_cases g1 : nM ≤ Z
  · have HR : Hid (unmE s (Z : Int) = 3) := by show _ = _; unfold unmE; rw [if_pos (by unfold sizeB; rw [HLM.out]; exact decide_eq_false (by omega))]
    go_enter Tryz.func15, Tryz.ntmps15
    go_wp2_with fail
    go_ret2
    exact retUm_bad HR.out (by decide) ((Ext.refl _).alloc _)
  have hZ : Z < nM := by omega
  have HSZ : Hid (sizeB s (Z : Int) = true) := by show _ = _; unfold sizeB; rw [HLM.out]; exact decide_eq_true (by omega)
  have HUE : Hid (unmE s (Z : Int) = firstE (seamE s (Z : Int)) nK) := by show _ = _; unfold unmE; rw [if_neg (by rw [HSZ.out]; decide), HLK.out]
  clear g0 g1
  have t0 : decide ((Z : Int) < 0) = false := decide_eq_false (by omega)
  have t1 : decide (nM ≤ Z) = false := decide_eq_false (by omega)
  go_enter Tryz.func15, Tryz.ntmps15
  go_wp2_with fail
  refine wp_at fun w1 hW1 => ?_
  have hB1 : Blk 44 w1 w.heap.size [.string nm, .slice AS nS cS, .slice AM nM cM, .slice AP nP cP, .slice AU nU cU, .slice AK nK cK, .slice AO nO cO] := by rw [hW1]; exact Blk.new' rfl
  have hx1 : Ext w w1 := by rw [hW1]; exact (Ext.refl _).alloc _
  have HB1 := Lib.hid hB1; have HX1 := Lib.hid hx1; clear hW1 hB1 hx1
  go_loopw [6, 7] (fun v i wr => ∃ k : Nat, k ≤ nK ∧ i = .int .i64 k ∧ firstE (seamE s (Z : Int)) k = 0 ∧ OwnK wr w1.heap.size v (unmTo s (Z : Int) k) ∧ Ext w1 wr) (fun _ i _ => nK - (intOf i).toNat)
  case atStart => exact ⟨0, Nat.zero_le _, rfl, rfl, World.ownsRow_nil _ _ _ _, Ext.refl _⟩
  case round =>
    obtain ⟨k, hk, rfl, ht, ho, hx⟩ := hrel
    have HT := Lib.hid ht; clear ht
    have hlk : (unmTo s (Z : Int) k).length ≤ 192 := by
      have := unm_le' (s := s) (z := (Z : Int)) k (by rw [HLK.out]; exact hk) (fun j hj => (seamE_zero (by rw [HLK.out]; omega)).1 ((firstE_zero _ _).1 HT.out j hj))
      omega
    have HTS : Hid (∀ hkl : k < s.ss.length, SeamOk s (Z : Int) k → unmTo s (Z : Int) (k + 1) = unmTo s (Z : Int) k ++ _) := fun hkl hok => by rw [unmTo_succ, hok.iss hkl]
    have HEND : Hid (k = nK → unmL s (Z : Int) = unmTo s (Z : Int) k) := fun h => by unfold unmL; rw [HLK.out, h]
    obtain ⟨LK, hLK⟩ : ∃ LK, LK = unmTo s (Z : Int) k := ⟨_, rfl⟩
    rw [← hLK] at ho hlk HTS HEND
    clear hLK
    obtain ⟨wr0, rfl⟩ : ∃ wr0 : World, wr0 = wr := ⟨_, rfl⟩
    have HO := Lib.hid ho; have HX := Lib.hid hx; clear ho hx
    obtain ⟨c0, c1, c2, c3, c4, c5, c6⟩ := blk7 (HB1.out.ext HX.out)
    by_cases hlt : k < nK
    rotate_left
    · obtain rfl : k = nK := by omega
      have HC := Lib.hid (HEND.out rfl)
      have HR : Hid (unmE s (Z : Int) = 0) := by show _ = _; rw [HUE.out]; exact HT.out
      clear HEND HTS
      go_wp2_with fail
      go_ret2
      refine ⟨_, by rw [HR.out]; rfl, fun _ => ?_, fun h => absurd HR.out h, HX1.out.trans HX.out⟩
      rw [HC.out]
      exact own_base_le HO.out HX1.out.size
    clear HEND
    have hkl : k < s.ss.length := by rw [HLK.out]; exact hlt
    have HKL := Lib.hid hkl; clear hkl
    go_wp2_with fail
    refine (H3.out k _ (HX1.out.trans HX.out)).mono ?_
    rintro e w2 ⟨rfl, he2⟩
    have HXr := Lib.hid he2; have HX2 := Lib.hid (HX.out.trans he2)
    clear he2 c0 c1 c2 c3 c4 c5 c6
    have HSE : Hid (seamE s (Z : Int) k = if (lensV s (Z : Int) (k : Int)).2.2 ≠ 0 then (lensV s (Z : Int) (k : Int)).2.2 else if plE (gPc s.ps (gSm s.ss k).pa.toNat) (gI s.ms Z) ≠ 0 then plE (gPc s.ps (gSm s.ss k).pa.toNat) (gI s.ms Z) else plE (gPc s.ps (gSm s.ss k).pb.toNat) (gI s.ms Z)) := rfl
    have HLC : Hid ((lensV s (Z : Int) (k : Int)).2.2 = 0 → edgeB s (gSm s.ss k).pa (gSm s.ss k).ea = true ∧ edgeB s (gSm s.ss k).pb (gSm s.ss k).eb = true) := lens_cond
    have HLN : Hid (SeamOk s (Z : Int) k → lensV s (Z : Int) (k : Int) = _) := fun h => h.lens HKL.out
    obtain ⟨V, hV⟩ : ∃ V, V = lensV s (Z : Int) (k : Int) := ⟨_, rfl⟩
    rw [← hV] at HSE HLC HLN ⊢
    clear hV
    obtain ⟨VA, VB, E⟩ := V
    simp only [LenV] at HSE HLC HLN ⊢
    by_cases hz : E = 0
    rotate_left
    · have HR : Hid (unmE s (Z : Int) = E) := by
        show _ = _
        have e : seamE s (Z : Int) k = E := by rw [HSE.out, if_pos hz]
        rw [HUE.out, firstE_at hlt HT.out (by rw [e]; exact hz), e]
      have hzb : (E != 0) = true := by simp [hz]
      have HZ := Lib.hid hz; clear hz
      go_wp2_with fail
      go_ret2
      exact retUm_bad HR.out HZ.out (HX1.out.trans HX2.out)
    subst hz
    obtain ⟨hea, heb⟩ := HLC.out rfl
    have HSK : Hid (PlOk (gPc s.ps (gSm s.ss k).pa.toNat) (gI s.ms Z) → PlOk (gPc s.ps (gSm s.ss k).pb.toNat) (gI s.ms Z) → SeamOk s (Z : Int) k) := fun h1 h2 => ⟨HSZ.out, hea, heb, h1, h2⟩
    have HTT : Hid (SeamOk s (Z : Int) k → unmTo s (Z : Int) (k + 1) = LK ++ _) := fun h => HTS.out HKL.out h
    have e1 := edgeB_iff hea; have e2 := edgeB_iff heb
    clear hea heb HLC HTS
    have hse := HSE.out
    rw [if_neg (fun h => h rfl)] at hse
    have hsk := HSK.out; have htt := HTT.out; have hln := HLN.out
    clear HSE HSK HTT HLN
    obtain ⟨bk, ok, hAK, hsm⟩ := (HKS.out.ext (HX1.out.trans HX2.out)) k HKL.out
    subst hAK
    obtain ⟨sm, hsmd⟩ : ∃ sm, sm = gSm s.ss k := ⟨_, rfl⟩
    rw [← hsmd] at hsm hse hsk htt hln e1 e2
    obtain ⟨pa, ea, pb, eb, rv, es⟩ := sm
    clear hsmd
    obtain ⟨k0, k1, k2, k3, k4, k5⟩ := hsm
    simp only at k0 k1 k2 k3 k4 k5 hse hsk htt hln e1 e2
    obtain ⟨PA, rfl⟩ := Int.eq_ofNat_of_zero_le e1.1
    obtain ⟨PB, rfl⟩ := Int.eq_ofNat_of_zero_le e2.1
    simp only [Int.toNat_natCast] at hse hsk htt hln e1 e2
    have hPA : PA < nP := by have := e1.2.1; rw [HLP.out] at this; omega
    have hPB : PB < nP := by have := e2.2.1; rw [HLP.out] at this; omega
    clear e1 e2
    have hltA := HF.out.p PA (by rw [HLP.out]; exact hPA)
    have hltB := HF.out.p PB (by rw [HLP.out]; exact hPB)
    obtain ⟨bpA, opA, qa, hAP, hpa0, hcA0⟩ := HPS.out PA (by rw [HLP.out]; exact hPA)
    have hcA := hcA0.ext (HX1.out.trans HX2.out)
    subst hAP
    obtain ⟨bpB, opB, qb, hAP, hpb0, hcB0⟩ := HPS.out PB (by rw [HLP.out]; exact hPB)
    have hcB := hcB0.ext (HX1.out.trans HX2.out)
    clear hcA0 hcB0
    injection hAP with hAP
    injection hAP with h1 h2
    subst h1 h2
    obtain ⟨P, hP⟩ : ∃ P, P = gPc s.ps PA := ⟨_, rfl⟩
    obtain ⟨Q, hQ⟩ : ∃ Q, Q = gPc s.ps PB := ⟨_, rfl⟩
    obtain ⟨M, hM⟩ : ∃ M, M = gI s.ms Z := ⟨_, rfl⟩
    obtain ⟨bm, om, hAM, m0⟩ := (HMS.out.ext (HX1.out.trans HX2.out)).g (k := Z) (by rw [HLM.out]; exact hZ)
    subst hAM
    rw [← hM] at m0
    rw [← hP] at hpa0 hltA
    rw [← hQ] at hpb0 hltB
    rw [← hP, ← hQ, ← hM] at hse hsk htt hln
    clear hP hQ hM
    have hRA := fun W (h : Ext w W) => (rplaced_any qa P M W (hpa0.ext h) (by have := hltA.e; omega) (by have := hltA.c; omega)).mono fun e w' hr => retPd_own hr
    have hRB := fun W (h : Ext w W) => (rplaced_any qb Q M W (hpb0.ext h) (by have := hltB.e; omega) (by have := hltB.c; omega)).mono fun e w' hr => retPd_own hr
    have HL1 : Hid (PlOk P M → PlOk Q M → ∀ W (_ : Ext w W) A1 c1 A2 c2 (_ : IntsAt W A1 (plL P M)) (_ : IntsAt W A2 (plL Q M)), _) := fun h1 h2 W h A1 c1 A2 c2 hA hB => rlonely_any 1 k qa qb P Q M ea eb rv A1 A2 c1 c2 W (hpa0.ext h) (hpb0.ext h) hA hB h1 h2
    have HL2 : Hid (PlOk P M → PlOk Q M → ∀ W (_ : Ext w W) A1 c1 A2 c2 (_ : IntsAt W A1 (plL P M)) (_ : IntsAt W A2 (plL Q M)), _) := fun h1 h2 W h A1 c1 A2 c2 hA hB => rlonely_any 2 k qb qa Q P M eb ea rv A2 A1 c2 c1 W (hpb0.ext h) (hpa0.ext h) hB hA h2 h1
    have HQA : Hid (plE P M = 0 → plQ P M = plL P M ∧ (plQ P M).length = qa.nN ∧ PlOk P M) := fun h => by
      have e : plQ P M = plL P M := by unfold plQ; rw [if_pos h]
      exact ⟨e, by rw [e, plL_len]; exact hpa0.ln, plE_zero.1 h⟩
    have HQB : Hid (plE Q M = 0 → plQ Q M = plL Q M ∧ (plQ Q M).length = qb.nN ∧ PlOk Q M) := fun h => by
      have e : plQ Q M = plL Q M := by unfold plQ; rw [if_pos h]
      exact ⟨e, by rw [e, plL_len]; exact hpb0.ln, plE_zero.1 h⟩
    have HB16 : Hid (PlOk P M → PlOk Q M → (lonL P Q M ea eb rv).length ≤ 16 ∧ (lonL Q P M eb ea rv).length ≤ 16) := fun h1 h2 => by
      have b1 := lonTo_len P Q M ea eb rv P.ns.length
      have b2 := lonTo_len Q P M eb ea rv Q.ns.length
      have := h1.n; have := h2.n
      unfold lonL; omega
    clear hltA hltB hpa0 hpb0
    obtain ⟨PEA, hPEA⟩ : ∃ x, x = plE P M := ⟨_, rfl⟩
    obtain ⟨PEB, hPEB⟩ : ∃ x, x = plE Q M := ⟨_, rfl⟩
    obtain ⟨LPA, hLPA⟩ : ∃ x, x = plQ P M := ⟨_, rfl⟩
    obtain ⟨LPB, hLPB⟩ : ∃ x, x = plQ Q M := ⟨_, rfl⟩
    obtain ⟨NA, hNA⟩ : ∃ x, x = LPA.length := ⟨_, rfl⟩
    obtain ⟨NB, hNB⟩ : ∃ x, x = LPB.length := ⟨_, rfl⟩
    rw [← hPEA, ← hPEB] at hse
    rw [← hPEA, ← hLPA, ← hNA] at HQA hRA
    rw [← hPEB, ← hLPB, ← hNB] at HQB hRB
    clear hPEA hPEB hLPA hLPB hNA hNB
    have HRA := Lib.hid hRA; have HRB := Lib.hid hRB; have HSEE := Lib.hid hse; have HSK := Lib.hid hsk; have HTT := Lib.hid htt; have HLN := Lib.hid hln
    clear hRA hRB hse hsk htt hln
    obtain ⟨nmA, AEA, nEA, cEA, grA, ANA, nNA, cNA, ACA, nCA, cCA, AWA, nWA, cWA, mtA⟩ := qa
    obtain ⟨nmB, AEB, nEB, cEB, grB, ANB, nNB, cNB, ACB, nCB, cCB, AWB, nWB, cWB, mtB⟩ := qb
    obtain ⟨a0, a1, a2, a3, a4, a5, a6⟩ := hcA
    obtain ⟨b0, b1, b2, b3, b4, b5, b6⟩ := hcB
    simp only [PcA.val] at HRA HRB HL1 HL2 HQA HQB a0 a1 a2 a3 a4 a5 a6 b0 b1 b2 b3 b4 b5 b6
    have hkl0 := cell_lt k0
    have HBr := Lib.hid (HB1.out.ext HX2.out)
    obtain ⟨c0, c1, c2, c3, c4, c5, c6⟩ := blk7 HBr.out
    have hwl : w.heap.size < w2.heap.size := HBr.out.lt
    have hkk : (k : Int) < nK := by omega
    have hkk0 : (0 : Int) ≤ k := by omega
    have hA0 : (0 : Int) ≤ (PA : Int) := by omega
    have hA1 : (PA : Int) < nP := by omega
    have hB0 : (0 : Int) ≤ (PB : Int) := by omega
    have hB1 : (PB : Int) < nP := by omega
    go_upto_region 11 with fail
    refine wp_at fun wq hWq => ?_
    have hXb : Blk 53 wq w2.heap.size [.int .i64 (PA : Int), .int .i64 ea, .int .i64 (PB : Int), .int .i64 eb, .bool rv, .int .i64 es] := by rw [hWq]; exact Blk.new' rfl
    have hxq : Ext w2 wq := by rw [hWq]; exact (Ext.refl _).alloc _
    obtain ⟨xb, hxb⟩ : ∃ xb, xb = w2.heap.size := ⟨_, rfl⟩
    rw [← hxb] at hXb ⊢
    have HXB := Lib.hid hXb; have HXq := Lib.hid hxq
    clear hWq hXb hxb hkl0 hwl k0 k1 k2 k3 k4 k5 c0 c1 c2 c3 c4 c5 c6
    have HBq := Lib.hid (HBr.out.ext HXq.out)
    obtain ⟨c0, c1, c2, c3, c4, c5, c6⟩ := blk7 HBq.out
    obtain ⟨x0, x1, x2, x3, x4, x5⟩ := blk6 HXB.out
    have a0' := HXq.out.cell a0; have a1' := HXq.out.cell a1; have a2' := HXq.out.cell a2; have a3' := HXq.out.cell a3; have a4' := HXq.out.cell a4; have a5' := HXq.out.cell a5; have a6' := HXq.out.cell a6
    have b0' := HXq.out.cell b0; have b1' := HXq.out.cell b1; have b2' := HXq.out.cell b2; have b3' := HXq.out.cell b3; have b4' := HXq.out.cell b4; have b5' := HXq.out.cell b5; have b6' := HXq.out.cell b6
    have m0' := HXq.out.cell m0
    clear a0 a1 a2 a3 a4 a5 a6 b0 b1 b2 b3 b4 b5 b6 m0
    go_cut [12, 13] from 50 to 61 (fun pa pb wc => ∃ ab bb, pa = .pointer (some ⟨ab, 0, none⟩) ∧ pb = .pointer (some ⟨bb, 0, none⟩) ∧ Blk 27 wc ab [.string nmA, .slice AEA nEA cEA, .int .i64 grA, .slice ANA nNA cNA, .slice ACA nCA cCA, .slice AWA nWA cWA, .bool mtA] ∧ Blk 27 wc bb [.string nmB, .slice AEB nEB cEB, .int .i64 grB, .slice ANB nNB cNB, .slice ACB nCB cCB, .slice AWB nWB cWB, .bool mtB] ∧ Ext wq wc)
    case first =>
      have keep : ∀ W1 : World, Ext wq W1 → (Ext wq W1 ∧ W1.cell? ⟨w.heap.size, 3, none⟩ = some (.slice (some ⟨bpA, opA, none⟩) nP cP) ∧ W1.cell? ⟨xb, 0, none⟩ = some (.int .i64 (PA : Int)) ∧ W1.cell? ⟨xb, 2, none⟩ = some (.int .i64 (PB : Int)) ∧ W1.cell? ⟨bpA, opA + PA * 7, none⟩ = some (.string nmA) ∧ W1.cell? ⟨bpA, opA + PA * 7 + 1, none⟩ = some (.slice AEA nEA cEA) ∧ W1.cell? ⟨bpA, opA + PA * 7 + 2, none⟩ = some (.int .i64 grA) ∧ W1.cell? ⟨bpA, opA + PA * 7 + 3, none⟩ = some (.slice ANA nNA cNA) ∧ W1.cell? ⟨bpA, opA + PA * 7 + 4, none⟩ = some (.slice ACA nCA cCA) ∧ W1.cell? ⟨bpA, opA + PA * 7 + 5, none⟩ = some (.slice AWA nWA cWA) ∧ W1.cell? ⟨bpA, opA + PA * 7 + 6, none⟩ = some (.bool mtA) ∧ W1.cell? ⟨bpA, opA + PB * 7, none⟩ = some (.string nmB) ∧ W1.cell? ⟨bpA, opA + PB * 7 + 1, none⟩ = some (.slice AEB nEB cEB) ∧ W1.cell? ⟨bpA, opA + PB * 7 + 2, none⟩ = some (.int .i64 grB) ∧ W1.cell? ⟨bpA, opA + PB * 7 + 3, none⟩ = some (.slice ANB nNB cNB) ∧ W1.cell? ⟨bpA, opA + PB * 7 + 4, none⟩ = some (.slice ACB nCB cCB) ∧ W1.cell? ⟨bpA, opA + PB * 7 + 5, none⟩ = some (.slice AWB nWB cWB) ∧ W1.cell? ⟨bpA, opA + PB * 7 + 6, none⟩ = some (.bool mtB)) := fun W1 hx => ⟨hx, hx.cell c3, hx.cell x0, hx.cell x2, hx.cell a0', hx.cell a1', hx.cell a2', hx.cell a3', hx.cell a4', hx.cell a5', hx.cell a6', hx.cell b0', hx.cell b1', hx.cell b2', hx.cell b3', hx.cell b4', hx.cell b5', hx.cell b6'⟩
      have KEEP := Lib.hid keep; clear keep c0 c1 c2 c3 c4 c5 c6 x0 x1 x2 x3 x4 x5 a0' a1' a2' a3' a4' a5' a6' b0' b1' b2' b3' b4' b5' b6' m0'
      go_region_held3 (fun W => Ext wq W ∧ W.cell? ⟨w.heap.size, 3, none⟩ = some (.slice (some ⟨bpA, opA, none⟩) nP cP) ∧ W.cell? ⟨xb, 0, none⟩ = some (.int .i64 (PA : Int)) ∧ W.cell? ⟨xb, 2, none⟩ = some (.int .i64 (PB : Int)) ∧ W.cell? ⟨bpA, opA + PA * 7, none⟩ = some (.string nmA) ∧ W.cell? ⟨bpA, opA + PA * 7 + 1, none⟩ = some (.slice AEA nEA cEA) ∧ W.cell? ⟨bpA, opA + PA * 7 + 2, none⟩ = some (.int .i64 grA) ∧ W.cell? ⟨bpA, opA + PA * 7 + 3, none⟩ = some (.slice ANA nNA cNA) ∧ W.cell? ⟨bpA, opA + PA * 7 + 4, none⟩ = some (.slice ACA nCA cCA) ∧ W.cell? ⟨bpA, opA + PA * 7 + 5, none⟩ = some (.slice AWA nWA cWA) ∧ W.cell? ⟨bpA, opA + PA * 7 + 6, none⟩ = some (.bool mtA) ∧ W.cell? ⟨bpA, opA + PB * 7, none⟩ = some (.string nmB) ∧ W.cell? ⟨bpA, opA + PB * 7 + 1, none⟩ = some (.slice AEB nEB cEB) ∧ W.cell? ⟨bpA, opA + PB * 7 + 2, none⟩ = some (.int .i64 grB) ∧ W.cell? ⟨bpA, opA + PB * 7 + 3, none⟩ = some (.slice ANB nNB cNB) ∧ W.cell? ⟨bpA, opA + PB * 7 + 4, none⟩ = some (.slice ACB nCB cCB) ∧ W.cell? ⟨bpA, opA + PB * 7 + 5, none⟩ = some (.slice AWB nWB cWB) ∧ W.cell? ⟨bpA, opA + PB * 7 + 6, none⟩ = some (.bool mtB))
        (first | (with_reducible assumption) | (with_reducible exact KEEP.out _ (Ext.drew (Ext.refl _))) | (with_reducible exact KEEP.out _ (Ext.drew (Ext.alloc (Ext.refl _) _))) | (with_reducible exact KEEP.out _ (Ext.drew (Ext.alloc (Ext.alloc (Ext.refl _) _) _))) | fail)
        (first | fail)
      all_goals
        go_wp2_with fail
        go_meet
      all_goals
        refine ⟨_, _, rfl, rfl, ?_, ?_, ?_⟩
        · first
            | exact ((Blk.new' rfl).ext ((Ext.refl _).alloc _)).ext ((Ext.refl _).drew)
            | exact (Blk.new' (by simp)).ext ((Ext.refl _).drew)
            | fail
        · first
            | exact ((Blk.new' rfl).ext ((Ext.refl _).alloc _)).ext ((Ext.refl _).drew)
            | exact (Blk.new' (by simp)).ext ((Ext.refl _).drew)
            | fail
        · exact (((Ext.refl _).alloc _).alloc _).drew
    case rest =>
      obtain ⟨ab, bb, hpa, hpb, hBa, hBb, hxc⟩ := hcut
      subst hpa hpb
      obtain ⟨w3, rfl⟩ : ∃ w3 : World, w3 = wc := ⟨_, rfl⟩
      have HPA3 := Lib.hid hBa; have HPB3 := Lib.hid hBb; have HX3 := Lib.hid (HXq.out.trans hxc)
      have HB3 := Lib.hid (HBq.out.ext hxc); have HXB3 := Lib.hid (HXB.out.ext hxc)
      have m2' := hxc.cell m0'
      clear c0 c1 c2 c3 c4 c5 c6 x0 x1 x2 x3 x4 x5 a0' a1' a2' a3' a4' a5' a6' b0' b1' b2' b3' b4' b5' b6' m0' hBa hBb hxc
      have hZ1 : (Z : Int) < nM := by omega
      have hZ0 : (0 : Int) ≤ (Z : Int) := by omega
      go_upto_region 12 with fail
      obtain ⟨c0, c1, c2, c3, c4, c5, c6⟩ := blk7 HB3.out
      obtain ⟨y0, y1, y2, y3, y4, y5, y6⟩ := blk7 HPA3.out
      have HPC : Hid (∀ W, Ext w3 W → Calls Tryz.prog 8 #[.agg #[.string nmA, .slice AEA nEA cEA, .int .i64 grA, .slice ANA nNA cNA, .slice ACA nCA cCA, .slice AWA nWA cWA, .bool mtA], .int .i64 M] W fun e w' => ∃ A1 c1, e = .returned (.tuple #[.slice A1 NA c1, .int .i64 PEA]) ∧ OwnI w' 0 (.slice A1 NA c1) LPA ∧ Ext W w') := fun W h => HRA.out W (((HX1.out.trans HX2.out).trans HX3.out).trans h)
      go_cut [14, 15] from 62 to 71 (fun va ev wc => ∃ A1 c1, va = .slice A1 NA c1 ∧ ev = .int .i64 PEA ∧ OwnI wc 0 (.slice A1 NA c1) LPA ∧ Ext w3 wc)
      case first =>
        have keep : ∀ W1 : World, Ext w3 W1 → (Ext w3 W1 ∧ W1.cell? ⟨w.heap.size, 2, none⟩ = some (.slice (some ⟨bm, om, none⟩) nM cM) ∧ W1.cell? ⟨bm, om + Z, none⟩ = some (.int .i64 M) ∧ W1.cell? ⟨ab, 0, none⟩ = some (.string nmA) ∧ W1.cell? ⟨ab, 1, none⟩ = some (.slice AEA nEA cEA) ∧ W1.cell? ⟨ab, 2, none⟩ = some (.int .i64 grA) ∧ W1.cell? ⟨ab, 3, none⟩ = some (.slice ANA nNA cNA) ∧ W1.cell? ⟨ab, 4, none⟩ = some (.slice ACA nCA cCA) ∧ W1.cell? ⟨ab, 5, none⟩ = some (.slice AWA nWA cWA) ∧ W1.cell? ⟨ab, 6, none⟩ = some (.bool mtA)) := fun W1 hx => ⟨hx, hx.cell c2, hx.cell m2', hx.cell y0, hx.cell y1, hx.cell y2, hx.cell y3, hx.cell y4, hx.cell y5, hx.cell y6⟩
        have KEEP := Lib.hid keep; clear keep c0 c1 c2 c3 c4 c5 c6 y0 y1 y2 y3 y4 y5 y6 m2'
        go_region_held3 (fun W => Ext w3 W ∧ W.cell? ⟨w.heap.size, 2, none⟩ = some (.slice (some ⟨bm, om, none⟩) nM cM) ∧ W.cell? ⟨bm, om + Z, none⟩ = some (.int .i64 M) ∧ W.cell? ⟨ab, 0, none⟩ = some (.string nmA) ∧ W.cell? ⟨ab, 1, none⟩ = some (.slice AEA nEA cEA) ∧ W.cell? ⟨ab, 2, none⟩ = some (.int .i64 grA) ∧ W.cell? ⟨ab, 3, none⟩ = some (.slice ANA nNA cNA) ∧ W.cell? ⟨ab, 4, none⟩ = some (.slice ACA nCA cCA) ∧ W.cell? ⟨ab, 5, none⟩ = some (.slice AWA nWA cWA) ∧ W.cell? ⟨ab, 6, none⟩ = some (.bool mtA))
          (first | (with_reducible assumption) | (with_reducible exact KEEP.out _ (Ext.drew (Ext.refl _))) | (with_reducible exact KEEP.out _ hx2) | fail)
          (first
            | (go_at_call 8; (with_reducible refine (HPC.out w3.drew (Ext.drew (Ext.refl _))).mono ?_); rintro e w2' ⟨A1, c1, rfl, hOI, he2⟩; have hx2 : Ext w3 w2' := (Ext.drew (Ext.refl _)).trans he2; have HOI := Lib.hid hOI; clear hOI)
            | fail)
        all_goals
          go_wp2_with fail
          go_meet
        all_goals exact ⟨A1, c1, rfl, rfl, HOI.out, hx2⟩
      case rest =>
      obtain ⟨A1, cA1, hva, hev, hIA, hxc⟩ := hcut
      subst hva hev
      obtain ⟨w4, rfl⟩ : ∃ w4 : World, w4 = wc := ⟨_, rfl⟩
      have HX4 := Lib.hid (HX3.out.trans hxc); have HB4 := Lib.hid (HB3.out.ext hxc); have HXB4 := Lib.hid (HXB3.out.ext hxc); have HPA4 := Lib.hid (HPA3.out.ext hxc); have HPB4 := Lib.hid (HPB3.out.ext hxc); have HIA4 := Lib.hid hIA
      have m3' := hxc.cell m2'
      clear c0 c1 c2 c3 c4 c5 c6 y0 y1 y2 y3 y4 y5 y6 m2' hxc hIA HPC
      by_cases hzA : PEA = 0
      rotate_left
      · have HR : Hid (unmE s (Z : Int) = PEA) := by
          show _ = _
          have e : seamE s (Z : Int) k = PEA := by rw [HSEE.out, if_pos hzA]
          rw [HUE.out, firstE_at hlt HT.out (by rw [e]; exact hzA), e]
        have hzb : (PEA != 0) = true := by simp [hzA]
        have HZ := Lib.hid hzA; clear hzA
        go_wp2_with fail
        go_ret2
        exact retUm_bad HR.out HZ.out ((HX1.out.trans HX2.out).trans HX4.out)
      subst hzA
      go_upto_region 15 with fail
      obtain ⟨c0, c1, c2, c3, c4, c5, c6⟩ := blk7 HB4.out
      obtain ⟨y0, y1, y2, y3, y4, y5, y6⟩ := blk7 HPB4.out
      have HPC : Hid (∀ W, Ext w4 W → Calls Tryz.prog 8 #[.agg #[.string nmB, .slice AEB nEB cEB, .int .i64 grB, .slice ANB nNB cNB, .slice ACB nCB cCB, .slice AWB nWB cWB, .bool mtB], .int .i64 M] W fun e w' => ∃ A1 c1, e = .returned (.tuple #[.slice A1 NB c1, .int .i64 PEB]) ∧ OwnI w' 0 (.slice A1 NB c1) LPB ∧ Ext W w') := fun W h => HRB.out W (((HX1.out.trans HX2.out).trans HX4.out).trans h)
      go_cut [16, 17] from 75 to 84 (fun va ev wc => ∃ A1 c1, va = .slice A1 NB c1 ∧ ev = .int .i64 PEB ∧ OwnI wc 0 (.slice A1 NB c1) LPB ∧ Ext w4 wc)
      case first =>
        have keep : ∀ W1 : World, Ext w4 W1 → (Ext w4 W1 ∧ W1.cell? ⟨w.heap.size, 2, none⟩ = some (.slice (some ⟨bm, om, none⟩) nM cM) ∧ W1.cell? ⟨bm, om + Z, none⟩ = some (.int .i64 M) ∧ W1.cell? ⟨bb, 0, none⟩ = some (.string nmB) ∧ W1.cell? ⟨bb, 1, none⟩ = some (.slice AEB nEB cEB) ∧ W1.cell? ⟨bb, 2, none⟩ = some (.int .i64 grB) ∧ W1.cell? ⟨bb, 3, none⟩ = some (.slice ANB nNB cNB) ∧ W1.cell? ⟨bb, 4, none⟩ = some (.slice ACB nCB cCB) ∧ W1.cell? ⟨bb, 5, none⟩ = some (.slice AWB nWB cWB) ∧ W1.cell? ⟨bb, 6, none⟩ = some (.bool mtB)) := fun W1 hx => ⟨hx, hx.cell c2, hx.cell m3', hx.cell y0, hx.cell y1, hx.cell y2, hx.cell y3, hx.cell y4, hx.cell y5, hx.cell y6⟩
        have KEEP := Lib.hid keep; clear keep c0 c1 c2 c3 c4 c5 c6 y0 y1 y2 y3 y4 y5 y6 m3'
        go_region_held3 (fun W => Ext w4 W ∧ W.cell? ⟨w.heap.size, 2, none⟩ = some (.slice (some ⟨bm, om, none⟩) nM cM) ∧ W.cell? ⟨bm, om + Z, none⟩ = some (.int .i64 M) ∧ W.cell? ⟨bb, 0, none⟩ = some (.string nmB) ∧ W.cell? ⟨bb, 1, none⟩ = some (.slice AEB nEB cEB) ∧ W.cell? ⟨bb, 2, none⟩ = some (.int .i64 grB) ∧ W.cell? ⟨bb, 3, none⟩ = some (.slice ANB nNB cNB) ∧ W.cell? ⟨bb, 4, none⟩ = some (.slice ACB nCB cCB) ∧ W.cell? ⟨bb, 5, none⟩ = some (.slice AWB nWB cWB) ∧ W.cell? ⟨bb, 6, none⟩ = some (.bool mtB))
          (first | (with_reducible assumption) | (with_reducible exact KEEP.out _ (Ext.drew (Ext.refl _))) | (with_reducible exact KEEP.out _ hx2) | fail)
          (first
            | (go_at_call 8; (with_reducible refine (HPC.out w4.drew (Ext.drew (Ext.refl _))).mono ?_); rintro e w2' ⟨A1, c1, rfl, hOI, he2⟩; have hx2 : Ext w4 w2' := (Ext.drew (Ext.refl _)).trans he2; have HOI := Lib.hid hOI; clear hOI)
            | fail)
        all_goals
          go_wp2_with fail
          go_meet
        all_goals exact ⟨A1, c1, rfl, rfl, HOI.out, hx2⟩
      case rest =>
      obtain ⟨A2, cA2, hva, hev, hIB, hxc⟩ := hcut
      subst hva hev
      obtain ⟨w5, rfl⟩ : ∃ w5 : World, w5 = wc := ⟨_, rfl⟩
      have HX5 := Lib.hid (HX4.out.trans hxc); have HXB5 := Lib.hid (HXB4.out.ext hxc); have HPA5 := Lib.hid (HPA4.out.ext hxc); have HPB5 := Lib.hid (HPB4.out.ext hxc); have HIA5 := Lib.hid (own_ext HIA4.out hxc); have HIB5 := Lib.hid hIB
      clear c0 c1 c2 c3 c4 c5 c6 y0 y1 y2 y3 y4 y5 y6 m3' hxc hIB HPC
      by_cases hzB : PEB = 0
      rotate_left
      · have HR : Hid (unmE s (Z : Int) = PEB) := by
          show _ = _
          have e : seamE s (Z : Int) k = PEB := by rw [HSEE.out, if_neg (fun h => h rfl)]
          rw [HUE.out, firstE_at hlt HT.out (by rw [e]; exact hzB), e]
        have hzb : (PEB != 0) = true := by simp [hzB]
        have HZ := Lib.hid hzB; clear hzB
        go_wp2_with fail
        go_ret2
        exact retUm_bad HR.out HZ.out ((HX1.out.trans HX2.out).trans HX5.out)
      subst hzB
      obtain ⟨qA1, qA2, okA⟩ := HQA.out rfl
      obtain ⟨qB1, qB2, okB⟩ := HQB.out rfl
      have hok := HSK.out okA okB
      have hvv := HLN.out hok
      have htt := HTT.out hok
      obtain ⟨hb1, hb2⟩ := HB16.out okA okB
      have hl1 := HL1.out okA okB; have hl2 := HL2.out okA okB
      injection hvv with hv1 hv2
      injection hv2 with hv2 _
      generalize grdN P M ea.toNat = FA at hv1 hl1 hl2
      generalize grdN Q M eb.toNat = FB at hv2 hl1 hl2
      subst hv1 hv2
      subst qA1 qB1
      subst qA2 qB2
      obtain ⟨I1, hI1⟩ : ∃ I, I = issK 1 k (lonL P Q M ea eb rv) := ⟨_, rfl⟩
      obtain ⟨I2, hI2⟩ : ∃ I, I = issK 2 k (lonL Q P M eb ea rv) := ⟨_, rfl⟩
      have hi1 : I1.length ≤ 16 := by rw [hI1, issK_len']; exact hb1
      have hi2 : I2.length ≤ 16 := by rw [hI2, issK_len']; exact hb2
      rw [← hI1] at hl1 htt
      rw [← hI2] at hl2 htt
      have HSZE : Hid (seamE s (Z : Int) k = 0) := by show _ = _; rw [HSEE.out, if_neg (fun h => h rfl)]
      have HT' := Lib.hid (firstE_succ (f := seamE s (Z : Int)) HT.out HSZE.out)
      have HLL1 := Lib.hid hl1; have HLL2 := Lib.hid hl2; have HTK := Lib.hid htt
      clear hl1 hl2 htt hI1 hI2 hb1 hb2 hok okA okB HL1 HL2 HB16 HSK HTT HLN HQA HQB
      have HXw5 := Lib.hid ((HX1.out.trans HX2.out).trans HX5.out)
      have HX15 := Lib.hid (HX2.out.trans HX5.out)
      have HOr5 := Lib.hid (own_ext HO.out (HXr.out.trans HX5.out))
      obtain ⟨y0, y1, y2, y3, y4, y5, y6⟩ := blk7 HPA5.out
      obtain ⟨z0, z1, z2, z3, z4, z5, z6⟩ := blk7 HPB5.out
      obtain ⟨x0, x1, x2, x3, x4, x5⟩ := blk6 HXB5.out
      go_wp2_with fail
      refine (HLL1.out _ HXw5.out A1 cA1 A2 cA2 (OwnI.plain HIA5.out).2.1 (OwnI.plain HIB5.out).2.1).mono ?_
      rintro e w6 ⟨v6, rfl, hO6, he6⟩
      have HXw6 := Lib.hid (HXw5.out.trans he6); have HX16 := Lib.hid (HX15.out.trans he6)
      have HXB6 := Lib.hid (HXB5.out.ext he6); have HPA6 := Lib.hid (HPA5.out.ext he6); have HPB6 := Lib.hid (HPB5.out.ext he6); have HIA6 := Lib.hid (own_ext HIA5.out he6); have HIB6 := Lib.hid (own_ext HIB5.out he6); have HOr6 := Lib.hid (own_ext HOr5.out he6); have HO6 := Lib.hid hO6
      clear x0 x1 x2 x3 x4 x5 y0 y1 y2 y3 y4 y5 y6 z0 z1 z2 z3 z4 z5 z6 he6 hO6
      have H63 : Hid (LK.length + I1.length ≤ maxLen) := by show _ ≤ _; unfold maxLen; omega
      have H64 : Hid ((LK.length + I1.length) * 24 ≤ 140737488355328) := by show _ ≤ _; omega
      have HC6 := Lib.hid HX16.out.size
      go_wp2_with (at_builtin; refine wpList_append_both rfl (.tmp 88) (.tmp 102) 46 rfl w1.heap.size 59 i0 (.agg #[.int .i64 0, .int .i64 0, .int .i64 0]) 3 24 Tryz.underlying46 hi0 hz0 hz1 hz2 rfl (by decide) _ LK.length (isscells LK) rfl HOr6.out w5.heap.size v6 I1.length (isscells I1) rfl HO6.out (isscells_one _) H63.out H64.out HC6.out ?_)
      intro v7 w7 hown7 hgrow7
      have hO7 : OwnK w7 w1.heap.size v7 (LK ++ I1) := by
        unfold OwnK
        rw [List.length_append, isscells_append]
        exact hown7
      have hx7 : Ext w1 w7 := HX16.out.grown hgrow7 (fun g hg => (World.ownsRow.lt HO.out g hg).1)
      have HXB7 := Lib.hid (blk_grown HXB6.out HOr6.out (by decide) hgrow7); have HPA7 := Lib.hid (blk_grown HPA6.out HOr6.out (by decide) hgrow7); have HPB7 := Lib.hid (blk_grown HPB6.out HOr6.out (by decide) hgrow7)
      have HIA7 := Lib.hid (own_grown HIA6.out HOr6.out (by decide) hgrow7); have HIB7 := Lib.hid (own_grown HIB6.out HOr6.out (by decide) hgrow7)
      have HO7 := Lib.hid hO7; have HX17 := Lib.hid hx7
      clear hO7 hown7 hgrow7 hx7 H63 H64 HC6
      obtain ⟨y0, y1, y2, y3, y4, y5, y6⟩ := blk7 HPA7.out
      obtain ⟨z0, z1, z2, z3, z4, z5, z6⟩ := blk7 HPB7.out
      obtain ⟨x0, x1, x2, x3, x4, x5⟩ := blk6 HXB7.out
      go_wp2_with fail
      refine (HLL2.out _ (HX1.out.trans HX17.out) A1 cA1 A2 cA2 (OwnI.plain HIA7.out).2.1 (OwnI.plain HIB7.out).2.1).mono ?_
      rintro e w8 ⟨v8, rfl, hO8, he8⟩
      have HX18 := Lib.hid (HX17.out.trans he8); have HOr8 := Lib.hid (own_ext HO7.out he8); have HO8 := Lib.hid hO8
      clear x0 x1 x2 x3 x4 x5 y0 y1 y2 y3 y4 y5 y6 z0 z1 z2 z3 z4 z5 z6 he8 hO8
      have H63 : Hid ((LK ++ I1).length + I2.length ≤ maxLen) := by show _ ≤ _; rw [List.length_append]; unfold maxLen; omega
      have H64 : Hid (((LK ++ I1).length + I2.length) * 24 ≤ 140737488355328) := by show _ ≤ _; rw [List.length_append]; omega
      have HC6 := Lib.hid HX18.out.size
      obtain ⟨LJ, hLJ⟩ : ∃ LJ, LJ = LK ++ I1 := ⟨_, rfl⟩
      rw [← hLJ] at H63 H64 HOr8
      have HLJ := Lib.hid hLJ; clear hLJ
      go_wp2_with (at_builtin; refine wpList_append_both rfl (.tmp 104) (.tmp 118) 46 rfl w1.heap.size 59 i0 (.agg #[.int .i64 0, .int .i64 0, .int .i64 0]) 3 24 Tryz.underlying46 hi0 hz0 hz1 hz2 rfl (by decide) _ LJ.length (isscells LJ) rfl HOr8.out w7.heap.size v8 I2.length (isscells I2) rfl HO8.out (isscells_one _) H63.out H64.out HC6.out ?_)
      intro v9 w9 hown9 hgrow9
      have hO9 : OwnK w9 w1.heap.size v9 (unmTo s (Z : Int) (k + 1)) := by
        rw [HTK.out, ← List.append_assoc, ← HLJ.out]
        unfold OwnK
        rw [List.length_append, isscells_append]
        exact hown9
      have hx9 : Ext w1 w9 := HX18.out.grown hgrow9 (fun g hg => (World.ownsRow.lt HOr8.out g hg).1)
      have HO9 := Lib.hid hO9; have HX19 := Lib.hid hx9
      clear hO9 hown9 hgrow9 hx9 H63 H64 HC6
      go_wp2_with fail
      go_roundw
      case rel => exact ⟨k + 1, by omega, by go_num, HT'.out, HO9.out, HX19.out⟩
      case measure => simp [intOf]; omega
end Go.Proofs.YtliijigdbpmpaaaGreat
