/- spec.Target, Judge, Within -/
import Derived.Test.YtkigmpholnfkbaaGreatKStC
import Derived.Test.YtkigmpholnfkbaaGreatKSpT
/- spec.isName -/
namespace Go.Proofs.YtkigmpholnfkbaaGreat
open Go.RowKit
set_option maxHeartbeats 800000 in
theorem spName_test (s : ByteArray) (w : World) (h0 : (s.toList == []) = false) (h1 : decide (24 < (s.size : Int)) = false) (h2 : (s.toList == [109, 105, 110]) = false) (h3 : (s.toList == [109, 97, 120]) = false) (hs : (s.size == 0) = false) :
    Calls Tryz.prog 32 #[.string s] w fun e w' => e = .returned (.bool (nameB s)) ∧ w = w' := by
  have h24 : s.size ≤ 24 := by simp at h1; omega
  have H0 : Hid ((!(s.size == 0) && !decide (24 < s.size) && !(s.toList == [109, 105, 110]) && !(s.toList == [109, 97, 120])) = true) := by
    show _ = true
    rw [h2, h3, hs]; simp; omega
  clear hs
  go_enter Tryz.func32, Tryz.ntmps32
  go_wp2_with fail
  go_loop [22] (fun i => ∃ k : Nat, k ≤ s.size ∧ i = .int .i64 k ∧ allB (chF s) k = true) (fun i => s.size - (intOf i).toNat)
  case atStart => exact ⟨0, Nat.zero_le _, rfl, rfl⟩
  case round =>
    obtain ⟨k, hk, rfl, ht⟩ := hrel
    have HT := Lib.hid ht; clear ht
    by_cases hlt : k < s.size
    · by_cases ha : 97 ≤ (s[k].toNat : Int)
      · by_cases hz : (s[k].toNat : Int) ≤ 122
        · go_wp2_with fail
          go_round
          case rel => exact ⟨k + 1, by omega, by go_num, allB_succ HT.out (by unfold chF smallB digitB; rw [← bt_eq hlt]; simp; omega)⟩
          case measure => simp [intOf]; omega
        · have hzb : decide ((s[k].toNat : Int) ≤ 122) = false := by simp; omega
          have h95 : ((s[k].toNat : Int) != 95) = true := by simp; omega
          by_cases hk0 : k = 0
          · subst hk0
            go_wp2_with fail
            go_ret
            exact ⟨ret_bool (name_false hlt (by unfold chF smallB digitB; rw [← bt_eq hlt]; simp; omega)), rfl⟩
          · have hkb : ((k : Int) == 0) = false := by simp; omega
            have hd : decide ((s[k].toNat : Int) < 48) = false := by simp; omega
            have hd' : decide (57 < (s[k].toNat : Int)) = true := by simp; omega
            go_wp2_with fail
            go_ret
            exact ⟨ret_bool (name_false hlt (by unfold chF smallB digitB; rw [← bt_eq hlt]; simp; omega)), rfl⟩
      · have hab : decide (97 ≤ (s[k].toNat : Int)) = false := by simp; omega
        by_cases hk0 : k = 0
        · subst hk0
          go_wp2_with fail
          go_ret
          exact ⟨ret_bool (name_false hlt (by unfold chF smallB digitB; rw [← bt_eq hlt]; simp; omega)), rfl⟩
        · have hkb : ((k : Int) == 0) = false := by simp; omega
          by_cases h95 : (s[k].toNat : Int) = 95
          · have h95b : ((s[k].toNat : Int) != 95) = false := by rw [h95]; decide
            have H95 := Lib.hid h95; clear h95
            go_wp2_with fail
            go_round
            case rel => exact ⟨k + 1, by omega, by go_num, allB_succ HT.out (by unfold chF smallB digitB; rw [← bt_eq hlt]; rw [H95.out]; simp; omega)⟩
            case measure => simp [intOf]; omega
          · have h95b : ((s[k].toNat : Int) != 95) = true := by simp; omega
            by_cases hd : (s[k].toNat : Int) < 48
            · have hdb : decide ((s[k].toNat : Int) < 48) = true := by simp; omega
              go_wp2_with fail
              go_ret
              exact ⟨ret_bool (name_false hlt (by unfold chF smallB digitB; rw [← bt_eq hlt]; simp; omega)), rfl⟩
            · have hdb : decide ((s[k].toNat : Int) < 48) = false := by simp; omega
              by_cases hd2 : 57 < (s[k].toNat : Int)
              · have hdc : decide (57 < (s[k].toNat : Int)) = true := by simp; omega
                go_wp2_with fail
                go_ret
                exact ⟨ret_bool (name_false hlt (by unfold chF smallB digitB; rw [← bt_eq hlt]; simp; omega)), rfl⟩
              · have hdc : decide (57 < (s[k].toNat : Int)) = false := by simp; omega
                have HC : Hid (chF s k = true) := by
                  show _ = _
                  unfold chF smallB digitB; rw [← bt_eq hlt]; simp; omega
                go_wp2_with fail
                go_round
                case rel => exact ⟨k + 1, by omega, by go_num, allB_succ HT.out HC.out⟩
                case measure => simp [intOf]; omega
    · go_wp2_with fail
      go_ret
      exact ⟨ret_bool (by
        obtain rfl : k = s.size := by omega
        unfold nameB; rw [HT.out, H0.out]; rfl), rfl⟩
theorem spName_any (s : ByteArray) (w : World) : Calls Tryz.prog 32 #[.string s] w fun e w' => e = .returned (.bool (nameB s)) ∧ w = w' := by
  cases h0 : (s.toList == [])
  case true =>
    have H : Hid (nameB s = false) := by
      have : (s.size == 0) = true := by
        have h : s.toList = [] := by simpa using h0
        have h' : s.size = 0 := by rw [ByteArray.toList_eq] at h; have h2 := congrArg List.length h; simpa using h2
        simp [h']
      show nameB s = false
      unfold nameB; rw [this]; rfl
    go_enter Tryz.func32, Tryz.ntmps32
    go_wp2_with fail
    go_ret
    exact ⟨ret_bool H.out.symm, rfl⟩
  cases h1 : decide (24 < (s.size : Int))
  case true =>
    have H : Hid (nameB s = false) := by
      have : decide (24 < s.size) = true := by simp at h1 ⊢; omega
      show nameB s = false
      unfold nameB; rw [this]; simp
    go_enter Tryz.func32, Tryz.ntmps32
    go_wp2_with fail
    go_ret
    exact ⟨ret_bool H.out.symm, rfl⟩
  cases h2 : (s.toList == [109, 105, 110])
  case true =>
    have H : Hid (nameB s = false) := by
      show nameB s = false
      unfold nameB; rw [h2]; simp
    go_enter Tryz.func32, Tryz.ntmps32
    go_wp2_with fail
    go_ret
    exact ⟨ret_bool H.out.symm, rfl⟩
  cases h3 : (s.toList == [109, 97, 120])
  case true =>
    have H : Hid (nameB s = false) := by
      show nameB s = false
      unfold nameB; rw [h3]; simp
    go_enter Tryz.func32, Tryz.ntmps32
    go_wp2_with fail
    go_ret
    exact ⟨ret_bool H.out.symm, rfl⟩
  exact spName_test s w h0 h1 h2 h3 (by
    rw [Bool.eq_false_iff] at h0 ⊢
    intro h
    apply h0
    have h' : s.size = 0 := by simpa using h
    have : s.toList.length = 0 := by rw [ByteArray.toList_eq]; simpa using h'
    simp [List.eq_nil_of_length_eq_zero this])
end Go.Proofs.YtkigmpholnfkbaaGreat
/- spec.Check -/
namespace Go.Proofs.YtkigmpholnfkbaaGreat
open Go.RowKit
theorem blk5 {t : TypeId} {w : World} {g : Nat} {v0 v1 v2 v3 v4 : Value} (h : Blk t w g [v0, v1, v2, v3, v4]) : w.cell? ⟨g, 0, none⟩ = some v0 ∧ w.cell? ⟨g, 1, none⟩ = some v1 ∧ w.cell? ⟨g, 2, none⟩ = some v2 ∧ w.cell? ⟨g, 3, none⟩ = some v3 ∧ w.cell? ⟨g, 4, none⟩ = some v4 :=
  ⟨h.cell 0, h.cell 1, h.cell 2, h.cell 3, h.cell 4⟩
def mdupF (l : List PomX) (k j : Nat) : Bool := decide ((gPm l j).nm.data.toList = (gPm l k).nm.data.toList)
def pm3 (p : PomX) : Int := if p.pl < 0 ∨ 1073741824 < p.pl ∨ p.mi < 0 ∨ 1073741824 < p.mi then 3 else 0
def pm2 (x : StyX) (p : PomX) : Int := if allB (pomRef x p) p.ps.length = false then 3 else pm3 p
def pm1 (x : StyX) (l : List PomX) (i : Nat) : Int := if (List.range i).any (mdupF l i) = true then 7 else pm2 x (gPm l i)
theorem pom_eq (x : StyX) (l : List PomX) (i : Nat) : pomE x l i = if nameB (gPm l i).nm = false ∨ (gPm l i).es.length ≠ (gPm l i).ps.length ∨ (gPm l i).ps.length = 0 ∨ 16 < (gPm l i).ps.length then 1 else pm1 x l i := rfl
theorem edge_no {s : Sty} {p e : Int} (h : ¬ (0 ≤ p ∧ p < s.ps.length ∧ 0 ≤ e ∧ e < (gPc s.ps p.toNat).es.length)) : edgeB s p e = false := by unfold edgeB; exact decide_eq_false h
theorem edge_yes {s : Sty} {p e : Int} (h : 0 ≤ p ∧ p < s.ps.length ∧ 0 ≤ e ∧ e < (gPc s.ps p.toNat).es.length) : edgeB s p e = true := by unfold edgeB; exact decide_eq_true h
theorem sps_len (x : StyX) : x.s.ps.length = x.ps.length := by simp [StyX.s]
theorem sps_get {x : StyX} {k : Nat} (h : k < x.ps.length) : gPc x.s.ps k = (gPx x.ps k).p := gPc_x h
set_option maxRecDepth 100000 in
set_option maxHeartbeats 6400000 in
theorem spCheck_any (a : StyA) (x : StyX) (A : Option Addr) (n c : Nat) (l : List PomX) (w : World) (hs : StyXAt w a x) (hN : x.sz.length ≤ 1000) (hZ : ∀ k, k < x.sz.length → (gB x.sz k).size ≤ 1000)
    (hP : PomsAt w A l) (hl : l.length = n) (hc : n ≤ c) (hc' : c ≤ 9223372036854775807) :
    Calls Tryz.prog 13 #[a.val, .slice A n c] w fun e w' => e = .returned (.int .i64 (spcE x l)) ∧ Ext w w' := by
  have HS := Lib.hid hs
  have HCC := Lib.hid (fun W (h : Ext w W) => styCheck_any a x W (hs.ext h) hN hZ)
  clear hs hN hZ
  have HP := Lib.hid hP; clear hP
  have HL := Lib.hid hl; clear hl
  obtain ⟨nm, AS, nS, cS, AM, nM, cM, AP, nP, cP, AU, nU, cU, AK, nK, cK, AO, nO, cO⟩ := a
  have HLP : Hid (x.ps.length = nP) := HS.out.lP
  have hbP : nP ≤ 9223372036854775807 := HS.out.bP
  have HPS := Lib.hid HS.out.P
  simp only [StyA.val] at HCC HPS ⊢
  clear HS
  obtain ⟨SP, hSP⟩ : ∃ SP, SP = spcE x l := ⟨_, rfl⟩
  rw [← hSP]
  unfold spcE at hSP
  have HSP := Lib.hid hSP; clear hSP
  go_enter Tryz.func13, Tryz.ntmps13
  go_wp2_with fail
  refine (HCC.out _ ((Ext.refl _).alloc _)).mono ?_
  rintro e w1 ⟨rfl, he1⟩
  have HB1 : Hid (Blk 29 w1 w.heap.size [.string nm, .slice AS nS cS, .slice AM nM cM, .slice AP nP cP, .slice AU nU cU, .slice AK nK cK, .slice AO nO cO]) := (Blk.new' rfl).ext he1
  have HX1 := Lib.hid (((Ext.refl w).alloc _).trans he1)
  clear he1 HCC
  obtain ⟨SE, hSE⟩ : ∃ SE, SE = styE x := ⟨_, rfl⟩
  rw [← hSE] at HSP ⊢
  clear hSE
  by_cases hz : SE = 0
  rotate_left
  · have hzb : (SE != 0) = true := by simp [hz]
    have HR : Hid (SP = SE) := by show _ = _; rw [HSP.out, if_pos hz]
    clear hz
    go_wp2_with fail
    go_ret
    exact ⟨ret_int HR.out.symm, HX1.out⟩
  subst hz
  by_cases h16 : 16 < n
  · have HR : Hid (SP = 5) := by show _ = _; rw [HSP.out, if_neg (by simp), if_pos (by rw [HL.out]; exact h16)]
    go_wp2_with fail
    go_ret
    exact ⟨ret_int HR.out.symm, HX1.out⟩
  have HR1 : Hid (SP = firstE (pomE x l) l.length) := by show _ = _; rw [HSP.out, if_neg (by simp), if_neg (by rw [HL.out]; exact h16)]
  clear HSP
  go_wp2_with fail
  go_loopw [23] (fun i wr => ∃ k : Nat, k ≤ n ∧ i = .int .i64 k ∧ firstE (pomE x l) k = 0 ∧ Ext w1 wr) (fun i _ => n - (intOf i).toNat)
  case atStart => exact ⟨0, Nat.zero_le _, rfl, rfl, Ext.refl _⟩
  case round =>
    obtain ⟨k, hk, rfl, hall, hx⟩ := hrel
    have HALL := Lib.hid hall; have HX := Lib.hid hx; clear hall hx
    by_cases hlt : k < n
    rotate_left
    · obtain rfl : k = n := by omega
      have HR : Hid (SP = 0) := by show _ = _; rw [HR1.out, HL.out]; exact HALL.out
      go_wp2_with fail
      go_ret
      exact ⟨ret_int HR.out.symm, HX1.out.trans HX.out⟩
    have HKL : Hid (k < l.length) := by show _ < _; rw [HL.out]; exact hlt
    obtain ⟨bp, op, q, hA, hq, hcq⟩ := (HP.out.ext (HX1.out.trans HX.out)) k HKL.out
    subst hA
    have HQ := Lib.hid hq; clear hq
    obtain ⟨pn, pAP, pnP, pcP, pAE, pnE, pcE, ppl, pmi⟩ := q
    have HQN : Hid ((gPm l k).nm = pn) := HQ.out.nm.symm
    have HQP : Hid ((gPm l k).ps.length = pnP) := HQ.out.lP
    have HQE : Hid ((gPm l k).es.length = pnE) := HQ.out.lE
    have HQL : Hid ((gPm l k).pl = ppl) := HQ.out.pl.symm
    have HQM : Hid ((gPm l k).mi = pmi) := HQ.out.mi.symm
    have HQA := Lib.hid HQ.out.P
    have HQB := Lib.hid HQ.out.E
    have hbq : pnP ≤ 9223372036854775807 := HQ.out.bP
    obtain ⟨a0, a1, a2, a3, a4⟩ := hcq
    simp only at a0 a1 a2 a3 a4 HQA HQB
    clear HQ
    have HPE := Lib.hid (pom_eq x l k)
    rw [HQN.out, HQE.out, HQP.out] at HPE
    have HFA : Hid (pomE x l k ≠ 0 → SP = pomE x l k) := fun h => by rw [HR1.out, firstE_at HKL.out HALL.out h]
    obtain ⟨PE, hPE⟩ : ∃ PE, PE = pomE x l k := ⟨_, rfl⟩
    rw [← hPE] at HPE HFA
    have HPD := Lib.hid hPE; clear hPE
    go_upto_region 9 with fail
    refine wp_at fun wq hWq => ?_
    have hNb : Blk 36 wq wr.heap.size [.string pn, .slice pAP pnP pcP, .slice pAE pnE pcE, .int .i64 ppl, .int .i64 pmi] := by rw [hWq]; exact Blk.new' rfl
    have hxq : Ext wr wq := by rw [hWq]; exact (Ext.refl _).alloc _
    obtain ⟨nb, hnb⟩ : ∃ nb, nb = wr.heap.size := ⟨_, rfl⟩
    rw [← hnb] at hNb ⊢
    have HNB := Lib.hid hNb
    have HXq := Lib.hid (HX.out.trans hxq)
    have HQA' := Lib.hid (HQA.out.ext hxq)
    have HQB' := Lib.hid (HQB.out.ext hxq)
    clear hWq hnb hxq hNb HX a0 a1 a2 a3 a4 HQA HQB
    obtain ⟨a0, a1, a2, a3, a4⟩ := blk5 HNB.out
    go_wp2_with fail
    refine (spName_any pn _).mono ?_
    rintro e w2 ⟨rfl, hw2⟩
    obtain rfl : wq = w2 := hw2
    cases hnb : nameB pn
    · have HR : Hid (SP = 1) := by
        have h1 : PE = 1 := by rw [HPE.out, if_pos (Or.inl hnb)]
        show _ = _; rw [HFA.out (by rw [h1]; decide), h1]
      clear hnb
      go_wp2_with fail
      go_ret
      exact ⟨ret_int HR.out.symm, HX1.out.trans HXq.out⟩
    by_cases g1 : pnE = pnP
    rotate_left
    · have HR : Hid (SP = 1) := by
        have h1 : PE = 1 := by rw [HPE.out, if_pos (Or.inr (Or.inl g1))]
        show _ = _; rw [HFA.out (by rw [h1]; decide), h1]
      have g1b : ((pnE : Int) != (pnP : Int)) = true := by simp; omega
      clear hnb g1
      go_wp2_with fail
      go_ret
      exact ⟨ret_int HR.out.symm, HX1.out.trans HXq.out⟩
    have HEQ := Lib.hid g1
    have g1b : ((pnE : Int) != (pnP : Int)) = false := by simp; omega
    by_cases g2 : pnP = 0
    · have HR : Hid (SP = 1) := by
        have h1 : PE = 1 := by rw [HPE.out, if_pos (Or.inr (Or.inr (Or.inl g2)))]
        show _ = _; rw [HFA.out (by rw [h1]; decide), h1]
      have g2b : ((pnP : Int) == 0) = true := by simp [g2]
      clear hnb g1 g2
      go_wp2_with fail
      go_ret
      exact ⟨ret_int HR.out.symm, HX1.out.trans HXq.out⟩
    have g2b : ((pnP : Int) == 0) = false := by simp; exact g2
    by_cases g3 : 16 < pnP
    · have HR : Hid (SP = 1) := by
        have h1 : PE = 1 := by rw [HPE.out, if_pos (Or.inr (Or.inr (Or.inr g3)))]
        show _ = _; rw [HFA.out (by rw [h1]; decide), h1]
      clear hnb g1 g2
      go_wp2_with fail
      go_ret
      exact ⟨ret_int HR.out.symm, HX1.out.trans HXq.out⟩
    have HPE1 : Hid (PE = pm1 x l k) := by show _ = _; rw [HPE.out, if_neg (by rw [hnb]; simp; omega)]
    clear hnb g1 HPE
    have hkc : k ≤ c := by omega
    go_wp2_with fail
    clear a0 a1 a2 a3 a4 g2b g1b
    go_loopw [54] (fun i wr => ∃ j : Nat, j ≤ k ∧ i = .int .i64 j ∧ (∀ q, q < j → mdupF l k q = false) ∧ Ext wq wr) (fun i _ => k - (intOf i).toNat)
    case atStart => exact ⟨0, Nat.zero_le _, rfl, fun q hq => absurd hq (Nat.not_lt_zero _), Ext.refl _⟩
    case round =>
      obtain ⟨j, hj, rfl, hall, hx⟩ := hrel
      have HAL2 := Lib.hid hall; have HX := Lib.hid hx; clear hall hx
      obtain ⟨a0, a1, a2, a3, a4⟩ := blk5 (HNB.out.ext HX.out)
      by_cases hjk : j < k
      · obtain ⟨bp', op', q, hA, hq, hcq⟩ := (HP.out.ext ((HX1.out.trans HXq.out).trans HX.out)) j (by have := HKL.out; omega)
        injection hA with hA
        injection hA with e1 e2
        subst e1; subst e2
        have HQJ : Hid ((gPm l j).nm = q.nm) := hq.nm.symm
        clear hq
        obtain ⟨qn, qAP, qnP, qcP, qAE, qnE, qcE, qpl, qmi⟩ := q
        obtain ⟨b0, b1, b2, b3, b4⟩ := hcq
        simp only at b0 b1 b2 b3 b4 HQJ
        have hpl : nb < (wr.heap.size) := (HNB.out.ext HX.out).lt
        have HAL : Hid (Ext wq (wr.alloc (.cells #[.string qn, .slice qAP qnP qcP, .slice qAE qnE qcE, .int .i64 qpl, .int .i64 qmi] 36))) := HX.out.alloc _
        cases heq : (qn.toList == pn.toList)
        · have HD : Hid (mdupF l k j = false) := by show _ = _; unfold mdupF; rw [HQJ.out, HQN.out, ← str_eq]; exact heq
          go_wp2_with fail
          go_roundw
          case rel => exact ⟨j + 1, by omega, by go_num, fun q hq => by
            rcases Nat.lt_succ_iff_lt_or_eq.1 hq with h | h
            · exact HAL2.out q h
            · subst h; exact HD.out, HAL.out⟩
          case measure => simp [intOf]; omega
        · have HD : Hid (mdupF l k j = true) := by show _ = _; unfold mdupF; rw [HQJ.out, HQN.out, ← str_eq]; exact heq
          have HR : Hid (SP = 7) := by
            have h1 : PE = 7 := by rw [HPE1.out]; unfold pm1; rw [if_pos (any_at hjk HD.out)]
            show _ = _; rw [HFA.out (by rw [h1]; decide), h1]
          go_wp2_with fail
          go_ret
          exact ⟨ret_int HR.out.symm, (HX1.out.trans HXq.out).trans HAL.out⟩
      obtain rfl : j = k := by omega
      have HPE2 : Hid (PE = pm2 x (gPm l j)) := by show _ = _; rw [HPE1.out]; unfold pm1; rw [if_neg (by rw [any_none HAL2.out]; simp)]
      clear HAL2 HPE1 hjk hj
      obtain ⟨W1, hW1⟩ : ∃ W1 : World, W1 = wr := ⟨_, rfl⟩
      rw [← hW1] at a0 a1 a2 a3 a4 HX ⊢
      clear hW1
      have HXV := Lib.hid (HXq.out.trans HX.out)
      have HNV := Lib.hid (HNB.out.ext HX.out)
      have HBV := Lib.hid (HB1.out.ext HXV.out)
      have HXW := Lib.hid HX.out
      clear HX
      go_wp2_with fail
      clear a0 a1 a2 a3 a4
      go_loopw [67] (fun i wr => ∃ m : Nat, m ≤ pnP ∧ i = .int .i64 m ∧ allB (pomRef x (gPm l j)) m = true ∧ Ext W1 wr) (fun i _ => pnP - (intOf i).toNat)
      case atStart => exact ⟨0, Nat.zero_le _, rfl, rfl, Ext.refl _⟩
      case round =>
        obtain ⟨m, hm, rfl, hall, hx⟩ := hrel
        have HAL3 := Lib.hid hall; have HX := Lib.hid hx; clear hall hx
        obtain ⟨a0, a1, a2, a3, a4⟩ := blk5 (HNV.out.ext HX.out)
        obtain ⟨c0, c1, c2, c3, c4, c5, c6⟩ := blk7 (HBV.out.ext HX.out)
        by_cases hmn : m < pnP
        · have hmE : m < pnE := by have := HEQ.out; omega
          obtain ⟨bi, oi, hAI, i0⟩ := (HQA'.out.ext (HXW.out.trans HX.out)).g (k := m) (by rw [HQP.out]; exact hmn)
          subst hAI
          obtain ⟨be, oe, hAE, e0⟩ := (HQB'.out.ext (HXW.out.trans HX.out)).g (k := m) (by rw [HQE.out]; exact hmE)
          subst hAE
          have HRF : Hid (pomRef x (gPm l j) m = edgeB x.s (gI (gPm l j).ps m) (gI (gPm l j).es m)) := rfl
          have HFL : Hid (pomRef x (gPm l j) m = false → SP = 3) := fun h => by
            have h1 : PE = 3 := by rw [HPE2.out]; unfold pm2; rw [if_pos (by rw [HQP.out]; exact allB_false hmn h)]
            rw [HFA.out (by rw [h1]; decide), h1]
          obtain ⟨pc, hpc⟩ : ∃ pc, pc = gI (gPm l j).ps m := ⟨_, rfl⟩
          obtain ⟨ed, hed⟩ : ∃ ed, ed = gI (gPm l j).es m := ⟨_, rfl⟩
          rw [← hpc] at i0 HRF
          rw [← hed] at e0 HRF
          clear hpc hed
          by_cases q0 : pc < 0
          · have HR := Lib.hid (HFL.out (by rw [HRF.out]; exact edge_no (by omega)))
            have q0b : decide (pc < 0) = true := decide_eq_true q0
            go_wp2_with fail
            go_quiet (fail)
            go_wp2_with fail
            go_ret
            exact ⟨ret_int HR.out.symm, (HX1.out.trans HXV.out).trans (HX.out.drewN _)⟩
          have q0b : decide (pc < 0) = false := decide_eq_false q0
          by_cases q1 : (nP : Int) ≤ pc
          · have HR := Lib.hid (HFL.out (by rw [HRF.out]; exact edge_no (by rw [sps_len, HLP.out]; omega)))
            have q1b : decide ((nP : Int) ≤ pc) = true := decide_eq_true q1
            go_wp2_with fail
            go_quiet (fail)
            go_wp2_with fail
            go_ret
            exact ⟨ret_int HR.out.symm, (HX1.out.trans HXV.out).trans (HX.out.drewN _)⟩
          have q1b : decide ((nP : Int) ≤ pc) = false := decide_eq_false q1
          by_cases q2 : ed < 0
          · have HR := Lib.hid (HFL.out (by rw [HRF.out]; exact edge_no (by omega)))
            have q2b : decide (ed < 0) = true := decide_eq_true q2
            go_wp2_with fail
            go_quiet (fail)
            go_wp2_with fail
            go_ret
            exact ⟨ret_int HR.out.symm, (HX1.out.trans HXV.out).trans (HX.out.drewN _)⟩
          have q2b : decide (ed < 0) = false := decide_eq_false q2
          obtain ⟨PC, rfl⟩ := Int.eq_ofNat_of_zero_le (show 0 ≤ pc by omega)
          have hPC : PC < nP := by omega
          have HPCL : Hid (PC < x.ps.length) := by show _ < _; rw [HLP.out]; exact hPC
          obtain ⟨bz, oz, q, hAZ, hq, hcq, _, _⟩ := (HPS.out.ext ((HX1.out.trans HXV.out).trans HX.out)) PC HPCL.out
          subst hAZ
          have d1 := hcq.c1
          obtain ⟨zA, hzA⟩ : ∃ z, z = q.AE := ⟨_, rfl⟩
          obtain ⟨zn, hzn⟩ : ∃ z, z = q.nE := ⟨_, rfl⟩
          obtain ⟨zc, hzc⟩ : ∃ z, z = q.cE := ⟨_, rfl⟩
          rw [← hzA, ← hzn, ← hzc] at d1
          have HZN : Hid ((gPx x.ps PC).p.es.length = zn) := by show _ = _; rw [hzn]; exact hq.le
          clear hq hcq hzA hzn hzc
          by_cases q3 : (zn : Int) ≤ ed
          · have HR := Lib.hid (HFL.out (by rw [HRF.out]; exact edge_no (by rw [Int.toNat_natCast, sps_get HPCL.out, HZN.out]; omega)))
            have q3b : decide ((zn : Int) ≤ ed) = true := decide_eq_true q3
            go_wp2_with fail
            go_quiet (fail)
            go_wp2_with fail
            go_ret
            exact ⟨ret_int HR.out.symm, (HX1.out.trans HXV.out).trans (HX.out.drewN _)⟩
          have q3b : decide ((zn : Int) ≤ ed) = false := decide_eq_false q3
          have HRT : Hid (pomRef x (gPm l j) m = true) := by show _ = _; rw [HRF.out]; exact edge_yes (by rw [Int.toNat_natCast, sps_get HPCL.out, HZN.out, sps_len, HLP.out]; omega)
          go_wp2_with fail
          go_quiet (fail)
          go_wp2_with fail
          go_roundw
          case rel => exact ⟨m + 1, by omega, by go_num, allB_succ HAL3.out HRT.out, HX.out.drewN _⟩
          case measure => simp [intOf]; omega
        obtain rfl : m = pnP := by omega
        have HPE3 : Hid (PE = if ppl < 0 ∨ 1073741824 < ppl ∨ pmi < 0 ∨ 1073741824 < pmi then 3 else 0) := by
          show _ = _; rw [HPE2.out]; unfold pm2; rw [if_neg (by rw [HQP.out, HAL3.out]; simp)]; unfold pm3; rw [HQL.out, HQM.out]
        clear HPE2 HAL3
        have HFL : Hid (ppl < 0 ∨ 1073741824 < ppl ∨ pmi < 0 ∨ 1073741824 < pmi → SP = 3) := fun h => by
          have h1 : PE = 3 := by rw [HPE3.out, if_pos h]
          rw [HFA.out (by rw [h1]; decide), h1]
        by_cases q0 : ppl < 0
        · have HR := Lib.hid (HFL.out (by omega))
          go_wp2_with fail
          go_ret
          exact ⟨ret_int HR.out.symm, (HX1.out.trans HXV.out).trans HX.out⟩
        by_cases q1 : 1073741824 < ppl
        · have HR := Lib.hid (HFL.out (by omega))
          go_wp2_with fail
          go_ret
          exact ⟨ret_int HR.out.symm, (HX1.out.trans HXV.out).trans HX.out⟩
        by_cases q2 : pmi < 0
        · have HR := Lib.hid (HFL.out (by omega))
          go_wp2_with fail
          go_ret
          exact ⟨ret_int HR.out.symm, (HX1.out.trans HXV.out).trans HX.out⟩
        by_cases q3 : 1073741824 < pmi
        · have HR := Lib.hid (HFL.out (by omega))
          go_wp2_with fail
          go_ret
          exact ⟨ret_int HR.out.symm, (HX1.out.trans HXV.out).trans HX.out⟩
        have HZ : Hid (pomE x l j = 0) := by show _ = _; rw [← HPD.out, HPE3.out, if_neg (by omega)]
        go_wp2_with fail
        go_roundw
        case rel => exact ⟨j + 1, by omega, by go_num, firstE_succ HALL.out HZ.out, HXV.out.trans HX.out⟩
        case measure => simp [intOf]; omega
end Go.Proofs.YtkigmpholnfkbaaGreat
/- spec.target, Target -/
namespace Go.Proofs.YtkigmpholnfkbaaGreat
open Go.RowKit
theorem tgN_bd (x : StyX) (p : PomX) (m : Int) (k : Nat) : tgN x p m k ≤ 1000000000000 := by unfold tgN grdN; exact lengthN_bd _
theorem tgTo_bd (x : StyX) (p : PomX) (m : Int) : ∀ k, tgTo x p m k ≤ k * 1000000000000
  | 0 => Nat.zero_le _
  | k + 1 => by have := tgTo_bd x p m k; have := tgN_bd x p m k; unfold tgTo; omega
def RetTg (w : World) (v r : Int) (e : Ending) (w' : World) : Prop := e = .returned (.tuple #[.int .i64 v, .int .i64 r]) ∧ Ext w w'
theorem tgV_ok {x : StyX} {p : PomX} {m : Int} (h : tgE x p m = 0) : tgV x p m = (tgTo x p m p.ps.length : Int) := by unfold tgV; rw [if_neg (fun h' => h' h)]
theorem tgV_bad {x : StyX} {p : PomX} {m : Int} (h : tgE x p m ≠ 0) : tgV x p m = 0 := by unfold tgV; rw [if_pos h]
set_option maxRecDepth 100000 in
set_option maxHeartbeats 3200000 in
theorem target_any (a : StyA) (x : StyX) (q : PomA) (p : PomX) (m : Int) (w : World) (hs : StyXAt w a x) (hp : PomAt w q p) (hes : p.es.length = p.ps.length) (h16 : p.ps.length ≤ 16)
    (hrf : ∀ k, k < p.ps.length → edgeB x.s (gI p.ps k) (gI p.es k) = true) :
    Calls Tryz.prog 35 #[a.val, q.val, .int .i64 m] w (RetTg w (tgV x p m) (tgE x p m)) := by
  have HS := Lib.hid hs
  have HP := Lib.hid hp
  have HRF := Lib.hid hrf
  clear hs hp hrf
  obtain ⟨nm, AS, nS, cS, AM, nM, cM, AP, nP, cP, AU, nU, cU, AK, nK, cK, AO, nO, cO⟩ := a
  have HLP : Hid (x.ps.length = nP) := HS.out.lP
  have hbP : nP ≤ 9223372036854775807 := HS.out.bP
  have HPS := Lib.hid HS.out.P
  clear HS
  obtain ⟨pn, pAP, pnP, pcP, pAE, pnE, pcE, ppl, pmi⟩ := q
  have HQP : Hid (p.ps.length = pnP) := HP.out.lP
  have HQE : Hid (p.es.length = pnE) := HP.out.lE
  have HQA := Lib.hid HP.out.P
  have HQB := Lib.hid HP.out.E
  have hn16 : pnP ≤ 16 := by have := HQP.out; omega
  obtain rfl : pnP = pnE := by have := HQP.out; have := HQE.out; omega
  clear HP hes h16
  simp only [StyA.val, PomA.val] at HPS HQA HQB ⊢
  go_enter Tryz.func35, Tryz.ntmps35
  go_upto_region 1 with fail
  refine wp_at fun W0 hW0 => ?_
  have HB0 : Hid (Blk 29 W0 w.heap.size [.string nm, .slice AS nS cS, .slice AM nM cM, .slice AP nP cP, .slice AU nU cU, .slice AK nK cK, .slice AO nO cO]) := by show Blk _ _ _ _; rw [hW0]; exact (Blk.new' rfl).ext ((Ext.refl _).alloc _)
  have HN0 : Hid (Blk 36 W0 (w.heap.size + 1) [.string pn, .slice pAP pnP pcP, .slice pAE pnP pcE, .int .i64 ppl, .int .i64 pmi]) := by show Blk _ _ _ _; rw [hW0]; exact Blk.new' (by simp)
  have HX0 : Hid (Ext w W0) := by show Ext _ _; rw [hW0]; exact ((Ext.refl _).alloc _).alloc _
  clear hW0
  obtain ⟨a0, a1, a2, a3, a4⟩ := blk5 HN0.out
  go_wp2_with fail
  clear a0 a1 a2 a3 a4
  go_loopw [8, 17] (fun s i wr => ∃ k : Nat, k ≤ pnP ∧ i = .int .i64 k ∧ s = .int .i64 (tgTo x p m k : Int) ∧ firstE (tgR x p m) k = 0 ∧ Ext W0 wr) (fun _ i _ => pnP - (intOf i).toNat)
  case atStart => exact ⟨0, Nat.zero_le _, rfl, rfl, rfl, Ext.refl _⟩
  case round =>
    obtain ⟨k, hk, rfl, rfl, hall, hx⟩ := hrel
    have HALL := Lib.hid hall; have HX := Lib.hid hx; clear hall hx
    have hbd := tgTo_bd x p m k
    have HTS : Hid (tgTo x p m (k + 1) = tgTo x p m k + tgN x p m k) := rfl
    obtain ⟨S, hS⟩ : ∃ S, S = tgTo x p m k := ⟨_, rfl⟩
    rw [← hS] at hbd HTS ⊢
    have hSb : S ≤ 16000000000000 := by omega
    have HSS := Lib.hid hS
    clear hbd hS
    by_cases hlt : k < pnP
    rotate_left
    · obtain rfl : k = pnP := by omega
      have HE : Hid (tgE x p m = 0) := by show _ = _; unfold tgE; rw [HQP.out]; exact HALL.out
      go_wp2_with fail
      go_ret2
      exact ⟨by rw [tgV_ok HE.out, HE.out, HQP.out, ← HSS.out]; rfl, HX0.out.trans HX.out⟩
    have HKL : Hid (k < p.ps.length) := by show _ < _; rw [HQP.out]; exact hlt
    obtain ⟨bi, oi, hAI, i0⟩ := (HQA.out.ext (HX0.out.trans HX.out)).g (k := k) HKL.out
    subst hAI
    have hed := HRF.out k HKL.out
    unfold edgeB at hed
    have hed' := of_decide_eq_true hed
    clear hed
    have HTR : Hid (tgR x p m k = gradedR (gPx x.ps (gI p.ps k).toNat).p.es (gPx x.ps (gI p.ps k).toNat).p.cs m) := rfl
    have HTN : Hid (tgN x p m k = lengthN (gE (gradedE (gPx x.ps (gI p.ps k).toNat).p.es (gPx x.ps (gI p.ps k).toNat).p.cs m) (gI p.es k).toNat).2) := rfl
    obtain ⟨pc, hpc⟩ : ∃ pc, pc = gI p.ps k := ⟨_, rfl⟩
    obtain ⟨ed, hed⟩ : ∃ ed, ed = gI p.es k := ⟨_, rfl⟩
    rw [← hpc] at i0 hed' HTR HTN
    rw [← hed] at hed' HTN
    have HED := Lib.hid hed
    clear hpc hed
    obtain ⟨q0, q1, q2, q3⟩ := hed'
    obtain ⟨PC, rfl⟩ := Int.eq_ofNat_of_zero_le q0
    obtain ⟨ED, rfl⟩ := Int.eq_ofNat_of_zero_le q2
    rw [sps_len, HLP.out] at q1
    have hPC : PC < nP := by omega
    have HPCL : Hid (PC < x.ps.length) := by show _ < _; rw [HLP.out]; exact hPC
    rw [Int.toNat_natCast, sps_get HPCL.out] at q3
    rw [Int.toNat_natCast] at HTR HTN
    rw [Int.toNat_natCast] at HTN
    obtain ⟨bz, oz, qa, hAZ, hq, hcq, hzz1, hzz2⟩ := (HPS.out.ext (HX0.out.trans HX.out)) PC HPCL.out
    subst hAZ
    clear hzz1 hzz2
    obtain ⟨es, hes⟩ : ∃ es, es = (gPx x.ps PC).p.es := ⟨_, rfl⟩
    obtain ⟨cs, hcs⟩ : ∃ cs, cs = (gPx x.ps PC).p.cs := ⟨_, rfl⟩
    have HGR := Lib.hid (fun W (h : Ext wr W) => graded_any qa.nm qa.AE qa.AN qa.AC qa.AW qa.nE qa.cE qa.nN qa.cN qa.nC qa.cC qa.nW qa.cW qa.gr m qa.mt es cs W (by rw [hes]; exact hq.e.ext h) (by rw [hes]; exact hq.le) hq.ce hq.ce' (by rw [hcs]; exact hq.c.ext h) (by rw [hcs]; exact hq.lc) hq.nc)
    have HLZ : Hid (es.length = qa.nE) := by show _ = _; rw [hes]; exact hq.le
    rw [← hes] at q3 HTR HTN
    rw [← hcs] at HTR HTN
    clear hq hes hcs
    obtain ⟨znm, zAE, znE, zcE, zgr, zAN, znN, zcN, zAC, znC, zcC, zAW, znW, zcW, zmt⟩ := qa
    obtain ⟨d0, d1, d2, d3, d4, d5, d6⟩ := hcq
    simp only at d0 d1 d2 d3 d4 d5 d6 HGR HLZ
    rw [HLZ.out] at q3
    have hED : ED < znE := by omega
    obtain ⟨c0, c1, c2, c3, c4, c5, c6⟩ := blk7 (HB0.out.ext HX.out)
    clear q0 q1 q2 q3
    go_wp2_with fail
    refine (HGR.out _ (Ext.refl _)).mono ?_
    rintro e w1 ⟨v1, rfl, hv, hv', he1⟩
    have HX1 := Lib.hid (HX.out.trans he1)
    clear he1 c0 c1 c2 c3 c4 c5 c6 d0 d1 d2 d3 d4 d5 d6 HGR i0
    by_cases hz : gradedR es cs m = 0
    rotate_left
    · have hvf := hv' hz
      subst hvf
      have hzb : (gradedR es cs m != 0) = true := by simp [hz]
      have HE : Hid (tgE x p m = gradedR es cs m) := by show _ = _; unfold tgE; rw [firstE_at HKL.out HALL.out (by rw [HTR.out]; exact hz), HTR.out]
      obtain ⟨R, hR⟩ : ∃ R, R = gradedR es cs m := ⟨_, rfl⟩
      rw [← hR] at hz hzb HE ⊢
      have HZ := Lib.hid hz
      clear hv hv' hz hR
      go_wp2_with fail
      go_ret2
      exact ⟨by rw [tgV_bad (by rw [HE.out]; exact HZ.out), HE.out]; rfl, HX0.out.trans HX1.out⟩
    have hO := hv hz
    have HLC := Lib.hid (graded_lines hz (show ED < es.length by rw [HLZ.out]; exact hED))
    have HTZ : Hid (tgR x p m k = 0) := by show _ = _; rw [HTR.out]; exact hz
    obtain ⟨A1, c1', hvf, hE1, _, _⟩ := OwnE.slice' (n := znE) hO (by rw [gradedE_len]; exact HLZ.out)
    subst hvf
    obtain ⟨bg, og, LG, cG, hA1, _, g1, hSG, _, _⟩ := hE1.g (k := ED) (by rw [gradedE_len, HLZ.out]; exact hED)
    subst hA1
    obtain ⟨lg, hlg⟩ : ∃ lg, lg = (gE (gradedE es cs m) ED).2 := ⟨_, rfl⟩
    rw [← hlg] at g1 hSG HLC HTN
    obtain ⟨ng, hng⟩ : ∃ ng, ng = lg.length := ⟨_, rfl⟩
    rw [← hng] at g1
    rw [hz]
    have HNG := Lib.hid hng; have HSG := Lib.hid hSG
    clear hv hv' hz hO hE1 hlg hng hSG HTR
    obtain ⟨a0, a1, a2, a3, a4⟩ := blk5 (HN0.out.ext HX1.out)
    obtain ⟨be, oe, hAE, e0⟩ := (HQB.out.ext (HX0.out.trans HX1.out)).g (k := k) (by rw [HQE.out]; exact hlt)
    subst hAE
    rw [← HED.out] at e0
    go_wp2_with fail
    refine (length_any LG ng cG lg _ HSG.out HNG.out.symm).mono ?_
    rintro e w2 ⟨rfl, he2⟩
    rw [HLC.out]
    have HX2 := Lib.hid (HX1.out.trans he2)
    have hnb := tgN_bd x p m k
    rw [HTN.out] at hnb
    have HTS' : Hid (tgTo x p m (k + 1) = S + lengthN lg) := by show _ = _; rw [HTS.out, HTN.out]
    obtain ⟨LN, hLN⟩ : ∃ LN, LN = lengthN lg := ⟨_, rfl⟩
    rw [← hLN] at hnb HTS' ⊢
    clear he2 a0 a1 a2 a3 a4 g1 e0 hLN
    go_wp2_with fail
    go_roundw
    case rel => exact ⟨k + 1, by omega, by go_num, by rw [HTS'.out]; go_num, firstE_succ HALL.out HTZ.out, HX2.out⟩
    case measure => simp [intOf]; omega
end Go.Proofs.YtkigmpholnfkbaaGreat
namespace Go.Proofs.YtkigmpholnfkbaaGreat
open Go.RowKit
theorem gPm_one (p : PomX) : gPm [p] 0 = p := rfl
theorem poms_one {w : World} {g : Nat} {q : PomA} {p : PomX} (h : Blk 36 w g (PomA.cells q)) (hp : PomAt w q p) : PomsAt w (some ⟨g, 0, none⟩) [p] := fun k hk => by
  obtain rfl : k = 0 := by simpa using hk
  obtain ⟨c0, c1, c2, c3, c4⟩ := blk5 h
  exact ⟨g, 0, q, rfl, hp, c0, c1, c2, c3, c4⟩
theorem targ_1 {x : StyX} {p : PomX} {z : Int} (h : spcE x [p] ≠ 0) : targE x p z = spcE x [p] ∧ targV x p z = 0 := by
  have e : targE x p z = spcE x [p] := by unfold targE; rw [if_pos h]
  refine ⟨e, ?_⟩
  unfold targV; rw [e, if_pos h]
theorem targ_2 {x : StyX} {p : PomX} {z : Int} (h : spcE x [p] = 0) (hz : z < 0 ∨ (x.sz.length : Int) ≤ z) : targE x p z = 3 ∧ targV x p z = 0 := by
  have e : targE x p z = 3 := by unfold targE; rw [if_neg (fun h' => h' h), if_pos hz]
  refine ⟨e, ?_⟩
  unfold targV; rw [e, if_pos (by decide)]
theorem targ_3 {x : StyX} {p : PomX} {z : Int} (h : spcE x [p] = 0) (hz : ¬ (z < 0 ∨ (x.sz.length : Int) ≤ z)) : targE x p z = tgE x p (gI x.ms z.toNat) ∧ targV x p z = tgV x p (gI x.ms z.toNat) := by
  have e : targE x p z = tgE x p (gI x.ms z.toNat) := by unfold targE; rw [if_neg (fun h' => h' h), if_neg hz]
  refine ⟨e, ?_⟩
  unfold targV tgV; rw [e]
theorem sty_ms {x : StyX} (h : styE x = 0) : x.ms.length = x.sz.length := (whole_ms (styE_zero h).1).1
set_option maxRecDepth 100000 in
set_option maxHeartbeats 3200000 in
theorem targX_any (a : StyA) (x : StyX) (q : PomA) (p : PomX) (z : Int) (w : World) (hs : StyXAt w a x) (hN : x.sz.length ≤ 1000) (hZ : ∀ k, k < x.sz.length → (gB x.sz k).size ≤ 1000) (hp : PomAt w q p) :
    Calls Tryz.prog 15 #[a.val, q.val, .int .i64 z] w (RetTg w (targV x p z) (targE x p z)) := by
  have HS := Lib.hid hs
  have HQ := Lib.hid hp
  have HCC := Lib.hid (fun W g (h : Ext w W) (hb : Blk 36 W g (PomA.cells q)) => spCheck_any a x (some ⟨g, 0, none⟩) 1 1 [p] W (hs.ext h) hN hZ (poms_one hb (hp.ext h)) rfl (Nat.le_refl _) (by omega))
  have HCT := Lib.hid (fun (hok : PomOk x p) W m (h : Ext w W) => target_any a x q p m W (hs.ext h) (hp.ext h) hok.le hok.n1 hok.rf)
  clear hs hp hN hZ
  obtain ⟨nm, AS, nS, cS, AM, nM, cM, AP, nP, cP, AU, nU, cU, AK, nK, cK, AO, nO, cO⟩ := a
  have HLS : Hid (x.sz.length = nS) := HS.out.lS
  have HLM : Hid (x.ms.length = nM) := HS.out.lM
  have HMS := Lib.hid HS.out.M
  have hbS : nS ≤ 9223372036854775807 := HS.out.bS
  clear HS HQ
  obtain ⟨pn, pAP, pnP, pcP, pAE, pnE, pcE, ppl, pmi⟩ := q
  simp only [StyA.val, PomA.val, PomA.cells] at HMS HCC HCT ⊢
  have HT1 := Lib.hid (@targ_1 x p z)
  have HT2 := Lib.hid (@targ_2 x p z)
  have HT3 := Lib.hid (@targ_3 x p z)
  have HS1 := Lib.hid (@spcE_one x p)
  obtain ⟨TE, hTE⟩ : ∃ y, y = targE x p z := ⟨_, rfl⟩
  obtain ⟨TV, hTV⟩ : ∃ y, y = targV x p z := ⟨_, rfl⟩
  rw [← hTE, ← hTV] at HT1 HT2 HT3 ⊢
  clear hTE hTV
  go_enter Tryz.func15, Tryz.ntmps15
  go_wp2_with fail
  refine (HCC.out _ (w.heap.size + 1 + 1) ((((Ext.refl _).alloc _).alloc _).alloc _) (Blk.new' (by simp))).mono ?_
  rintro e w1 ⟨rfl, he1⟩
  have HB1 : Hid (Blk 29 w1 w.heap.size [.string nm, .slice AS nS cS, .slice AM nM cM, .slice AP nP cP, .slice AU nU cU, .slice AK nK cK, .slice AO nO cO]) := (((Blk.new' rfl).ext ((Ext.refl _).alloc _)).ext ((Ext.refl _).alloc _)).ext he1
  have HN1 : Hid (Blk 36 w1 (w.heap.size + 1) [.string pn, .slice pAP pnP pcP, .slice pAE pnE pcE, .int .i64 ppl, .int .i64 pmi]) := ((Blk.new' (by simp)).ext ((Ext.refl _).alloc _)).ext he1
  have HX1 : Hid (Ext w w1) := ((((Ext.refl _).alloc _).alloc _).alloc _).trans he1
  clear he1 HCC
  obtain ⟨SP, hSP⟩ : ∃ y, y = spcE x [p] := ⟨_, rfl⟩
  rw [← hSP] at HT1 HT2 HT3 HS1 ⊢
  clear hSP
  by_cases hz : SP = 0
  rotate_left
  · have HR := Lib.hid (HT1.out hz)
    have hzb : (SP != 0) = true := by simp [hz]
    clear hz
    go_wp2_with fail
    go_ret2
    exact ⟨by rw [HR.out.1, HR.out.2]; rfl, HX1.out⟩
  obtain ⟨hse, hok⟩ := HS1.out.1 hz
  have HML : Hid (nM = nS) := by show _ = _; rw [← HLM.out, ← HLS.out]; exact sty_ms hse
  have HCU := Lib.hid (HCT.out hok)
  have HT2' := Lib.hid (HT2.out hz)
  have HT3' := Lib.hid (HT3.out hz)
  rw [HLS.out] at HT2' HT3'
  subst hz
  clear HT1 HT2 HT3 HS1 HCT hse hok
  obtain ⟨c0, c1, c2, c3, c4, c5, c6⟩ := blk7 HB1.out
  by_cases g0 : z < 0
  · have HR := Lib.hid (HT2'.out (Or.inl g0))
    go_wp2_with fail
    go_ret2
    exact ⟨by rw [HR.out.1, HR.out.2]; rfl, HX1.out⟩
  by_cases g1 : (nS : Int) ≤ z
  · have HR := Lib.hid (HT2'.out (Or.inr g1))
    go_wp2_with fail
    go_ret2
    exact ⟨by rw [HR.out.1, HR.out.2]; rfl, HX1.out⟩
  have HR := Lib.hid (HT3'.out (by omega))
  clear HT2' HT3'
  obtain ⟨Z, rfl⟩ := Int.eq_ofNat_of_zero_le (show 0 ≤ z by omega)
  rw [Int.toNat_natCast] at HR
  have hZM : Z < nM := by have := HML.out; omega
  obtain ⟨bm, om, hAM, m0⟩ := (HMS.out.ext HX1.out).g (k := Z) (by rw [HLM.out]; exact hZM)
  subst hAM
  obtain ⟨M, hM⟩ : ∃ M, M = gI x.ms Z := ⟨_, rfl⟩
  rw [← hM] at m0 HR
  clear hM
  obtain ⟨a0, a1, a2, a3, a4⟩ := blk5 HN1.out
  obtain ⟨ME, hME⟩ : ∃ y, y = tgE x p M := ⟨_, rfl⟩
  obtain ⟨MV, hMV⟩ : ∃ y, y = tgV x p M := ⟨_, rfl⟩
  rw [← hME, ← hMV] at HR
  have HCV : Hid (∀ W, Ext w1 W → Calls Tryz.prog 35 #[.agg #[.string nm, .slice AS nS cS, .slice (some ⟨bm, om, none⟩) nM cM, .slice AP nP cP, .slice AU nU cU, .slice AK nK cK, .slice AO nO cO], .agg #[.string pn, .slice pAP pnP pcP, .slice pAE pnE pcE, .int .i64 ppl, .int .i64 pmi], .int .i64 M] W fun e w' => e = .returned (.tuple #[.int .i64 MV, .int .i64 ME]) ∧ Ext W w') := fun W h => by
    rw [hME, hMV]; exact HCU.out W M (HX1.out.trans h)
  clear hME hMV HCU
  have z0 := fun z : After w1 => After.cell c0 z
  have z1 := fun z : After w1 => After.cell c1 z
  have z2 := fun z : After w1 => After.cell c2 z
  have z3 := fun z : After w1 => After.cell c3 z
  have z4 := fun z : After w1 => After.cell c4 z
  have z5 := fun z : After w1 => After.cell c5 z
  have z6 := fun z : After w1 => After.cell c6 z
  have y0 := fun z : After w1 => After.cell a0 z
  have y1 := fun z : After w1 => After.cell a1 z
  have y2 := fun z : After w1 => After.cell a2 z
  have y3 := fun z : After w1 => After.cell a3 z
  have y4 := fun z : After w1 => After.cell a4 z
  have x0 := fun z : After w1 => After.cell m0 z
  go_wp2_with fail
  refine region_ext (by kernel_rfl) (by kernel_rfl) ?_
  repeat (first | go_big_quiet_step ((go_at_call 35; exact after_call (HCV.out _ (After.ext _)))) | (go_big_quiet_want; go_simp; go_big_quiet_on))
  refine wpQuiet_nil ?_
  rintro w4 ⟨⟨_, he4⟩, rfl⟩
  have HX4 := Lib.hid (HX1.out.trans he4)
  clear z0 z1 z2 z3 z4 z5 z6 y0 y1 y2 y3 y4 x0 a0 a1 a2 a3 a4 c0 c1 c2 c3 c4 c5 c6 m0 he4 HCV
  go_wp2_with fail
  go_ret2
  exact ⟨by rw [HR.out.1, HR.out.2]; rfl, HX4.out⟩
end Go.Proofs.YtkigmpholnfkbaaGreat
