/- spec.Check -/
import Derived.Test.YtkigmpholnfkbaaGreatKStC
import Derived.Test.YtkigmpholnfkbaaGreatKSpP
/- spec.isName -/
namespace Go.Proofs.YtkigmpholnfkbaaGreat
open Go.RowKit
set_option maxHeartbeats 800000 in
theorem spName_test (s : ByteArray) (w : World) (h0 : (s.toList == []) = false) (h1 : decide (24 < (s.size : Int)) = false) (h2 : (s.toList == [109, 105, 110]) = false) (h3 : (s.toList == [109, 97, 120]) = false) (hs : (s.size == 0) = false) :
    Calls Tryz.prog 32 #[.string s] w fun e w' => e = .returned (.bool (nameB s)) ∧ w = w' := by
  have h24 : s.size ≤ 24 := by simp at h1; omega
  have H0 : Hid ((!(s.size == 0) && !decide (24 < s.size) && !(s.toList == [109, 105, 110]) && !(s.toList == [109, 97, 120])) = true) := by
    show _ = true
    rw [h2, h3, hs]; simp; omega
  clear hs
  go_enter Tryz.func32, Tryz.ntmps32
  go_wp2_with fail
  go_loop [22] (fun i => ∃ k : Nat, k ≤ s.size ∧ i = .int .i64 k ∧ allB (chF s) k = true) (fun i => s.size - (intOf i).toNat)
  case atStart => exact ⟨0, Nat.zero_le _, rfl, rfl⟩
  case round =>
    obtain ⟨k, hk, rfl, ht⟩ := hrel
    have HT := Lib.hid ht; clear ht
    by_cases hlt : k < s.size
    · by_cases ha : 97 ≤ (s[k].toNat : Int)
      · by_cases hz : (s[k].toNat : Int) ≤ 122
        · go_wp2_with fail
          go_round
          case rel => exact ⟨k + 1, by omega, by go_num, allB_succ HT.out (by unfold chF smallB digitB; rw [← bt_eq hlt]; simp; omega)⟩
          case measure => simp [intOf]; omega
        · have hzb : decide ((s[k].toNat : Int) ≤ 122) = false := by simp; omega
          have h95 : ((s[k].toNat : Int) != 95) = true := by simp; omega
          by_cases hk0 : k = 0
          · subst hk0
            go_wp2_with fail
            go_ret
            exact ⟨ret_bool (name_false hlt (by unfold chF smallB digitB; rw [← bt_eq hlt]; simp; omega)), rfl⟩
          · have hkb : ((k : Int) == 0) = false := by simp; omega
            have hd : decide ((s[k].toNat : Int) < 48) = false := by simp; omega
            have hd' : decide (57 < (s[k].toNat : Int)) = true := by simp; omega
            go_wp2_with fail
            go_ret
            exact ⟨ret_bool (name_false hlt (by unfold chF smallB digitB; rw [← bt_eq hlt]; simp; omega)), rfl⟩
      · have hab : decide (97 ≤ (s[k].toNat : Int)) = false := by simp; omega
        by_cases hk0 : k = 0
        · subst hk0
          go_wp2_with fail
          go_ret
          exact ⟨ret_bool (name_false hlt (by unfold chF smallB digitB; rw [← bt_eq hlt]; simp; omega)), rfl⟩
        · have hkb : ((k : Int) == 0) = false := by simp; omega
          by_cases h95 : (s[k].toNat : Int) = 95
          · have h95b : ((s[k].toNat : Int) != 95) = false := by rw [h95]; decide
            have H95 := Lib.hid h95; clear h95
            go_wp2_with fail
            go_round
            case rel => exact ⟨k + 1, by omega, by go_num, allB_succ HT.out (by unfold chF smallB digitB; rw [← bt_eq hlt]; rw [H95.out]; simp; omega)⟩
            case measure => simp [intOf]; omega
          · have h95b : ((s[k].toNat : Int) != 95) = true := by simp; omega
            by_cases hd : (s[k].toNat : Int) < 48
            · have hdb : decide ((s[k].toNat : Int) < 48) = true := by simp; omega
              go_wp2_with fail
              go_ret
              exact ⟨ret_bool (name_false hlt (by unfold chF smallB digitB; rw [← bt_eq hlt]; simp; omega)), rfl⟩
            · have hdb : decide ((s[k].toNat : Int) < 48) = false := by simp; omega
              by_cases hd2 : 57 < (s[k].toNat : Int)
              · have hdc : decide (57 < (s[k].toNat : Int)) = true := by simp; omega
                go_wp2_with fail
                go_ret
                exact ⟨ret_bool (name_false hlt (by unfold chF smallB digitB; rw [← bt_eq hlt]; simp; omega)), rfl⟩
              · have hdc : decide (57 < (s[k].toNat : Int)) = false := by simp; omega
                have HC : Hid (chF s k = true) := by
                  show _ = _
                  unfold chF smallB digitB; rw [← bt_eq hlt]; simp; omega
                go_wp2_with fail
                go_round
                case rel => exact ⟨k + 1, by omega, by go_num, allB_succ HT.out HC.out⟩
                case measure => simp [intOf]; omega
    · go_wp2_with fail
      go_ret
      exact ⟨ret_bool (by
        obtain rfl : k = s.size := by omega
        unfold nameB; rw [HT.out, H0.out]; rfl), rfl⟩
theorem spName_any (s : ByteArray) (w : World) : Calls Tryz.prog 32 #[.string s] w fun e w' => e = .returned (.bool (nameB s)) ∧ w = w' := by
  cases h0 : (s.toList == [])
  case true =>
    have H : Hid (nameB s = false) := by
      have : (s.size == 0) = true := by
        have h : s.toList = [] := by simpa using h0
        have h' : s.size = 0 := by rw [ByteArray.toList_eq] at h; have h2 := congrArg List.length h; simpa using h2
        simp [h']
      show nameB s = false
      unfold nameB; rw [this]; rfl
    go_enter Tryz.func32, Tryz.ntmps32
    go_wp2_with fail
    go_ret
    exact ⟨ret_bool H.out.symm, rfl⟩
  cases h1 : decide (24 < (s.size : Int))
  case true =>
    have H : Hid (nameB s = false) := by
      have : decide (24 < s.size) = true := by simp at h1 ⊢; omega
      show nameB s = false
      unfold nameB; rw [this]; simp
    go_enter Tryz.func32, Tryz.ntmps32
    go_wp2_with fail
    go_ret
    exact ⟨ret_bool H.out.symm, rfl⟩
  cases h2 : (s.toList == [109, 105, 110])
  case true =>
    have H : Hid (nameB s = false) := by
      show nameB s = false
      unfold nameB; rw [h2]; simp
    go_enter Tryz.func32, Tryz.ntmps32
    go_wp2_with fail
    go_ret
    exact ⟨ret_bool H.out.symm, rfl⟩
  cases h3 : (s.toList == [109, 97, 120])
  case true =>
    have H : Hid (nameB s = false) := by
      show nameB s = false
      unfold nameB; rw [h3]; simp
    go_enter Tryz.func32, Tryz.ntmps32
    go_wp2_with fail
    go_ret
    exact ⟨ret_bool H.out.symm, rfl⟩
  exact spName_test s w h0 h1 h2 h3 (by
    rw [Bool.eq_false_iff] at h0 ⊢
    intro h
    apply h0
    have h' : s.size = 0 := by simpa using h
    have : s.toList.length = 0 := by rw [ByteArray.toList_eq]; simpa using h'
    simp [List.eq_nil_of_length_eq_zero this])
end Go.Proofs.YtkigmpholnfkbaaGreat
namespace Go.Proofs.YtkigmpholnfkbaaGreat
open Go.RowKit
theorem blk5 {t : TypeId} {w : World} {g : Nat} {v0 v1 v2 v3 v4 : Value} (h : Blk t w g [v0, v1, v2, v3, v4]) : w.cell? ⟨g, 0, none⟩ = some v0 ∧ w.cell? ⟨g, 1, none⟩ = some v1 ∧ w.cell? ⟨g, 2, none⟩ = some v2 ∧ w.cell? ⟨g, 3, none⟩ = some v3 ∧ w.cell? ⟨g, 4, none⟩ = some v4 :=
  ⟨h.cell 0, h.cell 1, h.cell 2, h.cell 3, h.cell 4⟩
def mdupF (l : List PomX) (k j : Nat) : Bool := decide ((gPm l j).nm.data.toList = (gPm l k).nm.data.toList)
def pm3 (p : PomX) : Int := if p.pl < 0 ∨ 1073741824 < p.pl ∨ p.mi < 0 ∨ 1073741824 < p.mi then 3 else 0
def pm2 (x : StyX) (p : PomX) : Int := if allB (pomRef x p) p.ps.length = false then 3 else pm3 p
def pm1 (x : StyX) (l : List PomX) (i : Nat) : Int := if (List.range i).any (mdupF l i) = true then 7 else pm2 x (gPm l i)
theorem pom_eq (x : StyX) (l : List PomX) (i : Nat) : pomE x l i = if nameB (gPm l i).nm = false ∨ (gPm l i).es.length ≠ (gPm l i).ps.length ∨ (gPm l i).ps.length = 0 ∨ 16 < (gPm l i).ps.length then 1 else pm1 x l i := rfl
theorem edge_no {s : Sty} {p e : Int} (h : ¬ (0 ≤ p ∧ p < s.ps.length ∧ 0 ≤ e ∧ e < (gPc s.ps p.toNat).es.length)) : edgeB s p e = false := by unfold edgeB; exact decide_eq_false h
theorem edge_yes {s : Sty} {p e : Int} (h : 0 ≤ p ∧ p < s.ps.length ∧ 0 ≤ e ∧ e < (gPc s.ps p.toNat).es.length) : edgeB s p e = true := by unfold edgeB; exact decide_eq_true h
theorem sps_len (x : StyX) : x.s.ps.length = x.ps.length := by simp [StyX.s]
theorem sps_get {x : StyX} {k : Nat} (h : k < x.ps.length) : gPc x.s.ps k = (gPx x.ps k).p := gPc_x h
set_option maxRecDepth 100000 in
set_option maxHeartbeats 6400000 in
theorem spCheck_any (a : StyA) (x : StyX) (A : Option Addr) (n c : Nat) (l : List PomX) (w : World) (hs : StyXAt w a x) (hN : x.sz.length ≤ 1000) (hZ : ∀ k, k < x.sz.length → (gB x.sz k).size ≤ 1000)
    (hP : PomsAt w A l) (hl : l.length = n) (hc : n ≤ c) (hc' : c ≤ 9223372036854775807) :
    Calls Tryz.prog 13 #[a.val, .slice A n c] w fun e w' => e = .returned (.int .i64 (spcE x l)) ∧ Ext w w' := by
  have HS := Lib.hid hs
  have HCC := Lib.hid (fun W (h : Ext w W) => styCheck_any a x W (hs.ext h) hN hZ)
  clear hs hN hZ
  have HP := Lib.hid hP; clear hP
  have HL := Lib.hid hl; clear hl
  obtain ⟨nm, AS, nS, cS, AM, nM, cM, AP, nP, cP, AU, nU, cU, AK, nK, cK, AO, nO, cO⟩ := a
  have HLP : Hid (x.ps.length = nP) := HS.out.lP
  have hbP : nP ≤ 9223372036854775807 := HS.out.bP
  have HPS := Lib.hid HS.out.P
  simp only [StyA.val] at HCC HPS ⊢
  clear HS
  obtain ⟨SP, hSP⟩ : ∃ SP, SP = spcE x l := ⟨_, rfl⟩
  rw [← hSP]
  unfold spcE at hSP
  have HSP := Lib.hid hSP; clear hSP
  go_enter Tryz.func13, Tryz.ntmps13
  go_wp2_with fail
  refine (HCC.out _ ((Ext.refl _).alloc _)).mono ?_
  rintro e w1 ⟨rfl, he1⟩
  have HB1 : Hid (Blk 29 w1 w.heap.size [.string nm, .slice AS nS cS, .slice AM nM cM, .slice AP nP cP, .slice AU nU cU, .slice AK nK cK, .slice AO nO cO]) := (Blk.new' rfl).ext he1
  have HX1 := Lib.hid (((Ext.refl w).alloc _).trans he1)
  clear he1 HCC
  obtain ⟨SE, hSE⟩ : ∃ SE, SE = styE x := ⟨_, rfl⟩
  rw [← hSE] at HSP ⊢
  clear hSE
  by_cases hz : SE = 0
  rotate_left
  · have hzb : (SE != 0) = true := by simp [hz]
    have HR : Hid (SP = SE) := by show _ = _; rw [HSP.out, if_pos hz]
    clear hz
    go_wp2_with fail
    go_ret
    exact ⟨ret_int HR.out.symm, HX1.out⟩
  subst hz
  by_cases h16 : 16 < n
  · have HR : Hid (SP = 5) := by show _ = _; rw [HSP.out, if_neg (by simp), if_pos (by rw [HL.out]; exact h16)]
    go_wp2_with fail
    go_ret
    exact ⟨ret_int HR.out.symm, HX1.out⟩
  have HR1 : Hid (SP = firstE (pomE x l) l.length) := by show _ = _; rw [HSP.out, if_neg (by simp), if_neg (by rw [HL.out]; exact h16)]
  clear HSP
  go_wp2_with fail
  go_loopw [23] (fun i wr => ∃ k : Nat, k ≤ n ∧ i = .int .i64 k ∧ firstE (pomE x l) k = 0 ∧ Ext w1 wr) (fun i _ => n - (intOf i).toNat)
  case atStart => exact ⟨0, Nat.zero_le _, rfl, rfl, Ext.refl _⟩
  case round =>
    obtain ⟨k, hk, rfl, hall, hx⟩ := hrel
    have HALL := Lib.hid hall; have HX := Lib.hid hx; clear hall hx
    by_cases hlt : k < n
    rotate_left
    · obtain rfl : k = n := by omega
      have HR : Hid (SP = 0) := by show _ = _; rw [HR1.out, HL.out]; exact HALL.out
      go_wp2_with fail
      go_ret
      exact ⟨ret_int HR.out.symm, HX1.out.trans HX.out⟩
    have HKL : Hid (k < l.length) := by show _ < _; rw [HL.out]; exact hlt
    obtain ⟨bp, op, q, hA, hq, hcq⟩ := (HP.out.ext (HX1.out.trans HX.out)) k HKL.out
    subst hA
    have HQ := Lib.hid hq; clear hq
    obtain ⟨pn, pAP, pnP, pcP, pAE, pnE, pcE, ppl, pmi⟩ := q
    have HQN : Hid ((gPm l k).nm = pn) := HQ.out.nm.symm
    have HQP : Hid ((gPm l k).ps.length = pnP) := HQ.out.lP
    have HQE : Hid ((gPm l k).es.length = pnE) := HQ.out.lE
    have HQL : Hid ((gPm l k).pl = ppl) := HQ.out.pl.symm
    have HQM : Hid ((gPm l k).mi = pmi) := HQ.out.mi.symm
    have HQA := Lib.hid HQ.out.P
    have HQB := Lib.hid HQ.out.E
    have hbq : pnP ≤ 9223372036854775807 := HQ.out.bP
    obtain ⟨a0, a1, a2, a3, a4⟩ := hcq
    simp only at a0 a1 a2 a3 a4 HQA HQB
    clear HQ
    have HPE := Lib.hid (pom_eq x l k)
    rw [HQN.out, HQE.out, HQP.out] at HPE
    have HFA : Hid (pomE x l k ≠ 0 → SP = pomE x l k) := fun h => by rw [HR1.out, firstE_at HKL.out HALL.out h]
    obtain ⟨PE, hPE⟩ : ∃ PE, PE = pomE x l k := ⟨_, rfl⟩
    rw [← hPE] at HPE HFA
    have HPD := Lib.hid hPE; clear hPE
    go_upto_region 9 with fail
    refine wp_at fun wq hWq => ?_
    have hNb : Blk 36 wq wr.heap.size [.string pn, .slice pAP pnP pcP, .slice pAE pnE pcE, .int .i64 ppl, .int .i64 pmi] := by rw [hWq]; exact Blk.new' rfl
    have hxq : Ext wr wq := by rw [hWq]; exact (Ext.refl _).alloc _
    obtain ⟨nb, hnb⟩ : ∃ nb, nb = wr.heap.size := ⟨_, rfl⟩
    rw [← hnb] at hNb ⊢
    have HNB := Lib.hid hNb
    have HXq := Lib.hid (HX.out.trans hxq)
    have HQA' := Lib.hid (HQA.out.ext hxq)
    have HQB' := Lib.hid (HQB.out.ext hxq)
    clear hWq hnb hxq hNb HX a0 a1 a2 a3 a4 HQA HQB
    obtain ⟨a0, a1, a2, a3, a4⟩ := blk5 HNB.out
    go_wp2_with fail
    refine (spName_any pn _).mono ?_
    rintro e w2 ⟨rfl, hw2⟩
    obtain rfl : wq = w2 := hw2
    cases hnb : nameB pn
    · have HR : Hid (SP = 1) := by
        have h1 : PE = 1 := by rw [HPE.out, if_pos (Or.inl hnb)]
        show _ = _; rw [HFA.out (by rw [h1]; decide), h1]
      clear hnb
      go_wp2_with fail
      go_ret
      exact ⟨ret_int HR.out.symm, HX1.out.trans HXq.out⟩
    by_cases g1 : pnE = pnP
    rotate_left
    · have HR : Hid (SP = 1) := by
        have h1 : PE = 1 := by rw [HPE.out, if_pos (Or.inr (Or.inl g1))]
        show _ = _; rw [HFA.out (by rw [h1]; decide), h1]
      have g1b : ((pnE : Int) != (pnP : Int)) = true := by simp; omega
      clear hnb g1
      go_wp2_with fail
      go_ret
      exact ⟨ret_int HR.out.symm, HX1.out.trans HXq.out⟩
    have HEQ := Lib.hid g1
    have g1b : ((pnE : Int) != (pnP : Int)) = false := by simp; omega
    by_cases g2 : pnP = 0
    · have HR : Hid (SP = 1) := by
        have h1 : PE = 1 := by rw [HPE.out, if_pos (Or.inr (Or.inr (Or.inl g2)))]
        show _ = _; rw [HFA.out (by rw [h1]; decide), h1]
      have g2b : ((pnP : Int) == 0) = true := by simp [g2]
      clear hnb g1 g2
      go_wp2_with fail
      go_ret
      exact ⟨ret_int HR.out.symm, HX1.out.trans HXq.out⟩
    have g2b : ((pnP : Int) == 0) = false := by simp; exact g2
    by_cases g3 : 16 < pnP
    · have HR : Hid (SP = 1) := by
        have h1 : PE = 1 := by rw [HPE.out, if_pos (Or.inr (Or.inr (Or.inr g3)))]
        show _ = _; rw [HFA.out (by rw [h1]; decide), h1]
      clear hnb g1 g2
      go_wp2_with fail
      go_ret
      exact ⟨ret_int HR.out.symm, HX1.out.trans HXq.out⟩
    have HPE1 : Hid (PE = pm1 x l k) := by show _ = _; rw [HPE.out, if_neg (by rw [hnb]; simp; omega)]
    clear hnb g1 HPE
    have hkc : k ≤ c := by omega
    go_wp2_with fail
    clear a0 a1 a2 a3 a4 g2b g1b
    go_loopw [54] (fun i wr => ∃ j : Nat, j ≤ k ∧ i = .int .i64 j ∧ (∀ q, q < j → mdupF l k q = false) ∧ Ext wq wr) (fun i _ => k - (intOf i).toNat)
    case atStart => exact ⟨0, Nat.zero_le _, rfl, fun q hq => absurd hq (Nat.not_lt_zero _), Ext.refl _⟩
    case round =>
      obtain ⟨j, hj, rfl, hall, hx⟩ := hrel
      have HAL2 := Lib.hid hall; have HX := Lib.hid hx; clear hall hx
      obtain ⟨a0, a1, a2, a3, a4⟩ := blk5 (HNB.out.ext HX.out)
      by_cases hjk : j < k
      · obtain ⟨bp', op', q, hA, hq, hcq⟩ := (HP.out.ext ((HX1.out.trans HXq.out).trans HX.out)) j (by have := HKL.out; omega)
        injection hA with hA
        injection hA with e1 e2
        subst e1; subst e2
        have HQJ : Hid ((gPm l j).nm = q.nm) := hq.nm.symm
        clear hq
        obtain ⟨qn, qAP, qnP, qcP, qAE, qnE, qcE, qpl, qmi⟩ := q
        obtain ⟨b0, b1, b2, b3, b4⟩ := hcq
        simp only at b0 b1 b2 b3 b4 HQJ
        have hpl : nb < (wr.heap.size) := (HNB.out.ext HX.out).lt
        have HAL : Hid (Ext wq (wr.alloc (.cells #[.string qn, .slice qAP qnP qcP, .slice qAE qnE qcE, .int .i64 qpl, .int .i64 qmi] 36))) := HX.out.alloc _
        cases heq : (qn.toList == pn.toList)
        · have HD : Hid (mdupF l k j = false) := by show _ = _; unfold mdupF; rw [HQJ.out, HQN.out, ← str_eq]; exact heq
          go_wp2_with fail
          go_roundw
          case rel => exact ⟨j + 1, by omega, by go_num, fun q hq => by
            rcases Nat.lt_succ_iff_lt_or_eq.1 hq with h | h
            · exact HAL2.out q h
            · subst h; exact HD.out, HAL.out⟩
          case measure => simp [intOf]; omega
        · have HD : Hid (mdupF l k j = true) := by show _ = _; unfold mdupF; rw [HQJ.out, HQN.out, ← str_eq]; exact heq
          have HR : Hid (SP = 7) := by
            have h1 : PE = 7 := by rw [HPE1.out]; unfold pm1; rw [if_pos (any_at hjk HD.out)]
            show _ = _; rw [HFA.out (by rw [h1]; decide), h1]
          go_wp2_with fail
          go_ret
          exact ⟨ret_int HR.out.symm, (HX1.out.trans HXq.out).trans HAL.out⟩
      obtain rfl : j = k := by omega
      have HPE2 : Hid (PE = pm2 x (gPm l j)) := by show _ = _; rw [HPE1.out]; unfold pm1; rw [if_neg (by rw [any_none HAL2.out]; simp)]
      clear HAL2 HPE1 hjk hj
      obtain ⟨W1, hW1⟩ : ∃ W1 : World, W1 = wr := ⟨_, rfl⟩
      rw [← hW1] at a0 a1 a2 a3 a4 HX ⊢
      clear hW1
      have HXV := Lib.hid (HXq.out.trans HX.out)
      have HNV := Lib.hid (HNB.out.ext HX.out)
      have HBV := Lib.hid (HB1.out.ext HXV.out)
      have HXW := Lib.hid HX.out
      clear HX
      go_wp2_with fail
      clear a0 a1 a2 a3 a4
      go_loopw [67] (fun i wr => ∃ m : Nat, m ≤ pnP ∧ i = .int .i64 m ∧ allB (pomRef x (gPm l j)) m = true ∧ Ext W1 wr) (fun i _ => pnP - (intOf i).toNat)
      case atStart => exact ⟨0, Nat.zero_le _, rfl, rfl, Ext.refl _⟩
      case round =>
        obtain ⟨m, hm, rfl, hall, hx⟩ := hrel
        have HAL3 := Lib.hid hall; have HX := Lib.hid hx; clear hall hx
        obtain ⟨a0, a1, a2, a3, a4⟩ := blk5 (HNV.out.ext HX.out)
        obtain ⟨c0, c1, c2, c3, c4, c5, c6⟩ := blk7 (HBV.out.ext HX.out)
        by_cases hmn : m < pnP
        · have hmE : m < pnE := by have := HEQ.out; omega
          obtain ⟨bi, oi, hAI, i0⟩ := (HQA'.out.ext (HXW.out.trans HX.out)).g (k := m) (by rw [HQP.out]; exact hmn)
          subst hAI
          obtain ⟨be, oe, hAE, e0⟩ := (HQB'.out.ext (HXW.out.trans HX.out)).g (k := m) (by rw [HQE.out]; exact hmE)
          subst hAE
          have HRF : Hid (pomRef x (gPm l j) m = edgeB x.s (gI (gPm l j).ps m) (gI (gPm l j).es m)) := rfl
          have HFL : Hid (pomRef x (gPm l j) m = false → SP = 3) := fun h => by
            have h1 : PE = 3 := by rw [HPE2.out]; unfold pm2; rw [if_pos (by rw [HQP.out]; exact allB_false hmn h)]
            rw [HFA.out (by rw [h1]; decide), h1]
          obtain ⟨pc, hpc⟩ : ∃ pc, pc = gI (gPm l j).ps m := ⟨_, rfl⟩
          obtain ⟨ed, hed⟩ : ∃ ed, ed = gI (gPm l j).es m := ⟨_, rfl⟩
          rw [← hpc] at i0 HRF
          rw [← hed] at e0 HRF
          clear hpc hed
          by_cases q0 : pc < 0
          · have HR := Lib.hid (HFL.out (by rw [HRF.out]; exact edge_no (by omega)))
            have q0b : decide (pc < 0) = true := decide_eq_true q0
            go_wp2_with fail
            go_quiet (fail)
            go_wp2_with fail
            go_ret
            exact ⟨ret_int HR.out.symm, (HX1.out.trans HXV.out).trans (HX.out.drewN _)⟩
          have q0b : decide (pc < 0) = false := decide_eq_false q0
          by_cases q1 : (nP : Int) ≤ pc
          · have HR := Lib.hid (HFL.out (by rw [HRF.out]; exact edge_no (by rw [sps_len, HLP.out]; omega)))
            have q1b : decide ((nP : Int) ≤ pc) = true := decide_eq_true q1
            go_wp2_with fail
            go_quiet (fail)
            go_wp2_with fail
            go_ret
            exact ⟨ret_int HR.out.symm, (HX1.out.trans HXV.out).trans (HX.out.drewN _)⟩
          have q1b : decide ((nP : Int) ≤ pc) = false := decide_eq_false q1
          by_cases q2 : ed < 0
          · have HR := Lib.hid (HFL.out (by rw [HRF.out]; exact edge_no (by omega)))
            have q2b : decide (ed < 0) = true := decide_eq_true q2
            go_wp2_with fail
            go_quiet (fail)
            go_wp2_with fail
            go_ret
            exact ⟨ret_int HR.out.symm, (HX1.out.trans HXV.out).trans (HX.out.drewN _)⟩
          have q2b : decide (ed < 0) = false := decide_eq_false q2
          obtain ⟨PC, rfl⟩ := Int.eq_ofNat_of_zero_le (show 0 ≤ pc by omega)
          have hPC : PC < nP := by omega
          have HPCL : Hid (PC < x.ps.length) := by show _ < _; rw [HLP.out]; exact hPC
          obtain ⟨bz, oz, q, hAZ, hq, hcq, _, _⟩ := (HPS.out.ext ((HX1.out.trans HXV.out).trans HX.out)) PC HPCL.out
          subst hAZ
          have d1 := hcq.c1
          obtain ⟨zA, hzA⟩ : ∃ z, z = q.AE := ⟨_, rfl⟩
          obtain ⟨zn, hzn⟩ : ∃ z, z = q.nE := ⟨_, rfl⟩
          obtain ⟨zc, hzc⟩ : ∃ z, z = q.cE := ⟨_, rfl⟩
          rw [← hzA, ← hzn, ← hzc] at d1
          have HZN : Hid ((gPx x.ps PC).p.es.length = zn) := by show _ = _; rw [hzn]; exact hq.le
          clear hq hcq hzA hzn hzc
          by_cases q3 : (zn : Int) ≤ ed
          · have HR := Lib.hid (HFL.out (by rw [HRF.out]; exact edge_no (by rw [Int.toNat_natCast, sps_get HPCL.out, HZN.out]; omega)))
            have q3b : decide ((zn : Int) ≤ ed) = true := decide_eq_true q3
            go_wp2_with fail
            go_quiet (fail)
            go_wp2_with fail
            go_ret
            exact ⟨ret_int HR.out.symm, (HX1.out.trans HXV.out).trans (HX.out.drewN _)⟩
          have q3b : decide ((zn : Int) ≤ ed) = false := decide_eq_false q3
          have HRT : Hid (pomRef x (gPm l j) m = true) := by show _ = _; rw [HRF.out]; exact edge_yes (by rw [Int.toNat_natCast, sps_get HPCL.out, HZN.out, sps_len, HLP.out]; omega)
          go_wp2_with fail
          go_quiet (fail)
          go_wp2_with fail
          go_roundw
          case rel => exact ⟨m + 1, by omega, by go_num, allB_succ HAL3.out HRT.out, HX.out.drewN _⟩
          case measure => simp [intOf]; omega
        obtain rfl : m = pnP := by omega
        have HPE3 : Hid (PE = if ppl < 0 ∨ 1073741824 < ppl ∨ pmi < 0 ∨ 1073741824 < pmi then 3 else 0) := by
          show _ = _; rw [HPE2.out]; unfold pm2; rw [if_neg (by rw [HQP.out, HAL3.out]; simp)]; unfold pm3; rw [HQL.out, HQM.out]
        clear HPE2 HAL3
        have HFL : Hid (ppl < 0 ∨ 1073741824 < ppl ∨ pmi < 0 ∨ 1073741824 < pmi → SP = 3) := fun h => by
          have h1 : PE = 3 := by rw [HPE3.out, if_pos h]
          rw [HFA.out (by rw [h1]; decide), h1]
        by_cases q0 : ppl < 0
        · have HR := Lib.hid (HFL.out (by omega))
          go_wp2_with fail
          go_ret
          exact ⟨ret_int HR.out.symm, (HX1.out.trans HXV.out).trans HX.out⟩
        by_cases q1 : 1073741824 < ppl
        · have HR := Lib.hid (HFL.out (by omega))
          go_wp2_with fail
          go_ret
          exact ⟨ret_int HR.out.symm, (HX1.out.trans HXV.out).trans HX.out⟩
        by_cases q2 : pmi < 0
        · have HR := Lib.hid (HFL.out (by omega))
          go_wp2_with fail
          go_ret
          exact ⟨ret_int HR.out.symm, (HX1.out.trans HXV.out).trans HX.out⟩
        by_cases q3 : 1073741824 < pmi
        · have HR := Lib.hid (HFL.out (by omega))
          go_wp2_with fail
          go_ret
          exact ⟨ret_int HR.out.symm, (HX1.out.trans HXV.out).trans HX.out⟩
        have HZ : Hid (pomE x l j = 0) := by show _ = _; rw [← HPD.out, HPE3.out, if_neg (by omega)]
        go_wp2_with fail
        go_roundw
        case rel => exact ⟨j + 1, by omega, by go_num, firstE_succ HALL.out HZ.out, HXV.out.trans HX.out⟩
        case measure => simp [intOf]; omega
end Go.Proofs.YtkigmpholnfkbaaGreat
