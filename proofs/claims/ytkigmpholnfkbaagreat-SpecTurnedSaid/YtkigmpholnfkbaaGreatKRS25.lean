/- the reference: garmentref25.inside, joined, Check -/
import Derived.Test.YtkigmpholnfkbaaGreatKRPlaced
import Derived.Test.YtkigmpholnfkbaaGreatKStC
/- the reference: garmentref18.Size; garmentref25.sized, twice, long -/
namespace Go.Proofs.YtkigmpholnfkbaaGreat
open Go.RowKit
set_option maxHeartbeats 1600000 in
theorem rsz_any (s : ByteArray) (w : World) (hs : s.size ≤ 1000) :
    Calls Tryz.prog 62 #[.string s] w fun e w' => e = .returned (.bool (szB s)) ∧ Ext w w' := by
  by_cases hz : s.size = 0
  · have hzb : (s.toList == []) = true := by
      have : s.toList.length = 0 := by rw [str_len]; exact hz
      simp [List.eq_nil_of_length_eq_zero this]
    have HZ : Hid (szB s = false) := by show _ = _; rw [szB_all, decide_eq_false (by omega)]; simp
    go_enter Tryz.func62, Tryz.ntmps62
    go_wp2_with fail
    go_ret
    exact ⟨ret_bool HZ.out.symm, Ext.refl _⟩
  have hzb : (s.toList == []) = false := by
    rw [Bool.eq_false_iff]
    intro h
    have h1 : s.toList = [] := by simpa using h
    have h2 := str_len s
    rw [h1] at h2
    exact hz h2.symm
  by_cases h8 : 8 < s.size
  · have HZ : Hid (szB s = false) := by show _ = _; rw [szB_all, decide_eq_false (by omega)]; simp
    go_enter Tryz.func62, Tryz.ntmps62
    go_wp2_with fail
    go_ret
    exact ⟨ret_bool HZ.out.symm, Ext.refl _⟩
  have HSB : Hid (szB s = allB (szF s) s.size) := by show _ = _; rw [szB_all, decide_eq_true (by omega)]; simp
  clear hz
  go_enter Tryz.func62, Tryz.ntmps62
  go_wp2_with fail
  go_loop [3] (fun i => ∃ k : Nat, k ≤ s.size ∧ i = .int .i64 k ∧ allB (szF s) k = true) (fun i => s.size - (intOf i).toNat)
  case atStart => exact ⟨0, Nat.zero_le _, rfl, rfl⟩
  case round =>
    obtain ⟨k, hk, rfl, ht⟩ := hrel
    have HT := Lib.hid ht; clear ht
    by_cases hlt : k < s.size
    · by_cases h0 : 65 ≤ (s[k].toNat : Int)
      · by_cases h1 : (s[k].toNat : Int) ≤ 90
        · have HC : Hid (szC s[k] = true) := by show _ = _; simp [szC]; omega
          go_wp2_with fail
          go_round
          case rel => exact ⟨k + 1, by omega, by go_num, allB_succ HT.out (by rw [szF_eq hlt]; exact HC.out)⟩
          case measure => simp [intOf]; omega
        · have HC : Hid (szB s = false) := by show _ = _; rw [HSB.out]; exact allB_false hlt (by rw [szF_eq hlt]; simp [szC]; omega)
          have h2 : 48 ≤ (s[k].toNat : Int) := by omega
          have h3 : ¬ (s[k].toNat : Int) ≤ 57 := by omega
          go_wp2_with fail
          go_ret
          exact ⟨ret_bool HC.out.symm, Ext.refl _⟩
      · by_cases h2 : 48 ≤ (s[k].toNat : Int)
        · by_cases h3 : (s[k].toNat : Int) ≤ 57
          · have HC : Hid (szC s[k] = true) := by show _ = _; simp [szC]; omega
            go_wp2_with fail
            go_round
            case rel => exact ⟨k + 1, by omega, by go_num, allB_succ HT.out (by rw [szF_eq hlt]; exact HC.out)⟩
            case measure => simp [intOf]; omega
          · have HC : Hid (szB s = false) := by show _ = _; rw [HSB.out]; exact allB_false hlt (by rw [szF_eq hlt]; simp [szC]; omega)
            go_wp2_with fail
            go_ret
            exact ⟨ret_bool HC.out.symm, Ext.refl _⟩
        · have HC : Hid (szB s = false) := by show _ = _; rw [HSB.out]; exact allB_false hlt (by rw [szF_eq hlt]; simp [szC]; omega)
          go_wp2_with fail
          go_ret
          exact ⟨ret_bool HC.out.symm, Ext.refl _⟩
    · obtain rfl : k = s.size := by omega
      have HC : Hid (szB s = true) := by show _ = _; rw [HSB.out]; exact HT.out
      go_wp2_with fail
      go_ret
      exact ⟨ret_bool HC.out.symm, Ext.refl _⟩
def sizedB (x : StyX) : Bool := nameB x.nm && !(x.sz.length == 0) && allB (fun i => szB (gB x.sz i)) x.sz.length && decide ((0 : Int) ∈ x.ms) && decide (x.ms.length = x.sz.length)
theorem sized_f {x : StyX} (h : sizedB x = false) : wholeE x = 1 := by
  rw [whole_eq]
  by_cases h1 : nameB x.nm = false ∨ x.sz.length = 0
  · rw [if_pos h1]
  rw [if_neg h1]
  unfold wh1
  by_cases h2 : allB (fun i => szB (gB x.sz i)) x.sz.length = false
  · rw [if_pos h2]
  rw [if_neg h2]
  unfold wh2
  by_cases h3 : x.ms.length ≠ x.sz.length ∨ ¬ (0 : Int) ∈ x.ms
  · rw [if_pos h3]
  exfalso
  unfold sizedB at h
  have g1 : nameB x.nm = true := by
    cases hn : nameB x.nm with
    | false => exact absurd (Or.inl hn) h1
    | true => rfl
  have g2 : ¬ x.sz.length = 0 := fun e => h1 (Or.inr e)
  have g3 : allB (fun i => szB (gB x.sz i)) x.sz.length = true := by simpa using h2
  have g4 : x.ms.length = x.sz.length := Classical.not_not.1 fun e => h3 (Or.inl e)
  have g5 : (0 : Int) ∈ x.ms := Classical.not_not.1 fun e => h3 (Or.inr e)
  rw [g1, g3, decide_eq_true g4, decide_eq_true g5] at h
  simp [g2] at h
theorem sized_t {x : StyX} (h : sizedB x = true) : wholeE x = wh3 x := by
  unfold sizedB at h
  simp only [Bool.and_eq_true, Bool.not_eq_true', beq_eq_false_iff_ne, decide_eq_true_eq] at h
  obtain ⟨⟨⟨⟨g1, g2⟩, g3⟩, g4⟩, g5⟩ := h
  rw [whole_eq, if_neg (fun h => h.elim (fun h => by rw [g1] at h; cases h) g2)]
  unfold wh1
  rw [if_neg (by rw [g3]; simp)]
  unfold wh2
  rw [if_neg (fun h => h.elim (fun h => h g5) (fun h => h g4))]
set_option maxRecDepth 100000 in
set_option maxHeartbeats 3200000 in
theorem sized_any (a : StyA) (x : StyX) (w : World) (hs : StyXAt w a x) (hN : x.sz.length ≤ 1000) (hZ : ∀ k, k < x.sz.length → (gB x.sz k).size ≤ 1000) :
    Calls Tryz.prog 39 #[a.val] w fun e w' => e = .returned (.bool (sizedB x)) ∧ Ext w w' := by
  have HS := Lib.hid hs; clear hs
  have HZ := Lib.hid hZ; clear hZ
  obtain ⟨nm, AS, nS, cS, AM, nM, cM, AP, nP, cP, AU, nU, cU, AK, nK, cK, AO, nO, cO⟩ := a
  have HLS : Hid (x.sz.length = nS) := HS.out.lS
  have HLM : Hid (x.ms.length = nM) := HS.out.lM
  have HNM : Hid (nm = x.nm) := HS.out.nm
  have HSS := Lib.hid HS.out.S
  have HMS := Lib.hid HS.out.M
  have hbM : nM ≤ 9223372036854775807 := HS.out.bM
  have hnS : nS ≤ 1000 := by have := HLS.out; omega
  clear hN HS
  simp only [StyA.val] at HSS HMS ⊢
  have HSB : Hid (sizedB x = (nameB x.nm && !(x.sz.length == 0) && allB (fun i => szB (gB x.sz i)) x.sz.length && decide ((0 : Int) ∈ x.ms) && decide (x.ms.length = x.sz.length))) := rfl
  rw [← HNM.out, HLS.out, HLM.out] at HSB
  obtain ⟨SB, hSB⟩ : ∃ y, y = sizedB x := ⟨_, rfl⟩
  rw [← hSB] at HSB ⊢
  clear hSB
  go_enter Tryz.func39, Tryz.ntmps39
  go_wp2_with fail
  refine (rname_any nm _).mono ?_
  rintro e w1 ⟨rfl, hw1⟩
  have HB1 : Hid (Blk 29 w1 w.heap.size [.string nm, .slice AS nS cS, .slice AM nM cM, .slice AP nP cP, .slice AU nU cU, .slice AK nK cK, .slice AO nO cO]) := by show Blk _ _ _ _; rw [← hw1]; exact Blk.new' rfl
  have HX1 : Hid (Ext w w1) := by show Ext _ _; rw [← hw1]; exact (Ext.refl w).alloc _
  clear hw1
  obtain ⟨c0, c1, c2, c3, c4, c5, c6⟩ := blk7 HB1.out
  cases hnb : nameB nm
  · have HR : Hid (SB = false) := by show _ = _; rw [HSB.out, hnb]; rfl
    clear hnb
    go_wp2_with fail
    go_ret
    exact ⟨ret_bool HR.out.symm, HX1.out⟩
  by_cases hs0 : nS = 0
  · have HR : Hid (SB = false) := by show _ = _; rw [HSB.out, hs0]; simp
    have hsb : ((nS : Int) == 0) = true := by simp [hs0]
    clear hnb hs0
    go_wp2_with fail
    go_ret
    exact ⟨ret_bool HR.out.symm, HX1.out⟩
  have HS2 : Hid (SB = (allB (fun i => szB (gB x.sz i)) nS && decide ((0 : Int) ∈ x.ms) && decide (nM = nS))) := by
    show _ = _; rw [HSB.out, hnb, show (nS == 0) = false from by simp [hs0]]; rfl
  have hsb : ((nS : Int) == 0) = false := by simp; exact hs0
  clear hnb hs0 HSB
  go_wp2_with fail
  clear c0 c1 c2 c3 c4 c5 c6 hsb
  go_loopw [3] (fun i wr => ∃ j : Nat, j ≤ nS ∧ i = .int .i64 j ∧ allB (fun i => szB (gB x.sz i)) j = true ∧ Ext w1 wr) (fun i _ => nS - (intOf i).toNat)
  case atStart => exact ⟨0, Nat.zero_le _, rfl, rfl, Ext.refl _⟩
  case round =>
    obtain ⟨j, hj, rfl, hall, hx⟩ := hrel
    have HALL := Lib.hid hall; have HX := Lib.hid hx; clear hall hx
    obtain ⟨c0, c1, c2, c3, c4, c5, c6⟩ := blk7 (HB1.out.ext HX.out)
    by_cases hlt : j < nS
    · obtain ⟨b, off, hA, d0⟩ := (HSS.out.ext (HX1.out.trans HX.out)) j (by rw [HLS.out]; exact hlt)
      subst hA
      have HZJ := Lib.hid (HZ.out j (by rw [HLS.out]; exact hlt))
      obtain ⟨s, hs⟩ : ∃ s, s = gB x.sz j := ⟨_, rfl⟩
      rw [← hs] at d0 HZJ
      have HSJ := Lib.hid hs; clear hs
      go_wp2_with fail
      refine (rsz_any s _ HZJ.out).mono ?_
      rintro e w2 ⟨rfl, he⟩
      have HE := Lib.hid (HX.out.trans he); clear he
      cases hz : szB s
      · have HR : Hid (SB = false) := by show _ = _; rw [HS2.out, allB_false hlt (by rw [← HSJ.out]; exact hz)]; rfl
        clear hz
        go_wp2_with fail
        go_ret
        exact ⟨ret_bool HR.out.symm, HX1.out.trans HE.out⟩
      · have HT : Hid (szB (gB x.sz j) = true) := by show _ = _; rw [← HSJ.out]; exact hz
        clear hz
        go_wp2_with fail
        go_roundw
        case rel => exact ⟨j + 1, by omega, by go_num, allB_succ HALL.out HT.out, HE.out⟩
        case measure => simp [intOf]; omega
    obtain rfl : j = nS := by omega
    have HS3 : Hid (SB = (decide ((0 : Int) ∈ x.ms) && decide (nM = j))) := by show _ = _; rw [HS2.out, HALL.out]; rfl
    clear HALL HS2 hj hlt
    obtain ⟨W1, hW1⟩ : ∃ W1 : World, W1 = wr := ⟨_, rfl⟩
    rw [← hW1] at HX c0 c1 c2 c3 c4 c5 c6 ⊢
    clear hW1
    have HXW := Lib.hid (HX1.out.trans HX.out)
    have HBW := Lib.hid (HB1.out.ext HX.out)
    clear HX
    go_wp2_with fail
    clear c0 c1 c2 c3 c4 c5 c6
    go_loopw [4, 5] (fun v i wr => ∃ m : Nat, m ≤ nM ∧ i = .int .i64 m ∧ v = .bool (decide ((0 : Int) ∈ x.ms.take m)) ∧ Ext W1 wr) (fun _ i _ => nM - (intOf i).toNat)
    case atStart => exact ⟨0, Nat.zero_le _, rfl, by simp, Ext.refl _⟩
    case round =>
      obtain ⟨m, hm, rfl, rfl, hx⟩ := hrel
      have HX := Lib.hid hx; clear hx
      obtain ⟨c0, c1, c2, c3, c4, c5, c6⟩ := blk7 (HBW.out.ext HX.out)
      by_cases hlt : m < nM
      · obtain ⟨bw, ow, hAW, d0⟩ := (HMS.out.ext (HXW.out.trans HX.out)).g (k := m) (by rw [HLM.out]; exact hlt)
        subst hAW
        have HMT : Hid (decide ((0 : Int) ∈ x.ms.take (m + 1)) = (decide ((0 : Int) ∈ x.ms.take m) || decide (gI x.ms m = 0))) := by
          show _ = _
          have hml : m < x.ms.length := by rw [HLM.out]; exact hlt
          rw [take_succ _ _ hml, ← gI_eq hml]
          by_cases h1 : (0 : Int) ∈ x.ms.take m
          · rw [decide_eq_true h1, decide_eq_true (List.mem_append_left _ h1)]; rfl
          · rw [decide_eq_false h1, Bool.false_or]
            congr 1
            rw [List.mem_append, List.mem_singleton]
            simp [h1, eq_comm]
        obtain ⟨v, hv⟩ : ∃ v, v = gI x.ms m := ⟨_, rfl⟩
        rw [← hv] at d0 HMT
        clear hv
        obtain ⟨bb, hbb⟩ : ∃ b, b = decide ((0 : Int) ∈ x.ms.take m) := ⟨_, rfl⟩
        rw [← hbb] at HMT ⊢
        clear hbb
        cases bb
        · by_cases hv0 : v = 0
          · have hvb : (v == 0) = true := by simp [hv0]
            have HM2 : Hid (decide ((0 : Int) ∈ x.ms.take (m + 1)) = true) := by show _ = _; rw [HMT.out, decide_eq_true hv0]; rfl
            clear hv0
            go_wp2_with fail
            go_roundw
            case rel => exact ⟨m + 1, by omega, by go_num, by rw [HM2.out], HX.out⟩
            case measure => simp [intOf]; omega
          · have hvb : (v == 0) = false := by simp [hv0]
            have HM2 : Hid (decide ((0 : Int) ∈ x.ms.take (m + 1)) = false) := by show _ = _; rw [HMT.out, decide_eq_false hv0]; rfl
            clear hv0
            go_wp2_with fail
            go_roundw
            case rel => exact ⟨m + 1, by omega, by go_num, by rw [HM2.out], HX.out⟩
            case measure => simp [intOf]; omega
        · have HM2 : Hid (decide ((0 : Int) ∈ x.ms.take (m + 1)) = true) := by show _ = _; rw [HMT.out]; rfl
          go_wp2_with fail
          go_roundw
          case rel => exact ⟨m + 1, by omega, by go_num, by rw [HM2.out], HX.out⟩
          case measure => simp [intOf]; omega
      obtain rfl : m = nM := by omega
      have HM3 : Hid (decide ((0 : Int) ∈ x.ms.take m) = decide ((0 : Int) ∈ x.ms)) := by show _ = _; rw [List.take_of_length_le (by rw [HLM.out]; omega)]
      rw [HM3.out]
      obtain ⟨bb, hbb⟩ : ∃ b, b = decide ((0 : Int) ∈ x.ms) := ⟨_, rfl⟩
      rw [← hbb] at HS3 ⊢
      clear hbb HM3
      cases bb
      · have HR : Hid (SB = false) := by show _ = _; rw [HS3.out]; rfl
        go_wp2_with fail
        go_ret
        exact ⟨ret_bool HR.out.symm, HXW.out.trans HX.out⟩
      · by_cases hmj : m = j
        · have HR : Hid (SB = true) := by show _ = _; rw [HS3.out, decide_eq_true hmj]; rfl
          have hmb : ((m : Int) == (j : Int)) = true := by simp; omega
          have hmb' : (m == j) = true := by simp; exact hmj
          clear hmj
          go_wp2_with fail
          go_ret
          exact ⟨ret_bool HR.out.symm, HXW.out.trans HX.out⟩
        · have HR : Hid (SB = false) := by show _ = _; rw [HS3.out, decide_eq_false hmj]; rfl
          have hmb : ((m : Int) == (j : Int)) = false := by simp; omega
          have hmb' : (m == j) = false := by simp; exact hmj
          clear hmj
          go_wp2_with fail
          go_ret
          exact ⟨ret_bool HR.out.symm, HXW.out.trans HX.out⟩
theorem szDupF_at {l : List ByteArray} {i r : Nat} (hr : r < i) (hi : i ≤ l.length) (h : (gB l r).data.toList = (gB l i).data.toList) : szDupF l i = true := by
  unfold szDupF
  refine decide_eq_true ?_
  rw [List.mem_map]
  refine ⟨gB l r, ?_, h⟩
  rw [gB_eq (by omega)]
  exact List.mem_take_iff_getElem.2 ⟨r, by omega, rfl⟩
theorem szDupF_no {l : List ByteArray} {i : Nat} (hi : i ≤ l.length) (h : ∀ r, r < i → (gB l r).data.toList ≠ (gB l i).data.toList) : szDupF l i = false := by
  unfold szDupF
  refine decide_eq_false fun hm => ?_
  rw [List.mem_map] at hm
  obtain ⟨b, hb, e⟩ := hm
  obtain ⟨r, hr, hb'⟩ := List.mem_take_iff_getElem.1 hb
  have hr' : r < i := by omega
  refine h r hr' ?_
  rw [gB_eq (by omega), hb', e]
set_option maxHeartbeats 1600000 in
theorem twice_any (A : Option Addr) (n c : Nat) (l : List ByteArray) (w : World) (hS : StrsAt w A l) (hl : l.length = n) (hn : n ≤ 1000) :
    Calls Tryz.prog 40 #[.slice A n c] w fun e w' => e = .returned (.bool (szDup l l.length)) ∧ Ext w w' := by
  have HL := Lib.hid hl; clear hl
  have HS := Lib.hid hS; clear hS
  obtain ⟨D, hD⟩ : ∃ y, y = szDup l l.length := ⟨_, rfl⟩
  rw [← hD]
  rw [HL.out] at hD
  have HD := Lib.hid hD; clear hD
  go_enter Tryz.func40, Tryz.ntmps40
  go_wp2_with fail
  go_loopw [3] (fun i wr => ∃ k : Nat, k ≤ n ∧ i = .int .i64 k ∧ (∀ q, q < k → szDupF l q = false) ∧ Ext w wr) (fun i _ => n - (intOf i).toNat)
  case atStart => exact ⟨0, Nat.zero_le _, rfl, fun q hq => absurd hq (Nat.not_lt_zero _), Ext.refl _⟩
  case round =>
    obtain ⟨k, hk, rfl, hall, hx⟩ := hrel
    have HALL := Lib.hid hall; have HX := Lib.hid hx; clear hall hx
    by_cases hlt : k < n
    rotate_left
    · obtain rfl : k = n := by omega
      have HR : Hid (D = false) := by show _ = _; rw [HD.out]; exact any_none HALL.out
      go_wp2_with fail
      go_ret
      exact ⟨ret_bool HR.out.symm, HX.out⟩
    obtain ⟨W1, hW1⟩ : ∃ W1 : World, W1 = wr := ⟨_, rfl⟩
    rw [← hW1] at HX ⊢
    clear hW1
    go_wp2_with fail
    go_loopw [4] (fun i wr => ∃ j : Nat, j ≤ k ∧ i = .int .i64 j ∧ (∀ r, r < j → (gB l r).data.toList ≠ (gB l k).data.toList) ∧ Ext w wr) (fun i _ => k - (intOf i).toNat)
    case atStart => exact ⟨0, Nat.zero_le _, rfl, fun q hq => absurd hq (Nat.not_lt_zero _), HX.out⟩
    case round =>
      obtain ⟨j, hj, rfl, hne, hx⟩ := hrel
      have HNE := Lib.hid hne; have HX2 := Lib.hid hx; clear hne hx
      by_cases hjk : j < k
      rotate_left
      · obtain rfl : j = k := by omega
        have HT : Hid (szDupF l j = false) := szDupF_no (by rw [HL.out]; omega) HNE.out
        go_wp2_with fail
        go_roundw
        case rel => exact ⟨j + 1, by omega, by go_num, fun q hq => by
          rcases Nat.lt_succ_iff_lt_or_eq.1 hq with h | h
          · exact HALL.out q h
          · subst h; exact HT.out, HX2.out⟩
        case measure => simp [intOf]; omega
      have hjn : j < n := by omega
      obtain ⟨b, off, hA, d0⟩ := (HS.out.ext HX2.out) k (by rw [HL.out]; exact hlt)
      subst hA
      obtain ⟨b', off', hA', d1⟩ := (HS.out.ext HX2.out) j (by rw [HL.out]; exact hjn)
      injection hA' with hA'
      injection hA' with e1 e2
      subst e1; subst e2
      have HEQ := Lib.hid (str_eq (gB l k) (gB l j))
      have HAT : Hid ((gB l j).data.toList = (gB l k).data.toList → D = true) := fun h => by rw [HD.out]; exact any_at hlt (szDupF_at hjk (by rw [HL.out]; omega) h)
      have HNN : Hid ((gB l j).data.toList ≠ (gB l k).data.toList → ∀ r, r < j + 1 → (gB l r).data.toList ≠ (gB l k).data.toList) := fun h r hr => by
        rcases Nat.lt_succ_iff_lt_or_eq.1 hr with h1 | h1
        · exact HNE.out r h1
        · subst h1; exact h
      obtain ⟨s, hs⟩ : ∃ s, s = gB l k := ⟨_, rfl⟩
      obtain ⟨t, ht⟩ : ∃ t, t = gB l j := ⟨_, rfl⟩
      rw [← hs] at d0 HEQ HAT HNN
      rw [← ht] at d1 HEQ HAT HNN
      have HS' := Lib.hid hs
      clear hs ht
      cases heq : (s.toList == t.toList)
      · have HN' := Lib.hid (HNN.out (fun e => by
          have := HEQ.out
          rw [heq] at this
          exact absurd e.symm (of_decide_eq_false this.symm)))
        go_wp2_with fail
        go_quiet (fail)
        go_wp2_with fail
        go_roundw
        case rel => exact ⟨j + 1, by omega, by go_num, by rw [← HS'.out]; exact HN'.out, HX2.out.drewN _⟩
        case measure => simp [intOf]; omega
      · have HR := Lib.hid (HAT.out (by
          have := HEQ.out
          rw [heq] at this
          exact (of_decide_eq_true this.symm).symm))
        go_wp2_with fail
        go_quiet (fail)
        go_wp2_with fail
        go_ret
        exact ⟨ret_bool HR.out.symm, HX2.out.drewN _⟩
def longB (x : StyX) : Bool := decide (12 < x.sz.length ∨ 12 < x.ps.length ∨ 24 < x.ss.length ∨ 16 < x.no ∨ 12 < x.us.length)
set_option maxRecDepth 100000 in
set_option maxHeartbeats 1600000 in
theorem long_any (a : StyA) (x : StyX) (w : World) (hs : StyXAt w a x) :
    Calls Tryz.prog 41 #[a.val] w fun e w' => e = .returned (.bool (longB x)) ∧ Ext w w' := by
  obtain ⟨nm, AS, nS, cS, AM, nM, cM, AP, nP, cP, AU, nU, cU, AK, nK, cK, AO, nO, cO⟩ := a
  have HLB : Hid (longB x = decide (12 < nS ∨ 12 < nP ∨ 24 < nK ∨ 16 < nO ∨ 12 < nU)) := by
    show _ = _; unfold longB; rw [hs.lS, hs.lP, hs.lK, hs.lU, ← hs.lO]
  clear hs
  obtain ⟨LB, hLB⟩ : ∃ y, y = longB x := ⟨_, rfl⟩
  rw [← hLB] at HLB ⊢
  clear hLB
  simp only [StyA.val]
  by_cases h1 : 12 < nS
  · go_enter Tryz.func41, Tryz.ntmps41
    go_wp2_with fail
    go_ret
    exact ⟨ret_bool (by rw [HLB.out]; exact (decide_eq_true (by omega)).symm), (Ext.refl _).alloc _⟩
  by_cases h2 : 12 < nP
  · go_enter Tryz.func41, Tryz.ntmps41
    go_wp2_with fail
    go_ret
    exact ⟨ret_bool (by rw [HLB.out]; exact (decide_eq_true (by omega)).symm), (Ext.refl _).alloc _⟩
  by_cases h3 : 24 < nK
  · go_enter Tryz.func41, Tryz.ntmps41
    go_wp2_with fail
    go_ret
    exact ⟨ret_bool (by rw [HLB.out]; exact (decide_eq_true (by omega)).symm), (Ext.refl _).alloc _⟩
  by_cases h4 : 16 < nO
  · go_enter Tryz.func41, Tryz.ntmps41
    go_wp2_with fail
    go_ret
    exact ⟨ret_bool (by rw [HLB.out]; exact (decide_eq_true (by omega)).symm), (Ext.refl _).alloc _⟩
  by_cases h5 : 12 < nU
  · have HR : Hid (LB = true) := by show _ = _; rw [HLB.out]; exact decide_eq_true (by omega)
    go_enter Tryz.func41, Tryz.ntmps41
    go_wp2_with fail
    go_ret
    exact ⟨ret_bool (by rw [HR.out]; simp; try omega), (Ext.refl _).alloc _⟩
  have HR : Hid (LB = false) := by show _ = _; rw [HLB.out]; exact decide_eq_false (by omega)
  go_enter Tryz.func41, Tryz.ntmps41
  go_wp2_with fail
  go_ret
  exact ⟨ret_bool (by rw [HR.out]; simp; try omega), (Ext.refl _).alloc _⟩
end Go.Proofs.YtkigmpholnfkbaaGreat
/- the reference: garmentref25.widths, piece -/
namespace Go.Proofs.YtkigmpholnfkbaaGreat
open Go.RowKit
def wdE (ws : List Int) (n : Nat) : Int := if ws.length ≠ n then 1 else if allB (fun i => decide (0 ≤ gI ws i ∧ gI ws i ≤ 500)) ws.length = false then 3 else 0
set_option maxRecDepth 100000 in
set_option maxHeartbeats 1600000 in
theorem rwidths_any (a : PcA) (p : Pc) (w : World) (hp : PcAt w a p) :
    Calls Tryz.prog 64 #[a.val] w fun e w' => e = .returned (.int .i64 (wdE p.ws p.es.length)) ∧ Ext w w' := by
  have HP := Lib.hid hp; clear hp
  obtain ⟨nm, AE, nE, cE, gr, AN, nN, cN, AC, nC, cC, AW, nW, cW, mt⟩ := a
  have HLW : Hid (p.ws.length = nW) := HP.out.li
  have HLE : Hid (p.es.length = nE) := HP.out.le
  have HW := Lib.hid HP.out.i
  have hbW : nW ≤ 9223372036854775807 := HP.out.nw
  clear HP
  simp only [PcA.val] at HW ⊢
  have HWE : Hid (wdE p.ws p.es.length = if nW ≠ nE then 1 else if allB (fun i => decide (0 ≤ gI p.ws i ∧ gI p.ws i ≤ 500)) nW = false then 3 else 0) := by
    show _ = _; unfold wdE; rw [HLW.out, HLE.out]
  obtain ⟨WE, hWE⟩ : ∃ y, y = wdE p.ws p.es.length := ⟨_, rfl⟩
  rw [← hWE] at HWE ⊢
  clear hWE
  go_enter Tryz.func64, Tryz.ntmps64
  by_cases hwl : nW = nE
  rotate_left
  · have hwb : ((nW : Int) != (nE : Int)) = true := by simp; omega
    have hwb' : (nW != nE) = true := by simp; omega
    have HR : Hid (WE = 1) := by show _ = _; rw [HWE.out, if_pos hwl]
    clear hwl
    go_wp2_with fail
    go_ret
    exact ⟨ret_int HR.out.symm, (Ext.refl _).alloc _⟩
  have HR1 : Hid (WE = if allB (fun i => decide (0 ≤ gI p.ws i ∧ gI p.ws i ≤ 500)) nW = false then 3 else 0) := by show _ = _; rw [HWE.out, if_neg (fun h => h hwl)]
  have hwb : ((nW : Int) != (nE : Int)) = false := by simp; omega
  have hwb' : (nW != nE) = false := by simp; omega
  clear hwl HWE
  go_upto_region 4 with fail
  refine wp_at fun w1 hw1 => ?_
  have HB1 : Hid (Blk 52 w1 w.heap.size [.string nm, .slice AE nE cE, .int .i64 gr, .slice AN nN cN, .slice AC nC cC, .slice AW nW cW, .bool mt]) := by show Blk _ _ _ _; rw [hw1]; exact Blk.new' rfl
  have HX1 : Hid (Ext w w1) := by show Ext _ _; rw [hw1]; exact (Ext.refl _).alloc _
  clear hw1
  go_loopw [3] (fun i wr => ∃ m : Nat, m ≤ nW ∧ i = .int .i64 m ∧ allB (fun i => decide (0 ≤ gI p.ws i ∧ gI p.ws i ≤ 500)) m = true ∧ Ext w1 wr) (fun i _ => nW - (intOf i).toNat)
  case atStart => exact ⟨0, Nat.zero_le _, rfl, rfl, Ext.refl _⟩
  case round =>
    obtain ⟨m, hm, rfl, hall, hx⟩ := hrel
    have HALL := Lib.hid hall; have HX := Lib.hid hx; clear hall hx
    obtain ⟨c0, c1, c2, c3, c4, c5, c6⟩ := blk7 (HB1.out.ext HX.out)
    by_cases hlt : m < nW
    · obtain ⟨bw, ow, hAW, d0⟩ := (HW.out.ext (HX1.out.trans HX.out)).g (k := m) (by rw [HLW.out]; exact hlt)
      subst hAW
      obtain ⟨v, hv⟩ : ∃ v, v = gI p.ws m := ⟨_, rfl⟩
      rw [← hv] at d0
      have HV := Lib.hid hv; clear hv
      by_cases g0 : v < 0
      · have HR : Hid (WE = 3) := by show _ = _; rw [HR1.out, if_pos (allB_false hlt (by rw [← HV.out]; exact decide_eq_false (by omega)))]
        go_wp2_with fail
        go_ret
        exact ⟨ret_int HR.out.symm, HX1.out.trans HX.out⟩
      by_cases g1 : 500 < v
      · have HR : Hid (WE = 3) := by show _ = _; rw [HR1.out, if_pos (allB_false hlt (by rw [← HV.out]; exact decide_eq_false (by omega)))]
        go_wp2_with fail
        go_ret
        exact ⟨ret_int HR.out.symm, HX1.out.trans HX.out⟩
      have HD : Hid (decide (0 ≤ gI p.ws m ∧ gI p.ws m ≤ 500) = true) := by show _ = _; rw [← HV.out]; exact decide_eq_true (by omega)
      go_wp2_with fail
      go_roundw
      case rel => exact ⟨m + 1, by omega, by go_num, allB_succ HALL.out HD.out, HX.out⟩
      case measure => simp [intOf]; omega
    · obtain rfl : m = nW := by omega
      have HR : Hid (WE = 0) := by show _ = _; rw [HR1.out, if_neg (by rw [HALL.out]; simp)]
      go_wp2_with fail
      go_ret
      exact ⟨ret_int HR.out.symm, HX1.out.trans HX.out⟩
set_option maxRecDepth 100000 in
set_option maxHeartbeats 3200000 in
theorem rpiece_any (A : Option Addr) (l : List PcX) (k c : Nat) (a : PcA) (w : World) (hP : PiecesX w A (l.take k)) (hk : k < l.length) (hb : k ≤ 9223372036854775807) (hp : PcAt w a (gPx l k).p) (hn : a.nm = (gPx l k).nm) (hg : a.gr = (gPx l k).gr)
    (hb1 : (gPx l k).p.es.length ≤ 1000) (hb2 : (gPx l k).p.cs.length ≤ 1000) :
    Calls Tryz.prog 42 #[.slice A k c, a.val] w fun e w' => e = .returned (.int .i64 (pieceE l k)) ∧ Ext w w' := by
  have HP := Lib.hid hP; clear hP
  have HK := Lib.hid hk; clear hk
  have HA := Lib.hid hp; clear hp
  have HPL := Lib.hid (fun W (h : Ext w W) => rplaced_any a (gPx l k).p 0 W (HA.out.ext h) hb1 hb2)
  have HWD := Lib.hid (fun W (h : Ext w W) => rwidths_any a (gPx l k).p W (HA.out.ext h))
  have HG := Lib.hid (fun W (h : Ext w W) => rgraded_any a.nm a.AE a.AN a.AC a.AW a.nE a.cE a.nN a.cN a.nC a.cC a.nW a.cW a.gr 0 a.mt (gPx l k).p.es (gPx l k).p.cs W (HA.out.e.ext h) HA.out.le (HA.out.c.ext h) HA.out.lc (by rw [← HA.out.le]; exact hb1) (by rw [← HA.out.lc]; exact hb2))
  clear hb1 hb2
  obtain ⟨nm, AE, nE, cE, gr, AN, nN, cN, AC, nC, cC, AW, nW, cW, mt⟩ := a
  have HNM : Hid (nm = (gPx l k).nm) := hn
  have HGR : Hid (gr = (gPx l k).gr) := hg
  clear hn hg HA
  simp only [PcA.val] at HPL HG HWD ⊢
  obtain ⟨PE, hPE⟩ : ∃ PE, PE = pieceE l k := ⟨_, rfl⟩
  rw [← hPE]
  have HPE := Lib.hid hPE; clear hPE
  go_enter Tryz.func42, Tryz.ntmps42
  go_upto_region 1 with fail
  refine wp_at fun w1 hw1 => ?_
  have HB1 : Hid (Blk 52 w1 w.heap.size [.string nm, .slice AE nE cE, .int .i64 gr, .slice AN nN cN, .slice AC nC cC, .slice AW nW cW, .bool mt]) := by show Blk _ _ _ _; rw [hw1]; exact Blk.new' rfl
  have HX1 : Hid (Ext w w1) := by show Ext _ _; rw [hw1]; exact (Ext.refl w).alloc _
  clear hw1
  obtain ⟨c0, c1, c2, c3, c4, c5, c6⟩ := blk7 HB1.out
  have HNC := Lib.hid (fun W => rname_any nm W)
  cases hnb : nameB nm
  · have HR : Hid (PE = 1) := by show _ = _; rw [HPE.out, pieceE_1 (by rw [← HNM.out]; exact hnb)]
    rw [hnb] at HNC
    clear hnb
    go_wp2_with fail
    refine (HNC.out _).mono ?_
    rintro e w2 ⟨rfl, hw2⟩
    obtain rfl : w1 = w2 := hw2
    go_wp2_with fail
    go_ret
    exact ⟨ret_int HR.out.symm, HX1.out⟩
  have HNB : Hid (nameB (gPx l k).nm = true) := by show _ = _; rw [← HNM.out]; exact hnb
  rw [hnb] at HNC
  clear hnb
  by_cases hgr : gr ≠ 1 ∧ gr ≠ 2 ∧ gr ≠ 4
  · have HR : Hid (PE = 1) := by show _ = _; rw [HPE.out, pieceE_2 (by rw [← HGR.out]; exact hgr)]
    obtain ⟨g1, g2, g4⟩ := hgr
    have g1b : (gr != 1) = true := by simp [g1]
    have g2b : (gr != 2) = true := by simp [g2]
    have g4b : (gr != 4) = true := by simp [g4]
    clear g1 g2 g4
    go_wp2_with fail
    refine (HNC.out _).mono ?_
    rintro e w2 ⟨rfl, hw2⟩
    obtain rfl : w1 = w2 := hw2
    go_wp2_with fail
    go_ret
    exact ⟨ret_int HR.out.symm, HX1.out⟩
  have HR3 := Lib.hid (pieceE_3 HNB.out (by rw [← HGR.out]; exact hgr))
  rw [← HPE.out] at HR3
  have hgd : gr = 1 ∨ gr = 2 ∨ gr = 4 := by omega
  clear hgr
  go_cut [28] from 10 to 28 (fun v wc => v = .bool false ∧ wc = w1)
  case first =>
    rcases hgd with h | h | h
    · subst h
      go_wp2_with fail
      refine (HNC.out _).mono ?_
      rintro e w2 ⟨rfl, hw2⟩
      obtain rfl : w1 = w2 := hw2
      go_wp2_with fail
      go_meet
      case rel => exact ⟨rfl, rfl⟩
    · subst h
      go_wp2_with fail
      refine (HNC.out _).mono ?_
      rintro e w2 ⟨rfl, hw2⟩
      obtain rfl : w1 = w2 := hw2
      go_wp2_with fail
      go_meet
      case rel => exact ⟨rfl, rfl⟩
    · subst h
      go_wp2_with fail
      refine (HNC.out _).mono ?_
      rintro e w2 ⟨rfl, hw2⟩
      obtain rfl : w1 = w2 := hw2
      go_wp2_with fail
      go_meet
      case rel => exact ⟨rfl, rfl⟩
  case rest =>
    obtain ⟨hcv, hw⟩ := hcut
    subst hcv
    obtain rfl : w1 = wc := hw.symm
    go_wp2_with fail
    clear c0 c1 c2 c3 c4 c5 c6
    go_loopw [5] (fun i wr => ∃ j : Nat, j ≤ k ∧ i = .int .i64 j ∧ (∀ q, q < j → pdupF l k q = false) ∧ Ext w1 wr) (fun i _ => k - (intOf i).toNat)
    case atStart => exact ⟨0, Nat.zero_le _, rfl, fun j hj => absurd hj (Nat.not_lt_zero _), Ext.refl _⟩
    case round =>
      obtain ⟨j, hj, rfl, hall, hx⟩ := hrel
      have HALL := Lib.hid hall; have HX := Lib.hid hx; clear hall hx
      obtain ⟨c0, c1, c2, c3, c4, c5, c6⟩ := blk7 (HB1.out.ext HX.out)
      by_cases hlt : j < k
      · obtain ⟨bp, op, q, hAP, hpA, hcA, hqn, hqg⟩ := (HP.out.ext (HX1.out.trans HX.out)) j (by rw [List.length_take]; have := HK.out; omega)
        subst hAP
        clear hpA hqg
        rw [gPx_take hlt (Nat.le_of_lt HK.out)] at hqn
        have a0 := hcA.c0
        obtain ⟨pnm, hpnm⟩ : ∃ y, y = q.nm := ⟨_, rfl⟩
        rw [← hpnm] at a0 hqn
        have HQN := Lib.hid hqn; clear hqn hpnm hcA
        cases heq : (pnm.toList == nm.toList)
        · have HD : Hid (pdupF l k j = false) := by show _ = _; unfold pdupF; rw [← HQN.out, ← HNM.out, ← str_eq]; exact heq
          go_wp2_with fail
          go_quiet (fail)
          go_wp2_with fail
          go_roundw
          case rel => exact ⟨j + 1, by omega, by go_num, fun q hq => by
            rcases Nat.lt_succ_iff_lt_or_eq.1 hq with h | h
            · exact HALL.out q h
            · subst h; exact HD.out, HX.out.drewN _⟩
          case measure => simp [intOf]; omega
        · have HD : Hid (pdupF l k j = true) := by show _ = _; unfold pdupF; rw [← HQN.out, ← HNM.out, ← str_eq]; exact heq
          have HR : Hid (PE = 7) := by show _ = _; rw [HR3.out, if_pos (any_at hlt HD.out)]
          go_wp2_with fail
          go_quiet (fail)
          go_wp2_with fail
          go_ret
          exact ⟨ret_int HR.out.symm, HX1.out.trans (HX.out.drewN _)⟩
      obtain rfl : j = k := by omega
      have HR4 : Hid (PE = pE2 l j) := by show _ = _; rw [HR3.out, if_neg (by rw [any_none HALL.out]; simp)]
      clear HALL HR3
      obtain ⟨W1, hW1⟩ : ∃ W1 : World, W1 = wr := ⟨_, rfl⟩
      rw [← hW1] at c0 c1 c2 c3 c4 c5 c6 HX ⊢
      clear hW1
      have HXW := Lib.hid (HX1.out.trans HX.out)
      have HBW := Lib.hid (HB1.out.ext HX.out)
      obtain ⟨GR, hGR⟩ : ∃ GR, GR = gradedR (gPx l j).p.es (gPx l j).p.cs 0 := ⟨_, rfl⟩
      have HGC := Lib.hid (HG.out W1 HXW.out)
      have HGE := Lib.hid hGR
      go_wp2_with fail
      refine HGC.out.mono ?_
      rintro e w2 ⟨v1, rfl, hv, hv', he2⟩
      rw [← hGR] at hv hv' ⊢
      have HX2 := Lib.hid (HXW.out.trans he2)
      have HB2 := Lib.hid (HBW.out.ext he2)
      clear he2 hv hv' hGR HGC
      clear c0 c1 c2 c3 c4 c5 c6
      obtain ⟨c0, c1, c2, c3, c4, c5, c6⟩ := blk7 HB2.out
      by_cases hz : GR = 0
      rotate_left
      · have hzb : (GR != 0) = true := by simp [hz]
        have HR : Hid (PE = GR) := by show _ = _; rw [HR4.out]; unfold pE2; rw [if_pos (by rw [← HGE.out]; exact hz), HGE.out]
        clear hz
        go_wp2_with fail
        go_ret
        exact ⟨ret_int HR.out.symm, HX2.out⟩
      subst hz
      obtain ⟨PL, hPL⟩ : ∃ PL, PL = plE (gPx l j).p 0 := ⟨_, rfl⟩
      have HPC := Lib.hid (HPL.out w2 HX2.out)
      have HPLE := Lib.hid hPL
      go_wp2_with fail
      refine HPC.out.mono ?_
      rintro e w3 ⟨v2, rfl, _, _, he3⟩
      rw [← hPL]
      have HX3 := Lib.hid (HX2.out.trans he3)
      have HB3 := Lib.hid (HB2.out.ext he3)
      clear he3 hPL HPC
      clear c0 c1 c2 c3 c4 c5 c6
      obtain ⟨c0, c1, c2, c3, c4, c5, c6⟩ := blk7 HB3.out
      by_cases hz : PL = 0
      rotate_left
      · have hzb : (PL != 0) = true := by simp [hz]
        have HR : Hid (PE = PL) := by show _ = _; rw [HR4.out]; unfold pE2; rw [if_neg (by rw [← HGE.out]; simp), if_pos (by rw [← HPLE.out]; exact hz), HPLE.out]
        clear hz
        go_wp2_with fail
        go_ret
        exact ⟨ret_int HR.out.symm, HX3.out⟩
      subst hz
      have HR5 : Hid (PE = wdE (gPx l j).p.ws (gPx l j).p.es.length) := by
        show _ = _; rw [HR4.out]; unfold pE2; rw [if_neg (by rw [← HGE.out]; simp), if_neg (by rw [← HPLE.out]; simp)]; rfl
      have HWC := Lib.hid (HWD.out w3 HX3.out)
      rw [← HR5.out] at HWC
      go_wp2_with fail
      refine HWC.out.mono ?_
      rintro e w4 ⟨rfl, he4⟩
      have HX4 := Lib.hid (HX3.out.trans he4)
      clear he4 c0 c1 c2 c3 c4 c5 c6
      go_wp2_with fail
      go_ret
      exact ⟨rfl, HX4.out⟩
end Go.Proofs.YtkigmpholnfkbaaGreat
namespace Go.Proofs.YtkigmpholnfkbaaGreat
open Go.RowKit
set_option maxRecDepth 100000 in
set_option maxHeartbeats 800000 in
theorem r25in_any (a : StyA) (x : StyX) (p q : Int) (w : World) (hs : StyXAt w a x) :
    Calls Tryz.prog 65 #[a.val, .int .i64 p, .int .i64 q] w fun e w' => e = .returned (.bool (edgeB x.s p q)) ∧ Ext w w' := by
  have hs := hs.sty
  generalize x.s = s at hs ⊢
  obtain ⟨nm, AS, nS, cS, AM, nM, cM, AP, nP, cP, AU, nU, cU, AK, nK, cK, AO, nO, cO⟩ := a
  have HL : Hid (s.ps.length = nP) := hs.lP
  have HP := Lib.hid hs.P
  clear hs
  simp only [StyA.val] at HP ⊢
  by_cases h0 : 0 ≤ p
  · by_cases h1 : p < nP
    · by_cases h2 : 0 ≤ q
      · obtain ⟨k, rfl⟩ := Int.eq_ofNat_of_zero_le h0
        have hk : k < nP := by omega
        obtain ⟨b, off, pa, hA, hpc, hcc⟩ := (HP.out.ext ((Ext.refl w).alloc (.cells #[.string nm, .slice AS nS cS, .slice AM nM cM, .slice AP nP cP, .slice AU nU cU, .slice AK nK cK, .slice AO nO cO] 29))) k (by rw [HL.out]; exact hk)
        subst hA
        have c1 := hcc.c1
        obtain ⟨nE, hnE⟩ : ∃ n, n = pa.nE := ⟨_, rfl⟩
        rw [← hnE] at c1
        have HE : Hid ((gPc s.ps k).es.length = nE) := by show _ = _; rw [hnE]; exact hpc.le
        clear hpc hcc hnE
        by_cases h3 : q < nE
        · go_enter Tryz.func65, Tryz.ntmps65
          go_wp2_with fail
          go_ret
          exact ⟨ret_bool (by symm; unfold edgeB; rw [HL.out, Int.toNat_natCast, HE.out]; exact decide_eq_true (by omega)), (Ext.refl _).alloc _⟩
        · go_enter Tryz.func65, Tryz.ntmps65
          go_wp2_with fail
          go_ret
          exact ⟨ret_bool (by symm; unfold edgeB; rw [HL.out, Int.toNat_natCast, HE.out]; exact decide_eq_false (by omega)), (Ext.refl _).alloc _⟩
      · go_enter Tryz.func65, Tryz.ntmps65
        go_wp2_with fail
        go_ret
        exact ⟨ret_bool (by symm; unfold edgeB; rw [HL.out]; exact decide_eq_false (by omega)), (Ext.refl _).alloc _⟩
    · go_enter Tryz.func65, Tryz.ntmps65
      go_wp2_with fail
      go_ret
      exact ⟨ret_bool (by symm; unfold edgeB; rw [HL.out]; exact decide_eq_false (by omega)), (Ext.refl _).alloc _⟩
  · go_enter Tryz.func65, Tryz.ntmps65
    go_wp2_with fail
    go_ret
    exact ⟨ret_bool (by symm; unfold edgeB; rw [HL.out]; exact decide_eq_false (by omega)), (Ext.refl _).alloc _⟩
set_option maxRecDepth 100000 in
set_option maxHeartbeats 6400000 in
theorem joined_any (a : StyA) (x : StyX) (w : World) (hs : StyXAt w a x) :
    Calls Tryz.prog 43 #[a.val] w fun e w' => e = .returned (.int .i64 (st2 x)) ∧ Ext w w' := by
  have HS := Lib.hid hs
  have HCE := Lib.hid (fun p q W (h : Ext w W) => r25in_any a x p q W (hs.ext h))
  clear hs
  obtain ⟨nm, AS, nS, cS, AM, nM, cM, AP, nP, cP, AU, nU, cU, AK, nK, cK, AO, nO, cO⟩ := a
  have HLP : Hid (x.ps.length = nP) := HS.out.lP
  have HLU : Hid (x.us.length = nU) := HS.out.lU
  have HLK : Hid (x.ss.length = nK) := HS.out.lK
  have hbU : nU ≤ 9223372036854775807 := HS.out.bU
  have hbK : nK ≤ 9223372036854775807 := HS.out.bK
  have hbP : nP ≤ 9223372036854775807 := HS.out.bP
  have HUS := Lib.hid HS.out.U
  have HKS := Lib.hid HS.out.K
  simp only [StyA.val] at HCE HUS HKS ⊢
  clear HS
  obtain ⟨SE, hSE⟩ : ∃ SE, SE = st2 x := ⟨_, rfl⟩
  rw [← hSE]
  have HR2 := Lib.hid hSE; clear hSE
  go_enter Tryz.func43, Tryz.ntmps43
  go_wp2_with fail
  refine wp_at fun W1 hw1 => ?_
  have HBW : Hid (Blk 29 W1 w.heap.size [.string nm, .slice AS nS cS, .slice AM nM cM, .slice AP nP cP, .slice AU nU cU, .slice AK nK cK, .slice AO nO cO]) := by show Blk _ _ _ _; rw [hw1]; exact Blk.new' rfl
  have HXW : Hid (Ext w W1) := by show Ext _ _; rw [hw1]; exact (Ext.refl _).alloc _
  clear hw1
  go_loopw [3] (fun i wr => ∃ m : Nat, m ≤ nU ∧ i = .int .i64 m ∧ firstE (useE x) m = 0 ∧ Ext W1 wr) (fun i _ => nU - (intOf i).toNat)
  case atStart => exact ⟨0, Nat.zero_le _, rfl, rfl, Ext.refl _⟩
  case round =>
    obtain ⟨m, hm, rfl, hall, hx⟩ := hrel
    have HALL := Lib.hid hall; have HX := Lib.hid hx; clear hall hx
    obtain ⟨c0, c1, c2, c3, c4, c5, c6⟩ := blk7 (HBW.out.ext HX.out)
    by_cases hlt : m < nU
    · have HML : Hid (m < x.us.length) := by show _ < _; rw [HLU.out]; exact hlt
      obtain ⟨bu, ou, hAU, u0, u1, u2'⟩ := (HUS.out.ext (HXW.out.trans HX.out)) m HML.out
      subst hAU
      obtain ⟨pc, hpc⟩ : ∃ v, v = (gU x.us m).pc := ⟨_, rfl⟩
      obtain ⟨ct, hct⟩ : ∃ v, v = (gU x.us m).ct := ⟨_, rfl⟩
      obtain ⟨pr, hpr⟩ : ∃ v, v = (gU x.us m).pr := ⟨_, rfl⟩
      rw [← hpc] at u0; rw [← hct] at u1; rw [← hpr] at u2'
      have HPC := Lib.hid hpc; have HCT := Lib.hid hct; clear hpc hct hpr
      have hpl : w.heap.size < wr.heap.size := (HBW.out.ext HX.out).lt
      have HAL : Hid (Ext W1 (wr.alloc (.cells #[.int .i64 pc, .int .i64 ct, .bool pr] 78))) := HX.out.alloc _
      have HUE : Hid (useE x m = if pc < 0 ∨ (nP : Int) ≤ pc ∨ ct < 1 ∨ 4 < ct then 3 else 0) := by show _ = _; unfold useE; rw [← HPC.out, ← HCT.out, HLP.out]
      by_cases g0 : pc < 0
      · have HR : Hid (SE = 3) := by show _ = _; rw [HR2.out]; unfold st2; rw [firstE_in HML.out HALL.out (by rw [HUE.out, if_pos (by omega)]; decide), HUE.out, if_pos (by omega)]
        go_wp2_with fail
        go_ret
        exact ⟨ret_int HR.out.symm, HXW.out.trans HAL.out⟩
      by_cases g1 : (nP : Int) ≤ pc
      · have HR : Hid (SE = 3) := by show _ = _; rw [HR2.out]; unfold st2; rw [firstE_in HML.out HALL.out (by rw [HUE.out, if_pos (by omega)]; decide), HUE.out, if_pos (by omega)]
        go_wp2_with fail
        go_ret
        exact ⟨ret_int HR.out.symm, HXW.out.trans HAL.out⟩
      by_cases g2 : ct < 1
      · have HR : Hid (SE = 3) := by show _ = _; rw [HR2.out]; unfold st2; rw [firstE_in HML.out HALL.out (by rw [HUE.out, if_pos (by omega)]; decide), HUE.out, if_pos (by omega)]
        go_wp2_with fail
        go_ret
        exact ⟨ret_int HR.out.symm, HXW.out.trans HAL.out⟩
      by_cases g3 : 4 < ct
      · have HR : Hid (SE = 3) := by show _ = _; rw [HR2.out]; unfold st2; rw [firstE_in HML.out HALL.out (by rw [HUE.out, if_pos (by omega)]; decide), HUE.out, if_pos (by omega)]
        go_wp2_with fail
        go_ret
        exact ⟨ret_int HR.out.symm, HXW.out.trans HAL.out⟩
      have HZ : Hid (useE x m = 0) := by show _ = _; rw [HUE.out, if_neg (by omega)]
      go_wp2_with fail
      go_roundw
      case rel => exact ⟨m + 1, by omega, by go_num, firstE_succ HALL.out HZ.out, HAL.out⟩
      case measure => simp [intOf]; omega
    obtain rfl : m = nU := by omega
    have HR3 : Hid (SE = st3 x) := by show _ = _; rw [HR2.out]; unfold st2; rw [firstE_out (by rw [HLU.out]; exact HALL.out)]
    clear HALL HR2 hm hlt
    obtain ⟨W2, hW2⟩ : ∃ W2 : World, W2 = wr := ⟨_, rfl⟩
    rw [← hW2] at c0 c1 c2 c3 c4 c5 c6 HX ⊢
    clear hW2
    have HXV := Lib.hid (HXW.out.trans HX.out)
    have HBV := Lib.hid (HBW.out.ext HX.out)
    clear HX
    go_wp2_with fail
    clear c0 c1 c2 c3 c4 c5 c6
    go_loopw [5] (fun i wr => ∃ m : Nat, m ≤ nK ∧ i = .int .i64 m ∧ firstE (joinE x) m = 0 ∧ Ext W2 wr) (fun i _ => nK - (intOf i).toNat)
    case atStart => exact ⟨0, Nat.zero_le _, rfl, rfl, Ext.refl _⟩
    case round =>
      obtain ⟨j, hj, rfl, hall, hx⟩ := hrel
      have HALL := Lib.hid hall; have HX := Lib.hid hx; clear hall hx
      obtain ⟨c0, c1, c2, c3, c4, c5, c6⟩ := blk7 (HBV.out.ext HX.out)
      by_cases hlt : j < nK
      · have HJL : Hid (j < x.ss.length) := by show _ < _; rw [HLK.out]; exact hlt
        obtain ⟨bs, os, hAK, hsm⟩ := (HKS.out.ext (HXV.out.trans HX.out)) j HJL.out
        subst hAK
        have HJE : Hid (joinE x j = if ¬ (edgeB x.s (gSm x.ss j).pa (gSm x.ss j).ea = true ∧ edgeB x.s (gSm x.ss j).pb (gSm x.ss j).eb = true) then 3 else if (gSm x.ss j).ease < 0 then 1 else 0) := rfl
        obtain ⟨sm, hsmd⟩ : ∃ sm, sm = gSm x.ss j := ⟨_, rfl⟩
        rw [← hsmd] at hsm HJE
        clear hsmd
        obtain ⟨pa, ea, pb, eb, rv, es⟩ := sm
        obtain ⟨k0, k1, k2, k3, k4, k5⟩ := hsm
        simp only at k0 k1 k2 k3 k4 k5 HJE
        have hpl : w.heap.size < wr.heap.size := (HBV.out.ext HX.out).lt
        have HXL : Hid (Ext wr (wr.alloc (.cells #[.int .i64 pa, .int .i64 ea, .int .i64 pb, .int .i64 eb, .bool rv, .int .i64 es] 80))) := (Ext.refl _).alloc _
        go_wp2_with fail
        refine (HCE.out pa ea _ ((HXV.out.trans HX.out).trans HXL.out)).mono ?_
        rintro e w2 ⟨rfl, he2⟩
        have HSB : Hid (Blk 80 w2 wr.heap.size [.int .i64 pa, .int .i64 ea, .int .i64 pb, .int .i64 eb, .bool rv, .int .i64 es]) := (Blk.new' rfl).ext he2
        have HB2 := Lib.hid (((HBV.out.ext HX.out).ext HXL.out).ext he2)
        have HX2 := Lib.hid ((HX.out.trans HXL.out).trans he2)
        clear he2 HXL c0 c1 c2 c3 c4 c5 c6 k0 k1 k2 k3 k4 k5 hpl
        obtain ⟨c0, c1, c2, c3, c4, c5, c6⟩ := blk7 HB2.out
        obtain ⟨k0, k1, k2, k3, k4, k5⟩ := blk6 HSB.out
        cases hea : edgeB x.s pa ea
        · have HR : Hid (SE = 3) := by
            have hj3 : joinE x j = 3 := by rw [HJE.out, if_pos (fun h => by rw [hea] at h; cases h.1)]
            show _ = _; rw [HR3.out]; unfold st3; rw [firstE_at HJL.out HALL.out (by rw [hj3]; decide), hj3]
          clear hea
          go_wp2_with fail
          go_ret
          exact ⟨ret_int HR.out.symm, HXV.out.trans HX2.out⟩
        have HEA := Lib.hid hea; clear hea
        go_wp2_with fail
        refine (HCE.out pb eb _ (HXV.out.trans HX2.out)).mono ?_
        rintro e w3 ⟨rfl, he3⟩
        have HSB3 := Lib.hid (HSB.out.ext he3); have HX3 := Lib.hid (HX2.out.trans he3)
        clear he3 c0 c1 c2 c3 c4 c5 c6 k0 k1 k2 k3 k4 k5
        obtain ⟨k0, k1, k2, k3, k4, k5⟩ := blk6 HSB3.out
        cases heb : edgeB x.s pb eb
        · have HR : Hid (SE = 3) := by
            have hj3 : joinE x j = 3 := by rw [HJE.out, if_pos (fun h => by rw [heb] at h; cases h.2)]
            show _ = _; rw [HR3.out]; unfold st3; rw [firstE_at HJL.out HALL.out (by rw [hj3]; decide), hj3]
          clear heb
          go_wp2_with fail
          go_ret
          exact ⟨ret_int HR.out.symm, HXV.out.trans HX3.out⟩
        have HJ2 : Hid (joinE x j = if es < 0 then 1 else 0) := by show _ = _; rw [HJE.out, if_neg (fun h => h ⟨HEA.out, heb⟩)]
        clear heb HJE HEA
        by_cases g0 : es < 0
        · have HR : Hid (SE = 1) := by
            have hj3 : joinE x j = 1 := by rw [HJ2.out, if_pos g0]
            show _ = _; rw [HR3.out]; unfold st3; rw [firstE_at HJL.out HALL.out (by rw [hj3]; decide), hj3]
          go_wp2_with fail
          go_ret
          exact ⟨ret_int HR.out.symm, HXV.out.trans HX3.out⟩
        have HZ : Hid (joinE x j = 0) := by show _ = _; rw [HJ2.out, if_neg g0]
        go_wp2_with fail
        go_roundw
        case rel => exact ⟨j + 1, by omega, by go_num, firstE_succ HALL.out HZ.out, HX3.out⟩
        case measure => simp [intOf]; omega
      obtain rfl : j = nK := by omega
      have HR : Hid (SE = 0) := by show _ = _; rw [HR3.out]; unfold st3; rw [HLK.out]; exact HALL.out
      go_wp2_with fail
      go_ret
      exact ⟨ret_int HR.out.symm, HXV.out.trans HX.out⟩
set_option maxRecDepth 100000 in
set_option maxHeartbeats 6400000 in
theorem r25Check_any (a : StyA) (x : StyX) (w : World) (hs : StyXAt w a x) (hN : x.sz.length ≤ 1000) (hZ : ∀ k, k < x.sz.length → (gB x.sz k).size ≤ 1000) (hL : ∀ k, k < x.ps.length → (gPx x.ps k).p.es.length ≤ 1000 ∧ (gPx x.ps k).p.cs.length ≤ 1000) :
    Calls Tryz.prog 23 #[a.val] w fun e w' => e = .returned (.int .i64 (styE x)) ∧ Ext w w' := by
  have HS := Lib.hid hs
  have HCS := Lib.hid (fun W (h : Ext w W) => sized_any a x W (hs.ext h) hN hZ)
  have HCL := Lib.hid (fun W (h : Ext w W) => long_any a x W (hs.ext h))
  have HCJ := Lib.hid (fun W (h : Ext w W) => joined_any a x W (hs.ext h))
  have HLL := Lib.hid hL
  obtain ⟨nm, AS, nS, cS, AM, nM, cM, AP, nP, cP, AU, nU, cU, AK, nK, cK, AO, nO, cO⟩ := a
  have HLS : Hid (x.sz.length = nS) := HS.out.lS
  have HLM : Hid (x.ms.length = nM) := HS.out.lM
  have HLP : Hid (x.ps.length = nP) := HS.out.lP
  have hbM : nM ≤ 9223372036854775807 := HS.out.bM
  have hbP : nP ≤ 9223372036854775807 := HS.out.bP
  have hcP : nP ≤ cP := HS.out.cP
  have HMS := Lib.hid HS.out.M
  have HPS := Lib.hid HS.out.P
  have HCT := Lib.hid (fun W (h : Ext w W) => twice_any AS nS cS x.sz W (HS.out.S.ext h) HS.out.lS (by rw [← HLS.out]; exact hN))
  simp only [StyA.val] at HCS HCL HCJ HMS HPS ⊢
  clear hs hN hZ hL HS
  obtain ⟨SE, hSE⟩ : ∃ SE, SE = styE x := ⟨_, rfl⟩
  rw [← hSE]
  rw [sty_eq] at hSE
  have HSE := Lib.hid hSE; clear hSE
  have HSF := Lib.hid (@sized_f x); have HST := Lib.hid (@sized_t x)
  go_enter Tryz.func23, Tryz.ntmps23
  go_wp2_with fail
  refine (HCS.out _ ((Ext.refl _).alloc _)).mono ?_
  rintro e w1 ⟨rfl, he1⟩
  have HB1 : Hid (Blk 29 w1 w.heap.size [.string nm, .slice AS nS cS, .slice AM nM cM, .slice AP nP cP, .slice AU nU cU, .slice AK nK cK, .slice AO nO cO]) := (Blk.new' rfl).ext he1
  have HX1 := Lib.hid (((Ext.refl w).alloc _).trans he1)
  clear he1 HCS
  obtain ⟨c0, c1, c2, c3, c4, c5, c6⟩ := blk7 HB1.out
  cases hsz : sizedB x
  · have HR : Hid (SE = 1) := by show _ = _; rw [HSE.out, HSF.out hsz, if_pos (by decide)]
    clear hsz
    go_wp2_with fail
    go_ret
    exact ⟨ret_int HR.out.symm, HX1.out⟩
  have HW3 := Lib.hid (HST.out hsz)
  clear hsz HSF HST
  go_wp2_with fail
  refine (HCT.out _ HX1.out).mono ?_
  rintro e w2 ⟨rfl, he2⟩
  have HB2 := Lib.hid (HB1.out.ext he2); have HX2 := Lib.hid (HX1.out.trans he2)
  clear he2 HCT c0 c1 c2 c3 c4 c5 c6
  obtain ⟨c0, c1, c2, c3, c4, c5, c6⟩ := blk7 HB2.out
  cases hdp : szDup x.sz x.sz.length
  rotate_left
  · have HR : Hid (SE = 7) := by
      have h7 : wholeE x = 7 := by rw [HW3.out]; unfold wh3; rw [if_pos hdp]
      show _ = _; rw [HSE.out, h7, if_pos (by decide)]
    clear hdp
    go_wp2_with fail
    go_ret
    exact ⟨ret_int HR.out.symm, HX2.out⟩
  have HW4 : Hid (wholeE x = wh4 x) := by show _ = _; rw [HW3.out]; unfold wh3; rw [if_neg (by rw [hdp]; simp)]
  clear hdp HW3
  go_wp2_with fail
  refine (HCL.out _ HX2.out).mono ?_
  rintro e w3 ⟨rfl, he3⟩
  have HB3 := Lib.hid (HB2.out.ext he3); have HX3 := Lib.hid (HX2.out.trans he3)
  clear he3 HCL c0 c1 c2 c3 c4 c5 c6
  obtain ⟨c0, c1, c2, c3, c4, c5, c6⟩ := blk7 HB3.out
  have HLB : Hid (longB x = decide (12 < x.sz.length ∨ 12 < x.ps.length ∨ 24 < x.ss.length ∨ 16 < x.no ∨ 12 < x.us.length)) := rfl
  cases hlb : longB x
  rotate_left
  · have HR : Hid (SE = 5) := by
      have h5 : wholeE x = 5 := by
        have h := HLB.out
        rw [hlb] at h
        have h' := of_decide_eq_true h.symm
        rw [HW4.out]; unfold wh4
        by_cases h1 : 12 < x.sz.length ∨ 12 < x.ps.length ∨ 12 < x.us.length
        · rw [if_pos h1]
        · rw [if_neg h1]; unfold wh5; rw [if_pos (by omega)]
      show _ = _; rw [HSE.out, h5, if_pos (by decide)]
    clear hlb
    go_wp2_with fail
    go_ret
    exact ⟨ret_int HR.out.symm, HX3.out⟩
  have HW6 : Hid (wholeE x = wh6 x) := by
    have h := HLB.out
    rw [hlb] at h
    have h' := of_decide_eq_false h.symm
    show _ = _
    rw [HW4.out]; unfold wh4; rw [if_neg (by omega)]; unfold wh5; rw [if_neg (by omega)]
  clear hlb HLB HW4
  go_wp2_with fail
  clear c0 c1 c2 c3 c4 c5 c6
  go_loopw [3] (fun i wr => ∃ m : Nat, m ≤ nM ∧ i = .int .i64 m ∧ allB (fun i => decide (-100 ≤ gI x.ms i ∧ gI x.ms i ≤ 100)) m = true ∧ Ext w3 wr) (fun i _ => nM - (intOf i).toNat)
  case atStart => exact ⟨0, Nat.zero_le _, rfl, rfl, Ext.refl _⟩
  case round =>
    obtain ⟨m, hm, rfl, hall, hx⟩ := hrel
    have HALL := Lib.hid hall; have HXM := Lib.hid hx; clear hall hx
    obtain ⟨c0, c1, c2, c3, c4, c5, c6⟩ := blk7 (HB3.out.ext HXM.out)
    have HF3 : Hid (allB (fun i => decide (-100 ≤ gI x.ms i ∧ gI x.ms i ≤ 100)) x.ms.length = false → SE = 3) := fun h => by
      have h3 : wholeE x = 3 := by rw [HW6.out]; unfold wh6; rw [if_pos h]
      rw [HSE.out, h3, if_pos (by decide)]
    by_cases hlt : m < nM
    · obtain ⟨bw, ow, hAW, d0⟩ := (HMS.out.ext (HX3.out.trans HXM.out)).g (k := m) (by rw [HLM.out]; exact hlt)
      subst hAW
      obtain ⟨v, hv⟩ : ∃ v, v = gI x.ms m := ⟨_, rfl⟩
      rw [← hv] at d0
      have HV := Lib.hid hv; clear hv
      by_cases g0 : 100 < v
      · have HR := Lib.hid (HF3.out (allB_false (by rw [HLM.out]; exact hlt) (by rw [← HV.out]; exact decide_eq_false (by omega))))
        go_wp2_with fail
        go_ret
        exact ⟨ret_int HR.out.symm, HX3.out.trans HXM.out⟩
      by_cases g1 : v < -100
      · have HR := Lib.hid (HF3.out (allB_false (by rw [HLM.out]; exact hlt) (by rw [← HV.out]; exact decide_eq_false (by omega))))
        go_wp2_with fail
        go_ret
        exact ⟨ret_int HR.out.symm, HX3.out.trans HXM.out⟩
      have HD : Hid (decide (-100 ≤ gI x.ms m ∧ gI x.ms m ≤ 100) = true) := by show _ = _; rw [← HV.out]; exact decide_eq_true (by omega)
      go_wp2_with fail
      go_roundw
      case rel => exact ⟨m + 1, by omega, by go_num, allB_succ HALL.out HD.out, HXM.out⟩
      case measure => simp [intOf]; omega
    obtain rfl : m = nM := by omega
    have HR1 : Hid (SE = st1 x) := by
      have h0 : wholeE x = 0 := by rw [HW6.out]; unfold wh6; rw [if_neg (by rw [HLM.out, HALL.out]; simp)]
      show _ = _; rw [HSE.out, h0, if_neg (by simp)]
    clear HALL HF3 HSE HW6 hm hlt
    obtain ⟨W1, hW1⟩ : ∃ W1 : World, W1 = wr := ⟨_, rfl⟩
    rw [← hW1] at c0 c1 c2 c3 c4 c5 c6 HXM ⊢
    clear hW1
    have HXW := Lib.hid (HX3.out.trans HXM.out)
    have HBW := Lib.hid (HB3.out.ext HXM.out)
    clear HXM
    go_wp2_with fail
    clear c0 c1 c2 c3 c4 c5 c6
    go_loopw [4] (fun i wr => ∃ k : Nat, k ≤ nP ∧ i = .int .i64 k ∧ firstE (pieceE x.ps) k = 0 ∧ Ext W1 wr) (fun i _ => nP - (intOf i).toNat)
    case atStart => exact ⟨0, Nat.zero_le _, rfl, rfl, Ext.refl _⟩
    case round =>
      obtain ⟨k, hk, rfl, hall, hx⟩ := hrel
      have HALL := Lib.hid hall; have HX := Lib.hid hx; clear hall hx
      obtain ⟨c0, c1, c2, c3, c4, c5, c6⟩ := blk7 (HBW.out.ext HX.out)
      by_cases hlt : k < nP
      rotate_left
      · obtain rfl : k = nP := by omega
        have HR2 : Hid (SE = st2 x) := by show _ = _; rw [HR1.out]; unfold st1; rw [firstE_out (by rw [HLP.out]; exact HALL.out)]
        have HJ := Lib.hid (HCJ.out wr (HXW.out.trans HX.out))
        rw [← HR2.out] at HJ
        go_wp2_with fail
        refine HJ.out.mono ?_
        rintro e w4 ⟨rfl, he4⟩
        clear c0 c1 c2 c3 c4 c5 c6
        go_wp2_with fail
        go_ret
        exact ⟨rfl, (HXW.out.trans HX.out).trans he4⟩
      have HKL : Hid (k < x.ps.length) := by show _ < _; rw [HLP.out]; exact hlt
      obtain ⟨bp, op, q, hAP, hpA, hcA, hqn, hqg⟩ := (HPS.out.ext (HXW.out.trans HX.out)) k HKL.out
      subst hAP
      have HCP := Lib.hid (fun W (h : Ext wr W) => rpiece_any (some ⟨bp, op, none⟩) x.ps k cP q W (((HPS.out.ext (HXW.out.trans HX.out)).ext h).take k) HKL.out (by omega) (hpA.ext h) hqn hqg (HLL.out k HKL.out).1 (HLL.out k HKL.out).2)
      clear hpA hqn hqg
      obtain ⟨pnm, pAE, pnE, pcE, pgr, pAN, pnN, pcN, pAC, pnC, pcC, pAW, pnW, pcW, pmt⟩ := q
      obtain ⟨a0, a1, a2, a3, a4, a5, a6⟩ := hcA
      simp only [PcA.val] at HCP a0 a1 a2 a3 a4 a5 a6
      obtain ⟨PE, hPE⟩ : ∃ PE, PE = pieceE x.ps k := ⟨_, rfl⟩
      rw [← hPE] at HCP
      have HPE := Lib.hid hPE; clear hPE
      have z0 := fun z : After wr => After.cell c3 z
      have y0 := fun z : After wr => After.cell a0 z
      have y1 := fun z : After wr => After.cell a1 z
      have y2 := fun z : After wr => After.cell a2 z
      have y3 := fun z : After wr => After.cell a3 z
      have y4 := fun z : After wr => After.cell a4 z
      have y5 := fun z : After wr => After.cell a5 z
      have y6 := fun z : After wr => After.cell a6 z
      have hkc : k ≤ cP := by omega
      go_wp2_with fail
      refine region_ext (by kernel_rfl) (by kernel_rfl) ?_
      repeat (first | go_big_quiet_step ((go_at_call 42; exact after_call (HCP.out _ (After.ext _)))) | (go_big_quiet_want; go_simp; go_big_quiet_on))
      refine wpQuiet_nil ?_
      rintro w4 ⟨⟨_, he4⟩, rfl⟩
      have HX4 := Lib.hid (HX.out.trans he4)
      clear z0 y0 y1 y2 y3 y4 y5 y6 a0 a1 a2 a3 a4 a5 a6 c0 c1 c2 c3 c4 c5 c6 he4 HCP
      by_cases hz : PE = 0
      · have HZ : Hid (pieceE x.ps k = 0) := by show _ = _; rw [← HPE.out]; exact hz
        have hzb : (PE != 0) = false := by simp [hz]
        clear hz
        go_wp2_with fail
        go_roundw
        case rel => exact ⟨k + 1, by omega, by go_num, firstE_succ HALL.out HZ.out, HX4.out⟩
        case measure => simp [intOf]; omega
      · have hzb : (PE != 0) = true := by simp [hz]
        have HR : Hid (SE = PE) := by show _ = _; rw [HR1.out]; unfold st1; rw [firstE_in HKL.out HALL.out (by rw [← HPE.out]; exact hz), HPE.out]
        clear hz
        go_wp2_with fail
        go_ret
        exact ⟨ret_int HR.out.symm, HXW.out.trans HX4.out⟩
end Go.Proofs.YtkigmpholnfkbaaGreat
