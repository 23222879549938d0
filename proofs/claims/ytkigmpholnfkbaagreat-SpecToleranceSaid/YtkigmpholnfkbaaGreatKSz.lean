/- chart.isSize, chart.Check of one size; style.isName, isSize, isEdge; slices.Contains of numbers -/
import Derived.Test.YtkigmpholnfkbaaGreatKStX
namespace Go.Proofs.YtkigmpholnfkbaaGreat
open Go.RowKit
def szF (s : ByteArray) (k : Nat) : Bool := if h : k < s.size then szC s[k] else false
theorem szF_eq {s : ByteArray} {k : Nat} (h : k < s.size) : szF s k = szC s[k] := by simp [szF, h]
theorem szB_all (s : ByteArray) : szB s = (allB (szF s) s.size && decide (1 ≤ s.size ∧ s.size ≤ 8)) := by
  unfold szB
  congr 1
  rw [Bool.eq_iff_iff, allB_iff, List.all_eq_true]
  constructor
  · intro h i hi
    rw [szF_eq hi]
    exact h _ (by show s.data[i] ∈ s.data.toList; simp)
  · intro h c hc
    obtain ⟨i, hi, rfl⟩ := List.mem_iff_getElem.1 hc
    have hi' : i < s.size := by simpa using hi
    have := h i hi'
    rw [szF_eq hi'] at this
    exact this
theorem sz_false {s : ByteArray} {k : Nat} (hk : k < s.size) (h : szC s[k] = false) : false = szB s := by
  rw [szB_all, allB_false hk (by rw [szF_eq hk]; exact h)]; rfl
set_option maxHeartbeats 800000 in
theorem chsize_any (s : ByteArray) (w : World) (hs : s.size ≤ 1000) :
    Calls Tryz.prog 102 #[.string s] w fun e w' => e = .returned (.bool (szB s)) ∧ Ext w w' := by
  go_enter Tryz.func102, Tryz.ntmps102
  go_wp2_with fail
  go_loop [8] (fun i => ∃ k : Nat, k ≤ s.size ∧ i = .int .i64 k ∧ allB (szF s) k = true) (fun i => s.size - (intOf i).toNat)
  case atStart => exact ⟨0, Nat.zero_le _, rfl, rfl⟩
  case round =>
    obtain ⟨k, hk, rfl, ht⟩ := hrel
    have HT := Lib.hid ht; clear ht
    by_cases hlt : k < s.size
    · by_cases h0 : 65 ≤ (s[k].toNat : Int)
      · by_cases h1 : (s[k].toNat : Int) ≤ 90
        · have HC : Hid (szC s[k] = true) := by show _ = _; simp [szC]; omega
          by_cases h2 : 48 ≤ (s[k].toNat : Int)
          rotate_left
          · omega
          by_cases h3 : (s[k].toNat : Int) ≤ 57
          · omega
          go_wp2_with fail
          go_round
          case rel => exact ⟨k + 1, by omega, by go_num, allB_succ HT.out (by rw [szF_eq hlt]; exact HC.out)⟩
          case measure => simp [intOf]; omega
        · have HC : Hid (szC s[k] = false) := by show _ = _; simp [szC]; omega
          have h2 : 48 ≤ (s[k].toNat : Int) := by omega
          have h3 : ¬ (s[k].toNat : Int) ≤ 57 := by omega
          go_wp2_with fail
          go_ret
          exact ⟨ret_bool (sz_false hlt HC.out), Ext.refl _⟩
      · by_cases h2 : 48 ≤ (s[k].toNat : Int)
        · by_cases h3 : (s[k].toNat : Int) ≤ 57
          · have HC : Hid (szC s[k] = true) := by show _ = _; simp [szC]; omega
            go_wp2_with fail
            go_round
            case rel => exact ⟨k + 1, by omega, by go_num, allB_succ HT.out (by rw [szF_eq hlt]; exact HC.out)⟩
            case measure => simp [intOf]; omega
          · have HC : Hid (szC s[k] = false) := by show _ = _; simp [szC]; omega
            go_wp2_with fail
            go_ret
            exact ⟨ret_bool (sz_false hlt HC.out), Ext.refl _⟩
        · have HC : Hid (szC s[k] = false) := by show _ = _; simp [szC]; omega
          go_wp2_with fail
          go_ret
          exact ⟨ret_bool (sz_false hlt HC.out), Ext.refl _⟩
    · obtain rfl : k = s.size := by omega
      by_cases h0 : 1 ≤ s.size
      · by_cases h1 : s.size ≤ 8
        · have HZ : Hid (szB s = true) := by show _ = _; rw [szB_all, HT.out, decide_eq_true ⟨h0, h1⟩]; rfl
          go_wp2_with fail
          go_ret
          exact ⟨ret_bool (by rw [HZ.out]; simp; omega), Ext.refl _⟩
        · have HZ : Hid (szB s = false) := by show _ = _; rw [szB_all, HT.out, decide_eq_false (by omega)]; rfl
          go_wp2_with fail
          go_ret
          exact ⟨ret_bool (by rw [HZ.out]; simp; omega), Ext.refl _⟩
      · have HZ : Hid (szB s = false) := by show _ = _; rw [szB_all, HT.out, decide_eq_false (by omega)]; rfl
        go_wp2_with fail
        go_ret
        exact ⟨ret_bool (by rw [HZ.out]), Ext.refl _⟩
theorem strIndex0 (A : Option Addr) (c : Nat) (s : ByteArray) (w : World) :
    Calls Tryz.prog 122 #[.slice A 0 c, .string s] w fun e w' => e = .returned (.int .i64 (-1)) ∧ Ext w w' := by
  go_enter Tryz.func122, Tryz.ntmps122
  go_wp2_with fail
  go_loop [8] (fun i => i = .int .i64 0) (fun _ => 0)
  case atStart => rfl
  case round =>
    subst hrel
    go_wp2_with fail
    go_ret
    exact ⟨rfl, Ext.refl _⟩
theorem strContains0 (A : Option Addr) (c : Nat) (s : ByteArray) (w : World) :
    Calls Tryz.prog 105 #[.slice A 0 c, .string s] w fun e w' => e = .returned (.bool false) ∧ Ext w w' := by
  go_enter Tryz.func105, Tryz.ntmps105
  go_wp2_with fail
  refine (strIndex0 A c s _).mono ?_
  rintro e w1 ⟨rfl, he⟩
  go_wp2_with fail
  go_ret
  exact ⟨rfl, he⟩
theorem isIndex1 (b off c : Nat) (w : World) :
    Calls Tryz.prog 107 #[.agg #[.slice (some ⟨b, off, none⟩) 1 c, .int .i64 0, .slice none 0 0], .int .i64 0] w fun e w' => e = .returned (.bool true) ∧ Ext w w' := by
  go_enter Tryz.func107, Tryz.ntmps107
  go_wp2_with fail
  go_ret
  exact ⟨rfl, (Ext.refl _).alloc _⟩
def szE (s : ByteArray) : Int := if szB s = true then 0 else 1
set_option maxRecDepth 100000 in
set_option maxHeartbeats 1600000 in
theorem chart_one (b off c : Nat) (s : ByteArray) (w : World) (h : w.cell? ⟨b, off, none⟩ = some (.string s)) (hc : 1 ≤ c) (hc' : c ≤ 9223372036854775807) (hs : s.size ≤ 1000) :
    Calls Tryz.prog 87 #[.agg #[.slice (some ⟨b, off, none⟩) 1 c, .int .i64 0, .slice none 0 0]] w fun e w' => e = .returned (.int .i64 (szE s)) ∧ Ext w w' := by
  have HS := Lib.hid h; clear h
  have HSS := Lib.hid hs; clear hs
  go_enter Tryz.func87, Tryz.ntmps87
  go_wp2_with fail
  refine wp_at fun W0 hW0 => ?_
  have HB : Hid (Blk 128 W0 w.heap.size [.slice (some ⟨b, off, none⟩) 1 c, .int .i64 0, .slice none 0 0]) := by show Blk _ _ _ _; rw [hW0]; exact Blk.new' rfl
  have HX0 : Hid (Ext w W0) := by show Ext _ _; rw [hW0]; exact (Ext.refl _).alloc _
  have HS0 := Lib.hid (HX0.out.cell HS.out)
  clear hW0 HS
  go_loopw [28] (fun i wr => (i = .int .i64 0 ∧ wr = W0) ∨ (i = .int .i64 1 ∧ szB s = true ∧ Ext W0 wr)) (fun i _ => 1 - (intOf i).toNat)
  case atStart => exact .inl ⟨rfl, rfl⟩
  case round =>
    rcases hrel with ⟨rfl, rfl⟩ | ⟨rfl, hz, hx⟩
    · have c0 := HS0.out
      go_wp2_with fail
      refine (chsize_any s _ HSS.out).mono ?_
      rintro e w1 ⟨rfl, he⟩
      have HE := Lib.hid he; clear he
      cases hz : szB s
      · have HZ := Lib.hid hz; clear hz
        go_wp2_with fail
        go_ret
        exact ⟨ret_int (by unfold szE; rw [HZ.out]; rfl), HX0.out.trans HE.out⟩
      · have HZ := Lib.hid hz; clear hz
        go_wp2_with fail
        go_roundw
        case rel => exact .inr ⟨by go_num, HZ.out, HE.out⟩
        case measure => simp [intOf]
    have HZ := Lib.hid hz
    obtain ⟨W1, hW1⟩ : ∃ W1 : World, W1 = wr := ⟨_, rfl⟩
    rw [← hW1] at hx ⊢
    clear hW1 hz
    have HB1 := Lib.hid (HB.out.ext hx)
    have HX1 := Lib.hid (HX0.out.trans hx)
    have HS1 := Lib.hid (hx.cell HS0.out)
    clear hx
    have c0 := HB1.out.cell 0; have c1 := HB1.out.cell 1; have c2 := HB1.out.cell 2
    simp only [List.getElem?_cons_succ, List.getElem?_cons_zero] at c0 c1 c2
    have c3 := HS1.out
    go_wp2_with fail
    go_loopw [39] (fun i wr => i = .int .i64 0 ∧ wr = W1) (fun _ _ => 0)
    case atStart => exact ⟨rfl, rfl⟩
    case round =>
      obtain ⟨rfl, hw⟩ := hrel
      obtain rfl : W1 = wr := hw.symm
      go_wp2_with fail
      go_loopw [69] (fun i wr => (i = .int .i64 0 ∧ wr = W1) ∨ (i = .int .i64 1 ∧ Ext W1 wr)) (fun i _ => 1 - (intOf i).toNat)
      case atStart => exact .inl ⟨rfl, rfl⟩
      case round =>
        rcases hrel with ⟨rfl, rfl⟩ | ⟨rfl, hx⟩
        · go_wp2_with fail
          refine (strContains0 _ c s _).mono ?_
          rintro e w2 ⟨rfl, he⟩
          go_wp2_with fail
          go_roundw
          case rel => exact .inr ⟨by go_num, he⟩
          case measure => simp [intOf]
        obtain ⟨W2, hW2⟩ : ∃ W2 : World, W2 = wr := ⟨_, rfl⟩
        rw [← hW2] at hx ⊢
        clear hW2 c0 c1 c2 c3
        have HB2 := Lib.hid (HB1.out.ext hx)
        have HX2 := Lib.hid (HX1.out.trans hx)
        clear hx
        have c0 := HB2.out.cell 0; have c1 := HB2.out.cell 1; have c2 := HB2.out.cell 2
        simp only [List.getElem?_cons_succ, List.getElem?_cons_zero] at c0 c1 c2
        go_wp2_with fail
        go_loopw [84] (fun i wr => i = .int .i64 0 ∧ wr = W2) (fun _ _ => 0)
        case atStart => exact ⟨rfl, rfl⟩
        case round =>
          obtain ⟨rfl, rfl⟩ := hrel
          go_wp2_with fail
          refine (isIndex1 b off c _).mono ?_
          rintro e w3 ⟨rfl, he⟩
          go_wp2_with fail
          go_ret
          exact ⟨ret_int (by unfold szE; rw [HZ.out]; rfl), HX2.out.trans he⟩
theorem stName_any (s : ByteArray) (w : World) :
    Calls Tryz.prog 66 #[.string s] w fun e w' => e = .returned (.bool (nameB s)) ∧ Ext w w' := by
  go_enter Tryz.func66, Tryz.ntmps66
  go_wp2_with fail
  refine (fCheck_any s _).mono ?_
  rintro e w1 ⟨rfl, hx⟩
  cases hn : nameB s
  · rw [nameE_f hn]
    have HN := Lib.hid hn; clear hn
    go_wp2_with fail
    go_ret
    exact ⟨ret_bool HN.out.symm, hx⟩
  · rw [nameE_t hn]
    have HN := Lib.hid hn; clear hn
    go_wp2_with fail
    go_ret
    exact ⟨ret_bool HN.out.symm, hx⟩
theorem stSize_any (s : ByteArray) (w : World) (hs : s.size ≤ 1000) :
    Calls Tryz.prog 67 #[.string s] w fun e w' => e = .returned (.bool (szB s)) ∧ Ext w w' := by
  go_enter Tryz.func67, Tryz.ntmps67
  go_wp2_with fail
  refine (chart_one w.heap.size 0 1 s _ (by simp [go_sem]) (by omega) (by omega) hs).mono ?_
  rintro e w1 ⟨rfl, hx⟩
  have HX := Lib.hid (((Ext.refl w).alloc _).trans hx); clear hx
  cases hn : szB s
  · have he : szE s = 1 := by unfold szE; rw [hn]; rfl
    rw [he]
    have HN := Lib.hid hn; clear hn he
    go_wp2_with fail
    go_ret
    exact ⟨ret_bool HN.out.symm, HX.out⟩
  · have he : szE s = 0 := by unfold szE; rw [hn]; rfl
    rw [he]
    have HN := Lib.hid hn; clear hn he
    go_wp2_with fail
    go_ret
    exact ⟨ret_bool HN.out.symm, HX.out⟩
/- slices.Contains of numbers -/
theorem mem_take_succ {l : List Int} {k : Nat} {z : Int} (hk : k < l.length) (h0 : ¬ z ∈ l.take k) (h1 : z ≠ gI l k) : ¬ z ∈ l.take (k + 1) := by
  rw [take_succ _ _ hk, List.mem_append, List.mem_singleton, ← gI_eq hk]
  exact fun h => h.elim h0 h1
set_option maxHeartbeats 400000 in
theorem intIndex_any (A : Option Addr) (n c : Nat) (l : List Int) (z : Int) (w : World) (ha : IntsAt w A l) (hl : l.length = n) (hn : n ≤ 9223372036854775807) :
    Calls Tryz.prog 88 #[.slice A n c, .int .i64 z] w fun e w' => ∃ r : Int, e = .returned (.int .i64 r) ∧ decide (0 ≤ r) = decide (z ∈ l) ∧ Ext w w' := by
  have HL := Lib.hid hl; clear hl
  have HA := Lib.hid ha; clear ha
  go_enter Tryz.func88, Tryz.ntmps88
  go_wp2
  go_loopw [8] (fun i wr => ∃ k : Nat, k ≤ n ∧ i = .int .i64 k ∧ ¬ z ∈ l.take k ∧ Ext w wr) (fun i _ => n - (intOf i).toNat)
  case atStart => exact ⟨0, Nat.zero_le _, rfl, by simp, Ext.refl _⟩
  case round =>
    obtain ⟨k, hk, rfl, ht, hx⟩ := hrel
    have HT := Lib.hid ht; clear ht
    have HX := Lib.hid hx; clear hx
    by_cases hlt : k < n
    · have hkl : k < l.length := by rw [HL.out]; exact hlt
      obtain ⟨b, off, rfl, hc0⟩ := (HA.out.ext HX.out).g hkl
      obtain ⟨v, hv⟩ : ∃ v, v = gI l k := ⟨_, rfl⟩
      rw [← hv] at hc0
      have HV := Lib.hid hv; clear hv
      by_cases hp : z = v
      · have hpb : (z == v) = true := by simp [hp]
        have HP := Lib.hid hp; clear hp
        go_wp2_with fail
        go_ret
        exact ⟨_, rfl, by rw [decide_eq_true (by omega), decide_eq_true]; rw [HP.out, HV.out, gI_eq hkl]; exact List.getElem_mem _, HX.out⟩
      · have hpb : (z == v) = false := by simp [hp]
        have HP := Lib.hid hp; clear hp
        go_wp2_with fail
        go_roundw
        case rel => exact ⟨k + 1, by omega, by go_num, mem_take_succ hkl HT.out (by rw [← HV.out]; exact HP.out), HX.out⟩
        case measure => simp [intOf]; omega
    · obtain rfl : k = n := by omega
      go_wp2_with fail
      go_ret
      exact ⟨_, rfl, by
        have h := HT.out
        rw [List.take_of_length_le (by rw [HL.out]; omega)] at h
        rw [decide_eq_false h]; rfl, HX.out⟩
theorem intContains_any (A : Option Addr) (n c : Nat) (l : List Int) (z : Int) (w : World) (ha : IntsAt w A l) (hl : l.length = n) (hn : n ≤ 9223372036854775807) :
    Calls Tryz.prog 68 #[.slice A n c, .int .i64 z] w fun e w' => e = .returned (.bool (decide (z ∈ l))) ∧ Ext w w' := by
  go_enter Tryz.func68, Tryz.ntmps68
  go_wp2_with fail
  refine (intIndex_any A n c l z _ ha hl hn).mono ?_
  rintro e w1 ⟨r, rfl, hr, he⟩
  have HR := Lib.hid hr; clear hr
  go_wp2_with fail
  go_ret
  exact ⟨ret_bool (by rw [← HR.out]), he⟩
set_option maxRecDepth 100000 in
set_option maxHeartbeats 800000 in
theorem stEdge_any (a : StyA) (x : StyX) (p q : Int) (w : World) (hs : StyXAt w a x) :
    Calls Tryz.prog 46 #[a.val, .int .i64 p, .int .i64 q] w fun e w' => e = .returned (.bool (edgeB x.s p q)) ∧ Ext w w' := by
  have hs := hs.sty
  generalize x.s = s at hs ⊢
  obtain ⟨nm, AS, nS, cS, AM, nM, cM, AP, nP, cP, AU, nU, cU, AK, nK, cK, AO, nO, cO⟩ := a
  have HL : Hid (s.ps.length = nP) := hs.lP
  have HP := Lib.hid hs.P
  clear hs
  simp only [StyA.val] at HP ⊢
  by_cases h0 : 0 ≤ p
  · by_cases h1 : p < nP
    · by_cases h2 : 0 ≤ q
      · obtain ⟨k, rfl⟩ := Int.eq_ofNat_of_zero_le h0
        have hk : k < nP := by omega
        obtain ⟨b, off, pa, hA, hpc, hcc⟩ := (HP.out.ext ((Ext.refl w).alloc (.cells #[.string nm, .slice AS nS cS, .slice AM nM cM, .slice AP nP cP, .slice AU nU cU, .slice AK nK cK, .slice AO nO cO] 29))) k (by rw [HL.out]; exact hk)
        subst hA
        have c1 := hcc.c1
        obtain ⟨nE, hnE⟩ : ∃ n, n = pa.nE := ⟨_, rfl⟩
        rw [← hnE] at c1
        have HE : Hid ((gPc s.ps k).es.length = nE) := by show _ = _; rw [hnE]; exact hpc.le
        clear hpc hcc hnE
        by_cases h3 : q < nE
        · go_enter Tryz.func46, Tryz.ntmps46
          go_wp2_with fail
          go_ret
          exact ⟨ret_bool (by symm; unfold edgeB; rw [HL.out, Int.toNat_natCast, HE.out]; exact decide_eq_true (by omega)), (Ext.refl _).alloc _⟩
        · go_enter Tryz.func46, Tryz.ntmps46
          go_wp2_with fail
          go_ret
          exact ⟨ret_bool (by symm; unfold edgeB; rw [HL.out, Int.toNat_natCast, HE.out]; exact decide_eq_false (by omega)), (Ext.refl _).alloc _⟩
      · go_enter Tryz.func46, Tryz.ntmps46
        go_wp2_with fail
        go_ret
        exact ⟨ret_bool (by symm; unfold edgeB; rw [HL.out]; exact decide_eq_false (by omega)), (Ext.refl _).alloc _⟩
    · go_enter Tryz.func46, Tryz.ntmps46
      go_wp2_with fail
      go_ret
      exact ⟨ret_bool (by symm; unfold edgeB; rw [HL.out]; exact decide_eq_false (by omega)), (Ext.refl _).alloc _⟩
  · go_enter Tryz.func46, Tryz.ntmps46
    go_wp2_with fail
    go_ret
    exact ⟨ret_bool (by symm; unfold edgeB; rw [HL.out]; exact decide_eq_false (by omega)), (Ext.refl _).alloc _⟩
end Go.Proofs.YtkigmpholnfkbaaGreat
