/- style.Check -/
import Derived.Maps.OwnOps
import Derived.Maps.Views
import Derived.StringKeys
import Derived.Test.YtfegbaokcbjllaaGreatKStX
import Derived.Test.YtfegbaokcbjllaaGreatKPlaced
/- chart.isSize, chart.Check of one size; style.isName, isSize, isEdge; slices.Contains of numbers -/
namespace Go.Proofs.YtfegbaokcbjllaaGreat
open Go.RowKit
def szF (s : ByteArray) (k : Nat) : Bool := if h : k < s.size then szC s[k] else false
theorem szF_eq {s : ByteArray} {k : Nat} (h : k < s.size) : szF s k = szC s[k] := by simp [szF, h]
theorem szB_all (s : ByteArray) : szB s = (allB (szF s) s.size && decide (1 ≤ s.size ∧ s.size ≤ 8)) := by
 unfold szB
 congr 1
 rw [Bool.eq_iff_iff, allB_iff, List.all_eq_true]
 constructor
 ·intro h i hi
  rw [szF_eq hi]
  exact h _ (by show s.data[i] ∈ s.data.toList; simp)
 ·intro h c hc
  obtain ⟨i, hi, rfl⟩ := List.mem_iff_getElem.1 hc
  have hi' : i < s.size := by simpa using hi
  have := h i hi'
  rw [szF_eq hi'] at this
  exact this
theorem sz_false {s : ByteArray} {k : Nat} (hk : k < s.size) (h : szC s[k] = false) : false = szB s := by
 rw [szB_all, allB_false hk (by rw [szF_eq hk]; exact h)]; rfl
set_option maxHeartbeats 800000 in
theorem chsize_any (s : ByteArray) (w : World) (hs : s.size ≤ 1000) :
  Calls Tryz.prog 99 #[.string s] w fun e w' => e = .returned (.bool (szB s)) ∧ Ext w w' := by
 go_enter Tryz.func99, Tryz.ntmps99
 go_wp2_with fail
 go_loop [8] (fun i => ∃ k : Nat, k ≤ s.size ∧ i = .int .i64 k ∧ allB (szF s) k = true) (fun i => s.size - (intOf i).toNat)
 case atStart => exact ⟨0, Nat.zero_le _, rfl, rfl⟩
 case round =>
  obtain ⟨k, hk, rfl, ht⟩ := hrel
  have HT := Lib.hid ht; clear ht
  by_cases hlt : k < s.size
  ·by_cases h0 : 65 ≤ (s[k].toNat : Int)
   ·by_cases h1 : (s[k].toNat : Int) ≤ 90
    ·have HC : Hid (szC s[k] = true) := by show _ = _; simp [szC]; omega
     by_cases h2 : 48 ≤ (s[k].toNat : Int)
     rotate_left
     ·omega
     by_cases h3 : (s[k].toNat : Int) ≤ 57
     ·omega
     go_wp2_with fail
     go_round
     case rel => exact ⟨k + 1, by omega, by go_num, allB_succ HT.out (by rw [szF_eq hlt]; exact HC.out)⟩
     case measure => simp [intOf]; omega
    ·have HC : Hid (szC s[k] = false) := by show _ = _; simp [szC]; omega
     have h2 : 48 ≤ (s[k].toNat : Int) := by omega
     have h3 : ¬ (s[k].toNat : Int) ≤ 57 := by omega
     go_wp2_with fail
     go_ret
     exact ⟨ret_bool (sz_false hlt HC.out), Ext.refl _⟩
   ·by_cases h2 : 48 ≤ (s[k].toNat : Int)
    ·by_cases h3 : (s[k].toNat : Int) ≤ 57
     ·have HC : Hid (szC s[k] = true) := by show _ = _; simp [szC]; omega
      go_wp2_with fail
      go_round
      case rel => exact ⟨k + 1, by omega, by go_num, allB_succ HT.out (by rw [szF_eq hlt]; exact HC.out)⟩
      case measure => simp [intOf]; omega
     ·have HC : Hid (szC s[k] = false) := by show _ = _; simp [szC]; omega
      go_wp2_with fail
      go_ret
      exact ⟨ret_bool (sz_false hlt HC.out), Ext.refl _⟩
    ·have HC : Hid (szC s[k] = false) := by show _ = _; simp [szC]; omega
     go_wp2_with fail
     go_ret
     exact ⟨ret_bool (sz_false hlt HC.out), Ext.refl _⟩
  ·obtain rfl : k = s.size := by omega
   by_cases h0 : 1 ≤ s.size
   ·by_cases h1 : s.size ≤ 8
    ·have HZ : Hid (szB s = true) := by show _ = _; rw [szB_all, HT.out, decide_eq_true ⟨h0, h1⟩]; rfl
     go_wp2_with fail
     go_ret
     exact ⟨ret_bool (by rw [HZ.out]; simp; omega), Ext.refl _⟩
    ·have HZ : Hid (szB s = false) := by show _ = _; rw [szB_all, HT.out, decide_eq_false (by omega)]; rfl
     go_wp2_with fail
     go_ret
     exact ⟨ret_bool (by rw [HZ.out]; simp; omega), Ext.refl _⟩
   ·have HZ : Hid (szB s = false) := by show _ = _; rw [szB_all, HT.out, decide_eq_false (by omega)]; rfl
    go_wp2_with fail
    go_ret
    exact ⟨ret_bool (by rw [HZ.out]), Ext.refl _⟩
theorem strIndex0 (A : Option Addr) (c : Nat) (s : ByteArray) (w : World) :
  Calls Tryz.prog 124 #[.slice A 0 c, .string s] w fun e w' => e = .returned (.int .i64 (-1)) ∧ Ext w w' := by
 go_enter Tryz.func124, Tryz.ntmps124
 go_wp2_with fail
 go_loop [8] (fun i => i = .int .i64 0) (fun _ => 0)
 case atStart => rfl
 case round =>
  subst hrel
  go_wp2_with fail
  go_ret
  exact ⟨rfl, Ext.refl _⟩
theorem strContains0 (A : Option Addr) (c : Nat) (s : ByteArray) (w : World) :
  Calls Tryz.prog 102 #[.slice A 0 c, .string s] w fun e w' => e = .returned (.bool false) ∧ Ext w w' := by
 go_enter Tryz.func102, Tryz.ntmps102
 go_wp2_with fail
 refine (strIndex0 A c s _).mono ?_
 rintro e w1 ⟨rfl, he⟩
 go_wp2_with fail
 go_ret
 exact ⟨rfl, he⟩
theorem isIndex1 (b off c : Nat) (w : World) :
  Calls Tryz.prog 104 #[.agg #[.slice (some ⟨b, off, none⟩) 1 c, .int .i64 0, .slice none 0 0], .int .i64 0] w fun e w' => e = .returned (.bool true) ∧ Ext w w' := by
 go_enter Tryz.func104, Tryz.ntmps104
 go_wp2_with fail
 go_ret
 exact ⟨rfl, (Ext.refl _).alloc _⟩
def szE (s : ByteArray) : Int := if szB s = true then 0 else 1
set_option maxRecDepth 100000 in
set_option maxHeartbeats 1600000 in
theorem chart_one (b off c : Nat) (s : ByteArray) (w : World) (h : w.cell? ⟨b, off, none⟩ = some (.string s)) (hc : 1 ≤ c) (hc' : c ≤ 9223372036854775807) (hs : s.size ≤ 1000) :
  Calls Tryz.prog 80 #[.agg #[.slice (some ⟨b, off, none⟩) 1 c, .int .i64 0, .slice none 0 0]] w fun e w' => e = .returned (.int .i64 (szE s)) ∧ Ext w w' := by
 have HS := Lib.hid h; clear h
 have HSS := Lib.hid hs; clear hs
 go_enter Tryz.func80, Tryz.ntmps80
 go_wp2_with fail
 refine wp_at fun W0 hW0 => ?_
 have HB : Hid (Blk 152 W0 w.heap.size [.slice (some ⟨b, off, none⟩) 1 c, .int .i64 0, .slice none 0 0]) := by show Blk _ _ _ _; rw [hW0]; exact Blk.new' rfl
 have HX0 : Hid (Ext w W0) := by show Ext _ _; rw [hW0]; exact (Ext.refl _).alloc _
 have HS0 := Lib.hid (HX0.out.cell HS.out)
 clear hW0 HS
 go_loopw [28] (fun i wr => (i = .int .i64 0 ∧ wr = W0) ∨ (i = .int .i64 1 ∧ szB s = true ∧ Ext W0 wr)) (fun i _ => 1 - (intOf i).toNat)
 case atStart => exact .inl ⟨rfl, rfl⟩
 case round =>
  rcases hrel with ⟨rfl, rfl⟩ | ⟨rfl, hz, hx⟩
  ·have c0 := HS0.out
   go_wp2_with fail
   refine (chsize_any s _ HSS.out).mono ?_
   rintro e w1 ⟨rfl, he⟩
   have HE := Lib.hid he; clear he
   cases hz : szB s
   ·have HZ := Lib.hid hz; clear hz
    go_wp2_with fail
    go_ret
    exact ⟨ret_int (by unfold szE; rw [HZ.out]; rfl), HX0.out.trans HE.out⟩
   ·have HZ := Lib.hid hz; clear hz
    go_wp2_with fail
    go_roundw
    case rel => exact .inr ⟨by go_num, HZ.out, HE.out⟩
    case measure => simp [intOf]
  have HZ := Lib.hid hz
  obtain ⟨W1, hW1⟩ : ∃ W1 : World, W1 = wr := ⟨_, rfl⟩
  rw [← hW1] at hx ⊢
  clear hW1 hz
  have HB1 := Lib.hid (HB.out.ext hx)
  have HX1 := Lib.hid (HX0.out.trans hx)
  have HS1 := Lib.hid (hx.cell HS0.out)
  clear hx
  have c0 := HB1.out.cell 0; have c1 := HB1.out.cell 1; have c2 := HB1.out.cell 2
  simp only [List.getElem?_cons_succ, List.getElem?_cons_zero] at c0 c1 c2
  have c3 := HS1.out
  go_wp2_with fail
  go_loopw [39] (fun i wr => i = .int .i64 0 ∧ wr = W1) (fun _ _ => 0)
  case atStart => exact ⟨rfl, rfl⟩
  case round =>
   obtain ⟨rfl, hw⟩ := hrel
   obtain rfl : W1 = wr := hw.symm
   go_wp2_with fail
   go_loopw [69] (fun i wr => (i = .int .i64 0 ∧ wr = W1) ∨ (i = .int .i64 1 ∧ Ext W1 wr)) (fun i _ => 1 - (intOf i).toNat)
   case atStart => exact .inl ⟨rfl, rfl⟩
   case round =>
    rcases hrel with ⟨rfl, rfl⟩ | ⟨rfl, hx⟩
    ·go_wp2_with fail
     refine (strContains0 _ c s _).mono ?_
     rintro e w2 ⟨rfl, he⟩
     go_wp2_with fail
     go_roundw
     case rel => exact .inr ⟨by go_num, he⟩
     case measure => simp [intOf]
    obtain ⟨W2, hW2⟩ : ∃ W2 : World, W2 = wr := ⟨_, rfl⟩
    rw [← hW2] at hx ⊢
    clear hW2 c0 c1 c2 c3
    have HB2 := Lib.hid (HB1.out.ext hx)
    have HX2 := Lib.hid (HX1.out.trans hx)
    clear hx
    have c0 := HB2.out.cell 0; have c1 := HB2.out.cell 1; have c2 := HB2.out.cell 2
    simp only [List.getElem?_cons_succ, List.getElem?_cons_zero] at c0 c1 c2
    go_wp2_with fail
    go_loopw [84] (fun i wr => i = .int .i64 0 ∧ wr = W2) (fun _ _ => 0)
    case atStart => exact ⟨rfl, rfl⟩
    case round =>
     obtain ⟨rfl, rfl⟩ := hrel
     go_wp2_with fail
     refine (isIndex1 b off c _).mono ?_
     rintro e w3 ⟨rfl, he⟩
     go_wp2_with fail
     go_ret
     exact ⟨ret_int (by unfold szE; rw [HZ.out]; rfl), HX2.out.trans he⟩
theorem stName_any (s : ByteArray) (w : World) :
  Calls Tryz.prog 49 #[.string s] w fun e w' => e = .returned (.bool (nameB s)) ∧ Ext w w' := by
 go_enter Tryz.func49, Tryz.ntmps49
 go_wp2_with fail
 refine (fCheck_any s _).mono ?_
 rintro e w1 ⟨rfl, hx⟩
 cases hn : nameB s
 ·rw [nameE_f hn]
  have HN := Lib.hid hn; clear hn
  go_wp2_with fail
  go_ret
  exact ⟨ret_bool HN.out.symm, hx⟩
 ·rw [nameE_t hn]
  have HN := Lib.hid hn; clear hn
  go_wp2_with fail
  go_ret
  exact ⟨ret_bool HN.out.symm, hx⟩
theorem stSize_any (s : ByteArray) (w : World) (hs : s.size ≤ 1000) :
  Calls Tryz.prog 50 #[.string s] w fun e w' => e = .returned (.bool (szB s)) ∧ Ext w w' := by
 go_enter Tryz.func50, Tryz.ntmps50
 go_wp2_with fail
 refine (chart_one w.heap.size 0 1 s _ (by simp [go_sem]) (by omega) (by omega) hs).mono ?_
 rintro e w1 ⟨rfl, hx⟩
 have HX := Lib.hid (((Ext.refl w).alloc _).trans hx); clear hx
 cases hn : szB s
 ·have he : szE s = 1 := by unfold szE; rw [hn]; rfl
  rw [he]
  have HN := Lib.hid hn; clear hn he
  go_wp2_with fail
  go_ret
  exact ⟨ret_bool HN.out.symm, HX.out⟩
 ·have he : szE s = 0 := by unfold szE; rw [hn]; rfl
  rw [he]
  have HN := Lib.hid hn; clear hn he
  go_wp2_with fail
  go_ret
  exact ⟨ret_bool HN.out.symm, HX.out⟩
/- slices.Contains of numbers -/
theorem mem_take_succ {l : List Int} {k : Nat} {z : Int} (hk : k < l.length) (h0 : ¬ z ∈ l.take k) (h1 : z ≠ gI l k) : ¬ z ∈ l.take (k + 1) := by
 rw [take_succ _ _ hk, List.mem_append, List.mem_singleton, ← gI_eq hk]
 exact fun h => h.elim h0 h1
set_option maxHeartbeats 400000 in
theorem intIndex_any (A : Option Addr) (n c : Nat) (l : List Int) (z : Int) (w : World) (ha : IntsAt w A l) (hl : l.length = n) (hn : n ≤ 9223372036854775807) :
  Calls Tryz.prog 81 #[.slice A n c, .int .i64 z] w fun e w' => ∃ r : Int, e = .returned (.int .i64 r) ∧ decide (0 ≤ r) = decide (z ∈ l) ∧ Ext w w' := by
 have HL := Lib.hid hl; clear hl
 have HA := Lib.hid ha; clear ha
 go_enter Tryz.func81, Tryz.ntmps81
 go_wp2
 go_loopw [8] (fun i wr => ∃ k : Nat, k ≤ n ∧ i = .int .i64 k ∧ ¬ z ∈ l.take k ∧ Ext w wr) (fun i _ => n - (intOf i).toNat)
 case atStart => exact ⟨0, Nat.zero_le _, rfl, by simp, Ext.refl _⟩
 case round =>
  obtain ⟨k, hk, rfl, ht, hx⟩ := hrel
  have HT := Lib.hid ht; clear ht
  have HX := Lib.hid hx; clear hx
  by_cases hlt : k < n
  ·have hkl : k < l.length := by rw [HL.out]; exact hlt
   obtain ⟨b, off, rfl, hc0⟩ := (HA.out.ext HX.out).g hkl
   obtain ⟨v, hv⟩ : ∃ v, v = gI l k := ⟨_, rfl⟩
   rw [← hv] at hc0
   have HV := Lib.hid hv; clear hv
   by_cases hp : z = v
   ·have hpb : (z == v) = true := by simp [hp]
    have HP := Lib.hid hp; clear hp
    go_wp2_with fail
    go_ret
    exact ⟨_, rfl, by rw [decide_eq_true (by omega), decide_eq_true]; rw [HP.out, HV.out, gI_eq hkl]; exact List.getElem_mem _, HX.out⟩
   ·have hpb : (z == v) = false := by simp [hp]
    have HP := Lib.hid hp; clear hp
    go_wp2_with fail
    go_roundw
    case rel => exact ⟨k + 1, by omega, by go_num, mem_take_succ hkl HT.out (by rw [← HV.out]; exact HP.out), HX.out⟩
    case measure => simp [intOf]; omega
  ·obtain rfl : k = n := by omega
   go_wp2_with fail
   go_ret
   exact ⟨_, rfl, by
    have h := HT.out
    rw [List.take_of_length_le (by rw [HL.out]; omega)] at h
    rw [decide_eq_false h]; rfl, HX.out⟩
theorem intContains_any (A : Option Addr) (n c : Nat) (l : List Int) (z : Int) (w : World) (ha : IntsAt w A l) (hl : l.length = n) (hn : n ≤ 9223372036854775807) :
  Calls Tryz.prog 51 #[.slice A n c, .int .i64 z] w fun e w' => e = .returned (.bool (decide (z ∈ l))) ∧ Ext w w' := by
 go_enter Tryz.func51, Tryz.ntmps51
 go_wp2_with fail
 refine (intIndex_any A n c l z _ ha hl hn).mono ?_
 rintro e w1 ⟨r, rfl, hr, he⟩
 have HR := Lib.hid hr; clear hr
 go_wp2_with fail
 go_ret
 exact ⟨ret_bool (by rw [← HR.out]), he⟩
set_option maxRecDepth 100000 in
set_option maxHeartbeats 800000 in
theorem stEdge_any (a : StyA) (x : StyX) (p q : Int) (w : World) (hs : StyXAt w a x) :
  Calls Tryz.prog 22 #[a.val, .int .i64 p, .int .i64 q] w fun e w' => e = .returned (.bool (edgeB x.s p q)) ∧ Ext w w' := by
 have hs := hs.sty
 generalize x.s = s at hs ⊢
 obtain ⟨nm, AS, nS, cS, AM, nM, cM, AP, nP, cP, AU, nU, cU, AK, nK, cK, AO, nO, cO⟩ := a
 have HL : Hid (s.ps.length = nP) := hs.lP
 have HP := Lib.hid hs.P
 clear hs
 simp only [StyA.val] at HP ⊢
 by_cases h0 : 0 ≤ p
 ·by_cases h1 : p < nP
  ·by_cases h2 : 0 ≤ q
   ·obtain ⟨k, rfl⟩ := Int.eq_ofNat_of_zero_le h0
    have hk : k < nP := by omega
    obtain ⟨b, off, pa, hA, hpc, hcc⟩ := (HP.out.ext ((Ext.refl w).alloc (.cells #[.string nm, .slice AS nS cS, .slice AM nM cM, .slice AP nP cP, .slice AU nU cU, .slice AK nK cK, .slice AO nO cO] 29))) k (by rw [HL.out]; exact hk)
    subst hA
    have c1 := hcc.c1
    obtain ⟨nE, hnE⟩ : ∃ n, n = pa.nE := ⟨_, rfl⟩
    rw [← hnE] at c1
    have HE : Hid ((gPc s.ps k).es.length = nE) := by show _ = _; rw [hnE]; exact hpc.le
    clear hpc hcc hnE
    by_cases h3 : q < nE
    ·go_enter Tryz.func22, Tryz.ntmps22
     go_wp2_with fail
     go_ret
     exact ⟨ret_bool (by symm; unfold edgeB; rw [HL.out, Int.toNat_natCast, HE.out]; exact decide_eq_true (by omega)), (Ext.refl _).alloc _⟩
    ·go_enter Tryz.func22, Tryz.ntmps22
     go_wp2_with fail
     go_ret
     exact ⟨ret_bool (by symm; unfold edgeB; rw [HL.out, Int.toNat_natCast, HE.out]; exact decide_eq_false (by omega)), (Ext.refl _).alloc _⟩
   ·go_enter Tryz.func22, Tryz.ntmps22
    go_wp2_with fail
    go_ret
    exact ⟨ret_bool (by symm; unfold edgeB; rw [HL.out]; exact decide_eq_false (by omega)), (Ext.refl _).alloc _⟩
  ·go_enter Tryz.func22, Tryz.ntmps22
   go_wp2_with fail
   go_ret
   exact ⟨ret_bool (by symm; unfold edgeB; rw [HL.out]; exact decide_eq_false (by omega)), (Ext.refl _).alloc _⟩
 ·go_enter Tryz.func22, Tryz.ntmps22
  go_wp2_with fail
  go_ret
  exact ⟨ret_bool (by symm; unfold edgeB; rw [HL.out]; exact decide_eq_false (by omega)), (Ext.refl _).alloc _⟩
theorem gPx_take {l : List PcX} {n k : Nat} (h : k < n) (hn : n ≤ l.length) : gPx (l.take n) k = gPx l k := by
 rw [gPx_eq (by rw [List.length_take]; omega), gPx_eq (by omega)]; simp
def pdupF (l : List PcX) (k j : Nat) : Bool := decide ((gPx l j).nm.data.toList = (gPx l k).nm.data.toList)
theorem any_at {f : Nat → Bool} {n j : Nat} (hj : j < n) (h : f j = true) : (List.range n).any f = true := List.any_eq_true.2 ⟨j, List.mem_range.2 hj, h⟩
theorem any_none {f : Nat → Bool} {n : Nat} (h : ∀ j, j < n → f j = false) : (List.range n).any f = false := by
 rw [Bool.eq_false_iff]
 intro hc
 obtain ⟨j, hj, h1⟩ := List.any_eq_true.1 hc
 rw [h j (List.mem_range.1 hj)] at h1; cases h1
theorem str_eq (s t : ByteArray) : (s.toList == t.toList) = decide (s.data.toList = t.data.toList) := by
 rw [ByteArray.toList_eq, ByteArray.toList_eq]
 by_cases h : s.data.toList = t.data.toList
 ·rw [decide_eq_true h, h]; simp
 ·rw [decide_eq_false h]; simpa using h
/- the chain of checks of a piece, one lemma a way out -/
def pE2 (l : List PcX) (k : Nat) : Int :=
 if gradedR (gPx l k).p.es (gPx l k).p.cs 0 ≠ 0 then gradedR (gPx l k).p.es (gPx l k).p.cs 0
 else if plE (gPx l k).p 0 ≠ 0 then plE (gPx l k).p 0
 else if (gPx l k).p.ws.length ≠ (gPx l k).p.es.length then 1
 else if allB (fun i => decide (0 ≤ gI (gPx l k).p.ws i ∧ gI (gPx l k).p.ws i ≤ 500)) (gPx l k).p.ws.length = false then 3 else 0
theorem pieceE_1 {l : List PcX} {k : Nat} (h : nameB (gPx l k).nm = false) : pieceE l k = 1 := by unfold pieceE; rw [if_pos h]
theorem pieceE_2 {l : List PcX} {k : Nat} (h : (gPx l k).gr ≠ 1 ∧ (gPx l k).gr ≠ 2 ∧ (gPx l k).gr ≠ 4) : pieceE l k = 1 := by
 unfold pieceE
 by_cases hh : nameB (gPx l k).nm = false
 ·rw [if_pos hh]
 ·rw [if_neg hh, if_pos h]
theorem pieceE_3 {l : List PcX} {k : Nat} (h1 : nameB (gPx l k).nm = true) (h2 : ¬ ((gPx l k).gr ≠ 1 ∧ (gPx l k).gr ≠ 2 ∧ (gPx l k).gr ≠ 4)) : pieceE l k = if (List.range k).any (pdupF l k) = true then 7 else pE2 l k := by
 unfold pieceE; rw [if_neg (by rw [h1]; simp), if_neg h2]; rfl
set_option maxRecDepth 100000 in
set_option maxHeartbeats 3200000 in
theorem checkPiece_any (A : Option Addr) (l : List PcX) (k c : Nat) (a : PcA) (w : World) (hP : PiecesX w A (l.take k)) (hk : k < l.length) (hb : k ≤ 9223372036854775807) (hp : PcAt w a (gPx l k).p) (hn : a.nm = (gPx l k).nm) (hg : a.gr = (gPx l k).gr) :
  Calls Tryz.prog 21 #[.slice A k c, a.val] w fun e w' => e = .returned (.int .i64 (pieceE l k)) ∧ Ext w w' := by
 have HP := Lib.hid hP; clear hP
 have HK := Lib.hid hk; clear hk
 have HA := Lib.hid hp; clear hp
 have HPL := Lib.hid (fun W (h : Ext w W) => placedX_any a (gPx l k).p 0 W (HA.out.ext h))
 have HG := Lib.hid (fun W (h : Ext w W) => graded_any a.nm a.AE a.AN a.AC a.AW a.nE a.cE a.nN a.cN a.nC a.cC a.nW a.cW a.gr 0 a.mt (gPx l k).p.es (gPx l k).p.cs W (HA.out.e.ext h) HA.out.le HA.out.ce HA.out.ce' (HA.out.c.ext h) HA.out.lc HA.out.nc)
 obtain ⟨nm, AE, nE, cE, gr, AN, nN, cN, AC, nC, cC, AW, nW, cW, mt⟩ := a
 have HNM : Hid (nm = (gPx l k).nm) := hn
 have HGR : Hid (gr = (gPx l k).gr) := hg
 clear hn hg
 have HLW : Hid ((gPx l k).p.ws.length = nW) := HA.out.li
 have HLE : Hid ((gPx l k).p.es.length = nE) := HA.out.le
 have HW := Lib.hid HA.out.i
 have hbW : nW ≤ 9223372036854775807 := HA.out.nw
 simp only [PcA.val] at HPL HG HW ⊢
 obtain ⟨PE, hPE⟩ : ∃ PE, PE = pieceE l k := ⟨_, rfl⟩
 rw [← hPE]
 have HPE := Lib.hid hPE; clear hPE
 go_enter Tryz.func21, Tryz.ntmps21
 go_wp2_with fail
 refine (stName_any nm _).mono ?_
 rintro e w1 ⟨rfl, he1⟩
 have HB1 : Hid (Blk 40 w1 w.heap.size [.string nm, .slice AE nE cE, .int .i64 gr, .slice AN nN cN, .slice AC nC cC, .slice AW nW cW, .bool mt]) := (Blk.new' rfl).ext he1
 have HX1 := Lib.hid (((Ext.refl w).alloc _).trans he1)
 clear he1
 obtain ⟨c0, c1, c2, c3, c4, c5, c6⟩ := blk7 HB1.out
 cases hnb : nameB nm
 ·have HR : Hid (PE = 1) := by show _ = _; rw [HPE.out, pieceE_1 (by rw [← HNM.out]; exact hnb)]
  clear hnb
  go_wp2_with fail
  go_ret
  exact ⟨ret_int HR.out.symm, HX1.out⟩
 have HNB : Hid (nameB (gPx l k).nm = true) := by show _ = _; rw [← HNM.out]; exact hnb
 clear hnb
 by_cases hgr : gr ≠ 1 ∧ gr ≠ 2 ∧ gr ≠ 4
 ·have HR : Hid (PE = 1) := by show _ = _; rw [HPE.out, pieceE_2 (by rw [← HGR.out]; exact hgr)]
  obtain ⟨g1, g2, g4⟩ := hgr
  have g1b : (gr != 1) = true := by simp [g1]
  have g2b : (gr != 2) = true := by simp [g2]
  have g4b : (gr != 4) = true := by simp [g4]
  clear g1 g2 g4
  go_wp2_with fail
  go_ret
  exact ⟨ret_int HR.out.symm, HX1.out⟩
 have HR3 := Lib.hid (pieceE_3 HNB.out (by rw [← HGR.out]; exact hgr))
 rw [← HPE.out] at HR3
 have hgd : gr = 1 ∨ gr = 2 ∨ gr = 4 := by omega
 clear hgr
 go_upto_region 3 with fail
 go_cut [29] from 17 to 29 (fun v wc => v = .bool false ∧ wc = w1)
 case first =>
  rcases hgd with h | h | h
  ·subst h
   go_wp2_with fail
   go_meet
   case rel => exact ⟨rfl, rfl⟩
  ·subst h
   go_wp2_with fail
   go_meet
   case rel => exact ⟨rfl, rfl⟩
  ·subst h
   go_wp2_with fail
   go_meet
   case rel => exact ⟨rfl, rfl⟩
 case rest =>
  obtain ⟨hcv, hw⟩ := hcut
  subst hcv
  obtain rfl : w1 = wc := hw.symm
  go_wp2_with fail
  clear c0 c1 c2 c3 c4 c5 c6
  go_loopw [32] (fun i wr => ∃ j : Nat, j ≤ k ∧ i = .int .i64 j ∧ (∀ q, q < j → pdupF l k q = false) ∧ Ext w1 wr) (fun i _ => k - (intOf i).toNat)
  case atStart => exact ⟨0, Nat.zero_le _, rfl, fun j hj => absurd hj (Nat.not_lt_zero _), Ext.refl _⟩
  case round =>
   obtain ⟨j, hj, rfl, hall, hx⟩ := hrel
   have HALL := Lib.hid hall; have HX := Lib.hid hx; clear hall hx
   obtain ⟨c0, c1, c2, c3, c4, c5, c6⟩ := blk7 (HB1.out.ext HX.out)
   by_cases hlt : j < k
   ·obtain ⟨bp, op, q, hAP, hpA, hcA, hqn, hqg⟩ := (HP.out.ext (HX1.out.trans HX.out)) j (by rw [List.length_take]; have := HK.out; omega)
    subst hAP
    clear hpA hqg
    rw [gPx_take hlt (Nat.le_of_lt HK.out)] at hqn
    obtain ⟨pnm, pAE, pnE, pcE, pgr, pAN, pnN, pcN, pAC, pnC, pcC, pAW, pnW, pcW, pmt⟩ := q
    obtain ⟨a0, a1, a2, a3, a4, a5, a6⟩ := hcA
    simp only at a0 a1 a2 a3 a4 a5 a6 hqn
    have HQN := Lib.hid hqn; clear hqn
    have hpl : w.heap.size < wr.heap.size := (HB1.out.ext HX.out).lt
    have HAL : Hid (Ext w1 (wr.alloc (.cells #[.string pnm, .slice pAE pnE pcE, .int .i64 pgr, .slice pAN pnN pcN, .slice pAC pnC pcC, .slice pAW pnW pcW, .bool pmt] 40))) := HX.out.alloc _
    cases heq : (pnm.toList == nm.toList)
    ·have HD : Hid (pdupF l k j = false) := by show _ = _; unfold pdupF; rw [← HQN.out, ← HNM.out, ← str_eq]; exact heq
     go_wp2_with fail
     go_roundw
     case rel => exact ⟨j + 1, by omega, by go_num, fun q hq => by
      rcases Nat.lt_succ_iff_lt_or_eq.1 hq with h | h
      ·exact HALL.out q h
      ·subst h; exact HD.out, HAL.out⟩
     case measure => simp [intOf]; omega
    ·have HD : Hid (pdupF l k j = true) := by show _ = _; unfold pdupF; rw [← HQN.out, ← HNM.out, ← str_eq]; exact heq
     have HR : Hid (PE = 7) := by show _ = _; rw [HR3.out, if_pos (any_at hlt HD.out)]
     go_wp2_with fail
     go_ret
     exact ⟨ret_int HR.out.symm, HX1.out.trans HAL.out⟩
   obtain rfl : j = k := by omega
   have HR4 : Hid (PE = pE2 l j) := by show _ = _; rw [HR3.out, if_neg (by rw [any_none HALL.out]; simp)]
   clear HALL HR3
   obtain ⟨W1, hW1⟩ : ∃ W1 : World, W1 = wr := ⟨_, rfl⟩
   rw [← hW1] at c0 c1 c2 c3 c4 c5 c6 HX ⊢
   clear hW1
   have HXW := Lib.hid (HX1.out.trans HX.out)
   have HBW := Lib.hid (HB1.out.ext HX.out)
   obtain ⟨es, hes⟩ : ∃ es, es = (gPx l j).p.es := ⟨_, rfl⟩
   obtain ⟨GR, hGR⟩ : ∃ GR, GR = gradedR (gPx l j).p.es (gPx l j).p.cs 0 := ⟨_, rfl⟩
   have HGC := Lib.hid (HG.out W1 HXW.out)
   have HGE := Lib.hid hGR
   go_wp2_with fail
   refine HGC.out.mono ?_
   rintro e w2 ⟨v1, rfl, hv, hv', he2⟩
   rw [← hGR] at hv hv' ⊢
   have HX2 := Lib.hid (HXW.out.trans he2)
   have HB2 := Lib.hid (HBW.out.ext he2)
   clear he2 hv hv' hGR HGC
   clear c0 c1 c2 c3 c4 c5 c6
   obtain ⟨c0, c1, c2, c3, c4, c5, c6⟩ := blk7 HB2.out
   by_cases hz : GR = 0
   rotate_left
   ·have hzb : (GR != 0) = true := by simp [hz]
    have HR : Hid (PE = GR) := by show _ = _; rw [HR4.out]; unfold pE2; rw [if_pos (by rw [← HGE.out]; exact hz), HGE.out]
    clear hz
    go_wp2_with fail
    go_ret
    exact ⟨ret_int HR.out.symm, HX2.out⟩
   have HZ := Lib.hid hz
   subst hz
   obtain ⟨PL, hPL⟩ : ∃ PL, PL = plE (gPx l j).p 0 := ⟨_, rfl⟩
   have HPC := Lib.hid (HPL.out w2 HX2.out)
   have HPLE := Lib.hid hPL
   go_wp2_with fail
   refine HPC.out.mono ?_
   rintro e w3 ⟨v2, rfl, _, _, he3⟩
   rw [← hPL]
   have HX3 := Lib.hid (HX2.out.trans he3)
   have HB3 := Lib.hid (HB2.out.ext he3)
   clear he3 hPL HPC
   clear c0 c1 c2 c3 c4 c5 c6
   obtain ⟨c0, c1, c2, c3, c4, c5, c6⟩ := blk7 HB3.out
   by_cases hz : PL = 0
   rotate_left
   ·have hzb : (PL != 0) = true := by simp [hz]
    have HR : Hid (PE = PL) := by show _ = _; rw [HR4.out]; unfold pE2; rw [if_neg (by rw [← HGE.out]; simp), if_pos (by rw [← HPLE.out]; exact hz), HPLE.out]
    clear hz
    go_wp2_with fail
    go_ret
    exact ⟨ret_int HR.out.symm, HX3.out⟩
   subst hz
   by_cases hwl : nW = nE
   rotate_left
   ·have hwb : ((nW : Int) != (nE : Int)) = true := by simp; omega
    have HR : Hid (PE = 1) := by show _ = _; rw [HR4.out]; unfold pE2; rw [if_neg (by rw [← HGE.out]; simp), if_neg (by rw [← HPLE.out]; simp), if_pos (by rw [HLW.out, HLE.out]; exact hwl)]
    clear hwl
    go_wp2_with fail
    go_ret
    exact ⟨ret_int HR.out.symm, HX3.out⟩
   have HR5 : Hid (PE = if allB (fun i => decide (0 ≤ gI (gPx l j).p.ws i ∧ gI (gPx l j).p.ws i ≤ 500)) nW = false then 3 else 0) := by
    show _ = _; rw [HR4.out]; unfold pE2; rw [if_neg (by rw [← HGE.out]; simp), if_neg (by rw [← HPLE.out]; simp), if_neg (by rw [HLW.out, HLE.out]; exact fun h => h hwl), HLW.out]
   have hwb : ((nW : Int) != (nE : Int)) = false := by simp; omega
   clear hwl
   go_wp2_with fail
   clear c0 c1 c2 c3 c4 c5 c6
   go_loopw [68] (fun i wr => ∃ m : Nat, m ≤ nW ∧ i = .int .i64 m ∧ allB (fun i => decide (0 ≤ gI (gPx l j).p.ws i ∧ gI (gPx l j).p.ws i ≤ 500)) m = true ∧ Ext w3 wr) (fun i _ => nW - (intOf i).toNat)
   case atStart => exact ⟨0, Nat.zero_le _, rfl, rfl, Ext.refl _⟩
   case round =>
    obtain ⟨m, hm, rfl, hall, hx⟩ := hrel
    have HALL := Lib.hid hall; have HX := Lib.hid hx; clear hall hx
    by_cases hlt : m < nW
    ·obtain ⟨bw, ow, hAW, d0⟩ := (HW.out.ext (HX3.out.trans HX.out)).g (k := m) (by rw [HLW.out]; exact hlt)
     subst hAW
     obtain ⟨v, hv⟩ : ∃ v, v = gI (gPx l j).p.ws m := ⟨_, rfl⟩
     rw [← hv] at d0
     have HV := Lib.hid hv; clear hv
     by_cases g0 : v < 0
     ·have HR : Hid (PE = 3) := by show _ = _; rw [HR5.out, if_pos (allB_false hlt (by rw [← HV.out]; exact decide_eq_false (by omega)))]
      go_wp2_with fail
      go_ret
      exact ⟨ret_int HR.out.symm, HX3.out.trans HX.out⟩
     by_cases g1 : 500 < v
     ·have HR : Hid (PE = 3) := by show _ = _; rw [HR5.out, if_pos (allB_false hlt (by rw [← HV.out]; exact decide_eq_false (by omega)))]
      go_wp2_with fail
      go_ret
      exact ⟨ret_int HR.out.symm, HX3.out.trans HX.out⟩
     have HD : Hid (decide (0 ≤ gI (gPx l j).p.ws m ∧ gI (gPx l j).p.ws m ≤ 500) = true) := by show _ = _; rw [← HV.out]; exact decide_eq_true (by omega)
     go_wp2_with fail
     go_roundw
     case rel => exact ⟨m + 1, by omega, by go_num, allB_succ HALL.out HD.out, HX.out⟩
     case measure => simp [intOf]; omega
    ·obtain rfl : m = nW := by omega
     have HR : Hid (PE = 0) := by show _ = _; rw [HR5.out, if_neg (by rw [HALL.out]; simp)]
     go_wp2_with fail
     go_ret
     exact ⟨ret_int HR.out.symm, HX3.out.trans HX.out⟩
end Go.Proofs.YtfegbaokcbjllaaGreat
/- a map of bools that the call makes: the look-up; which strings it knows. No program in sight but the laws' P. -/
namespace Go.Proofs.YtfegbaokcbjllaaGreat
open Go.RowKit Go.Maps
section
variable {H : Type} {P : Program}
theorem plainElem_bool_inv {e : TypeId} (he : P.underlying e = some .bool) {v : Value} {z : DataW H × List MemPlace} (h : plainElem P e v = some z) : ∃ x, v = .bool x ∧ z = (.lit (.bool x), []) := by
 unfold plainElem at h
 rw [he] at h
 cases v <;> simp at h
 subst h
 exact ⟨_, rfl, rfl⟩
theorem lookup_bool {w : World} {k t e : TypeId} {b n : Nat} {D : DataW H} (h : w.ownsMap P k (plainElem P e) b n D) (K : Keyed P k) (ht : P.underlying t = some (.map k e)) (he : P.underlying e = some .bool) (hz : (zeroValue e).run P w = .ok (.bool false) w)
  {key : Value} {kl : Lit} (hkey : keyOf P k key = some kl) : ∃ c, (Instr.lookup t (.map (some b)) key false).run P w = .ok (.bool c) w ∧ D.atKey kl (.lit (.bool false)) = .lit (.bool c) := by
 obtain ⟨v, ps, hrun, hv⟩ := h.lookup K ht hz (plainElem_bool he false) hkey
 obtain ⟨c, rfl, hc⟩ := plainElem_bool_inv he hv
 simp only [Prod.mk.injEq] at hc
 exact ⟨c, hrun, hc.1⟩
theorem wpList_lookup_own_bool (w : World) {ops : Array Oper} {rest : List Oper} {o : Oper} {a : Act} {Q : Exit → Act → World → Prop}
  (hg : o.guard = none) (m x : Operand) (t : TypeId) (hop : o.op = Op.lookup t m x false)
  (k e : TypeId) (K : Keyed P k) (ht : P.underlying t = some (.map k e)) (he : P.underlying e = some .bool) (hz : (zeroValue e).run P w = .ok (.bool false) w) (b n : Nat) (D : DataW H)
  (hm : a.eval m = .map (some b)) (hown : w.ownsMap P k (plainElem P e) b n D) (key : Value) (kl : Lit) (hx : a.eval x = key) (hkey : keyOf P k key = some kl)
  (hK : ∀ c : Bool, D.atKey kl (.lit (.bool false)) = .lit (.bool c) → wpList P ops Q rest (a.put o.dst (.bool c)) w) :
  wpList P ops Q (o :: rest) a w := by
 refine wpList_plain hg fun K' hK' => ?_
 obtain ⟨c, hrun, hat⟩ := lookup_bool hown K ht he hz hkey
 unfold Oper.wp
 simp [execOp, hop, hm, hx, hrun, Result.andThen]
 exact hK' _ _ (hK c hat)
/- the strings that have been laid in -/
def knownD : List ByteArray → DataW H
 |[] => .map []
 |s :: l => (knownD l).put (.string s.data.toList) (.lit (.bool true))
theorem known_map : ∀ l : List ByteArray, IsMap (knownD (H := H) l)
 |[] => isMap_empty
 |_ :: l => (known_map l).put _ _
theorem known_at (l : List ByteArray) (s : ByteArray) : (knownD (H := H) l).atKey (.string s.data.toList) (.lit (.bool false)) = .lit (.bool (decide (s.data.toList ∈ l.map fun x => x.data.toList))) := by
 induction l with
 |nil => rfl
 |cons x l ih =>
  unfold knownD
  by_cases h : s.data.toList = x.data.toList
  ·rw [h, atKey_put_same (k := .string x.data.toList) (known_map l) (by simp [WideAt.IsKeyLit])]
   simp
  ·rw [atKey_put_other (by intro e; injection e with e; exact h e)]
   rw [ih]
   simp [h]
end
end Go.Proofs.YtfegbaokcbjllaaGreat
/- style.checkWhole -/
namespace Go.Proofs.YtfegbaokcbjllaaGreat
open Go.RowKit Go.Maps Go.WideMaps
theorem zeroB (w : World) : (zeroValue 4).run Tryz.prog w = .ok (.bool false) w := by kernel_rfl
theorem strK : Keyed Tryz.prog 9 := string_keyed Tryz.underlying9
def KnownW (w : World) (M j : Nat) (l : List ByteArray) : Prop := w.ownsMap Tryz.prog 9 (plainElem (H := Unit) Tryz.prog 4) M j (knownD l.reverse)
theorem szDupF_known (l : List ByteArray) (i : Nat) : (knownD (H := Unit) (l.take i).reverse).atKey (.string (gB l i).data.toList) (.lit (.bool false)) = .lit (.bool (szDupF l i)) := by
 rw [known_at]
 unfold szDupF
 simp only [List.map_reverse, List.mem_reverse]
theorem known_next {l : List ByteArray} {i : Nat} (h : i < l.length) : knownD (H := Unit) (l.take (i + 1)).reverse = (knownD (l.take i).reverse).put (.string (gB l i).data.toList) (.lit (.bool true)) := by
 rw [take_succ _ _ h, List.reverse_append, ← gB_eq h]; rfl
/- the chain of checks -/
def wh6 (x : StyX) : Int := if allB (fun i => decide (-100 ≤ gI x.ms i ∧ gI x.ms i ≤ 100)) x.ms.length = false then 3 else 0
def wh5 (x : StyX) : Int := if 24 < x.ss.length ∨ 16 < x.no then 5 else wh6 x
def wh4 (x : StyX) : Int := if 12 < x.sz.length ∨ 12 < x.ps.length ∨ 12 < x.us.length then 5 else wh5 x
def wh3 (x : StyX) : Int := if szDup x.sz x.sz.length = true then 7 else wh4 x
def wh2 (x : StyX) : Int := if x.ms.length ≠ x.sz.length ∨ ¬ (0 : Int) ∈ x.ms then 1 else wh3 x
def wh1 (x : StyX) : Int := if allB (fun i => szB (gB x.sz i)) x.sz.length = false then 1 else wh2 x
theorem whole_eq (x : StyX) : wholeE x = if nameB x.nm = false ∨ x.sz.length = 0 then 1 else wh1 x := rfl
set_option maxRecDepth 100000 in
set_option maxHeartbeats 6400000 in
theorem checkWhole_any (a : StyA) (x : StyX) (w : World) (hs : StyXAt w a x) (hN : x.sz.length ≤ 1000) (hZ : ∀ k, k < x.sz.length → (gB x.sz k).size ≤ 1000) :
  Calls Tryz.prog 20 #[a.val] w fun e w' => e = .returned (.int .i64 (wholeE x)) ∧ Ext w w' := by
 have HS := Lib.hid hs; clear hs
 have HN := Lib.hid hN; clear hN
 have HZ := Lib.hid hZ; clear hZ
 obtain ⟨nm, AS, nS, cS, AM, nM, cM, AP, nP, cP, AU, nU, cU, AK, nK, cK, AO, nO, cO⟩ := a
 have HLS : Hid (x.sz.length = nS) := HS.out.lS
 have HLM : Hid (x.ms.length = nM) := HS.out.lM
 have HLP : Hid (x.ps.length = nP) := HS.out.lP
 have HLU : Hid (x.us.length = nU) := HS.out.lU
 have HLK : Hid (x.ss.length = nK) := HS.out.lK
 have HLO : Hid (nO = x.no) := HS.out.lO
 have HNM : Hid (nm = x.nm) := HS.out.nm
 have HSS := Lib.hid HS.out.S
 have HMS := Lib.hid HS.out.M
 have hbM : nM ≤ 9223372036854775807 := HS.out.bM
 have hnS : nS ≤ 1000 := by have := HN.out; have := HLS.out; omega
 simp only [StyA.val] at HSS HMS ⊢
 clear HS
 obtain ⟨WE, hWE⟩ : ∃ WE, WE = wholeE x := ⟨_, rfl⟩
 rw [← hWE]
 rw [whole_eq] at hWE
 have HWE := Lib.hid hWE; clear hWE
 have hmm := @run_makeMap Tryz.prog
 go_enter Tryz.func20, Tryz.ntmps20
 go_wp2_with fail
 refine (stName_any nm _).mono ?_
 rintro e w1 ⟨rfl, he1⟩
 have HB1 : Hid (Blk 29 w1 w.heap.size [.string nm, .slice AS nS cS, .slice AM nM cM, .slice AP nP cP, .slice AU nU cU, .slice AK nK cK, .slice AO nO cO]) := (Blk.new' rfl).ext he1
 have HX1 := Lib.hid (((Ext.refl w).alloc _).trans he1)
 clear he1
 obtain ⟨c0, c1, c2, c3, c4, c5, c6⟩ := blk7 HB1.out
 cases hnb : nameB nm
 ·have HR : Hid (WE = 1) := by show _ = _; rw [HWE.out, if_pos (Or.inl (by rw [← HNM.out]; exact hnb))]
  clear hnb
  go_wp2_with fail
  go_ret
  exact ⟨ret_int HR.out.symm, HX1.out⟩
 by_cases hs0 : nS = 0
 ·have HR : Hid (WE = 1) := by show _ = _; rw [HWE.out, if_pos (Or.inr (by rw [HLS.out]; exact hs0))]
  have hsb : ((nS : Int) == 0) = true := by simp [hs0]
  clear hnb hs0
  go_wp2_with fail
  go_ret
  exact ⟨ret_int HR.out.symm, HX1.out⟩
 have HR1 : Hid (WE = wh1 x) := by
  show _ = _; rw [HWE.out, if_neg]
  rw [← HNM.out, hnb, HLS.out]; simp; exact hs0
 have hsb : ((nS : Int) == 0) = false := by simp; exact hs0
 clear hnb hs0
 go_wp2_with fail
 clear c0 c1 c2 c3 c4 c5 c6 hsb
 go_loopw [23] (fun i wr => ∃ j : Nat, j ≤ nS ∧ i = .int .i64 j ∧ allB (fun i => szB (gB x.sz i)) j = true ∧ Ext w1 wr) (fun i _ => nS - (intOf i).toNat)
 case atStart => exact ⟨0, Nat.zero_le _, rfl, rfl, Ext.refl _⟩
 case round =>
  obtain ⟨j, hj, rfl, hall, hx⟩ := hrel
  have HALL := Lib.hid hall; have HX := Lib.hid hx; clear hall hx
  by_cases hlt : j < nS
  ·obtain ⟨b, off, hA, d0⟩ := (HSS.out.ext (HX1.out.trans HX.out)) j (by rw [HLS.out]; exact hlt)
   subst hA
   have HZJ := Lib.hid (HZ.out j (by rw [HLS.out]; exact hlt))
   obtain ⟨s, hs⟩ : ∃ s, s = gB x.sz j := ⟨_, rfl⟩
   rw [← hs] at d0 HZJ
   have HSJ := Lib.hid hs; clear hs
   go_wp2_with fail
   refine (stSize_any s _ HZJ.out).mono ?_
   rintro e w2 ⟨rfl, he⟩
   have HE := Lib.hid (HX.out.trans he); clear he
   cases hz : szB s
   ·have HR : Hid (WE = 1) := by show _ = _; rw [HR1.out]; unfold wh1; rw [if_pos (allB_false (by rw [HLS.out]; exact hlt) (by rw [← HSJ.out]; exact hz))]
    clear hz
    go_wp2_with fail
    go_ret
    exact ⟨ret_int HR.out.symm, HX1.out.trans HE.out⟩
   ·have HT : Hid (szB (gB x.sz j) = true) := by show _ = _; rw [← HSJ.out]; exact hz
    clear hz
    go_wp2_with fail
    go_roundw
    case rel => exact ⟨j + 1, by omega, by go_num, allB_succ HALL.out HT.out, HE.out⟩
    case measure => simp [intOf]; omega
  obtain rfl : j = nS := by omega
  have HR2 : Hid (WE = wh2 x) := by show _ = _; rw [HR1.out]; unfold wh1; rw [if_neg (by rw [HLS.out, HALL.out]; simp)]
  clear HALL HR1 hj hlt
  obtain ⟨W1, hW1⟩ : ∃ W1 : World, W1 = wr := ⟨_, rfl⟩
  rw [← hW1] at HX ⊢
  clear hW1
  have HXW := Lib.hid (HX1.out.trans HX.out)
  have HBW := Lib.hid (HB1.out.ext HX.out)
  clear HX
  obtain ⟨c0, c1, c2, c3, c4, c5, c6⟩ := blk7 HBW.out
  by_cases hml : nM = j
  rotate_left
  ·have HR : Hid (WE = 1) := by show _ = _; rw [HR2.out]; unfold wh2; rw [if_pos (Or.inl (by rw [HLM.out, HLS.out]; exact hml))]
   have hmb : ((nM : Int) != (j : Int)) = true := by simp; omega
   clear hml
   go_wp2_with fail
   go_ret
   exact ⟨ret_int HR.out.symm, HXW.out⟩
  have HML := Lib.hid hml
  have hmb : ((nM : Int) != (j : Int)) = false := by simp; omega
  clear hml
  go_wp2_with fail
  refine (intContains_any AM nM cM x.ms 0 _ (HMS.out.ext HXW.out) HLM.out hbM).mono ?_
  rintro e w2 ⟨rfl, he2⟩
  have HX2 := Lib.hid (HXW.out.trans he2)
  have HB2 := Lib.hid (HBW.out.ext he2)
  clear he2 c0 c1 c2 c3 c4 c5 c6 HXW HBW
  obtain ⟨c0, c1, c2, c3, c4, c5, c6⟩ := blk7 HB2.out
  by_cases h0 : (0 : Int) ∈ x.ms
  rotate_left
  ·have HR : Hid (WE = 1) := by show _ = _; rw [HR2.out]; unfold wh2; rw [if_pos (Or.inr h0)]
   rw [decide_eq_false h0]
   clear h0
   go_wp2_with fail
   go_ret
   exact ⟨ret_int HR.out.symm, HX2.out⟩
  have HR3 : Hid (WE = wh3 x) := by show _ = _; rw [HR2.out]; unfold wh2; rw [if_neg (by rw [HLM.out, HLS.out]; exact fun h => h.elim (fun h => h HML.out) (fun h => h h0))]
  rw [decide_eq_true h0]
  clear h0 HR2 hmb
  go_upto_region 12 with fail
  refine wp_at fun w3 hw3 => ?_
  have HX3 : Hid (Ext w w3) := by show Ext _ _; rw [hw3]; exact HX2.out.alloc _
  have HB3 : Hid (Blk 29 w3 w.heap.size [.string nm, .slice AS j cS, .slice AM nM cM, .slice AP nP cP, .slice AU nU cU, .slice AK nK cK, .slice AO nO cO]) := by show Blk _ _ _ _; rw [hw3]; exact HB2.out.ext ((Ext.refl _).alloc _)
  have HK3 : Hid (KnownW w3 w2.heap.size 0 []) := by show KnownW _ _ _ _; rw [hw3]; exact World.ownsMap_made _ _ _ _
  have HG3 : Hid (w.heap.size < w2.heap.size) := HB2.out.lt
  obtain ⟨M, hM⟩ : ∃ M, M = w2.heap.size := ⟨_, rfl⟩
  rw [← hM] at HK3 HG3 ⊢
  clear hM hw3 c0 c1 c2 c3 c4 c5 c6 hmm
  obtain ⟨c0, c1, c2, c3, c4, c5, c6⟩ := blk7 HB3.out
  go_wp2_with fail
  clear c0 c1 c2 c3 c4 c5 c6
  go_loopw [48] (fun i wr => ∃ k : Nat, k ≤ j ∧ i = .int .i64 k ∧ (∀ q, q < k → szDupF x.sz q = false) ∧ KnownW wr M k (x.sz.take k) ∧ Ext w wr ∧ Blk 29 wr w.heap.size [.string nm, .slice AS j cS, .slice AM nM cM, .slice AP nP cP, .slice AU nU cU, .slice AK nK cK, .slice AO nO cO]) (fun i _ => j - (intOf i).toNat)
  case atStart => exact ⟨0, Nat.zero_le _, rfl, fun q hq => absurd hq (Nat.not_lt_zero _), HK3.out, HX3.out, HB3.out⟩
  case round =>
   obtain ⟨k, hk, rfl, hall, hkn, hx, hbk⟩ := hrel
   have HALL := Lib.hid hall; have HKN : Hid (wr.ownsMap Tryz.prog 9 (plainElem (H := Unit) Tryz.prog 4) M k (knownD (x.sz.take k).reverse)) := hkn; have HX := Lib.hid hx; have HBK := Lib.hid hbk; clear hall hkn hx hbk
   by_cases hlt : k < j
   ·have hkl : Hid (k < x.sz.length) := by show _ < _; rw [HLS.out]; exact hlt
    obtain ⟨b, off, hA, d0⟩ := (HSS.out.ext HX.out) k hkl.out
    subst hA
    have HZK : Hid ((gB x.sz k).size ≤ maxLen) := by have := HZ.out k hkl.out; show _ ≤ _; unfold maxLen; omega
    have HKF := Lib.hid (szDupF_known x.sz k)
    have HNX := Lib.hid (known_next hkl.out)
    obtain ⟨s, hs⟩ : ∃ s, s = gB x.sz k := ⟨_, rfl⟩
    rw [← hs] at d0 HZK HKF HNX
    clear hs
    have KN : Hid (∀ c : Bool, (knownD (H := Unit) (x.sz.take k).reverse).atKey (.string s.data.toList) (.lit (.bool false)) = .lit (.bool c) → szDupF x.sz k = c) := fun c hat => by
     rw [HKF.out] at hat
     injection hat with hat
     injection hat
    cases hd : szDupF x.sz k
    ·have HD := Lib.hid hd
     rw [hd] at KN
     clear hd HKF
     go_wp2_with (first
      |(at_lookup; refine wpList_lookup_own_bool _ rfl _ _ 111 rfl 9 4 strK Tryz.underlying111 Tryz.underlying4 (zeroB _) M k _ rfl HKN.out _ _ rfl (keyOf_string_mk Tryz.underlying9 HZK.out) ?_; intro c hat; obtain rfl := KN.out c hat; clear hat)
      |(at_mapUpdate; refine wpList_mapUpdate_own _ rfl _ _ _ 111 rfl 9 4 strK Tryz.underlying111 _ M k _ rfl HKN.out (by unfold maxLen; omega) _ _ _ rfl rfl (keyOf_string_mk Tryz.underlying9 HZK.out) _ [] (plainElem_bool Tryz.underlying4 true) ?_; intro w5 hown1 hgrow)
      |fail)
     have HK5 : Hid (KnownW w5 M (k + 1) (x.sz.take (k + 1))) := by show KnownW _ _ _ _; unfold KnownW; rw [HNX.out]; exact hown1
     have HX5 : Hid (Ext w w5) := HX.out.grown hgrow (fun q hq => by cases hq; exact Nat.le_of_lt HG3.out)
     have HB5 : Hid (Blk 29 w5 w.heap.size [.string nm, .slice (some ⟨b, off, none⟩) j cS, .slice AM nM cM, .slice AP nP cP, .slice AU nU cU, .slice AK nK cK, .slice AO nO cO]) := by
      have hne := HG3.out
      exact (hgrow.block _ HBK.out.lt (fun e => by injection e with e; omega)).trans HBK.out
     clear hown1 hgrow
     go_roundw
     case rel => exact ⟨k + 1, by omega, by go_num, fun q hq => by
      rcases Nat.lt_succ_iff_lt_or_eq.1 hq with h | h
      ·exact HALL.out q h
      ·subst h; exact HD.out, HK5.out, HX5.out, HB5.out⟩
     case measure => simp [intOf]; omega
    ·have HR : Hid (WE = 7) := by show _ = _; rw [HR3.out]; unfold wh3; rw [if_pos]; rw [HLS.out]; exact any_at hlt hd
     rw [hd] at KN
     clear hd HKF
     go_wp2_with (at_lookup; refine wpList_lookup_own_bool _ rfl _ _ 111 rfl 9 4 strK Tryz.underlying111 Tryz.underlying4 (zeroB _) M k _ rfl HKN.out _ _ rfl (keyOf_string_mk Tryz.underlying9 HZK.out) ?_; intro c hat; obtain rfl := KN.out c hat; clear hat)
     go_ret
     exact ⟨ret_int HR.out.symm, HX.out⟩
   obtain rfl : k = j := by omega
   have HR4 : Hid (WE = wh4 x) := by
    show _ = _; rw [HR3.out]; unfold wh3; rw [if_neg]
    rw [HLS.out]; unfold szDup; rw [any_none HALL.out]; simp
   clear HALL HR3 HKN hk hlt
   obtain ⟨W4, hW4⟩ : ∃ W4 : World, W4 = wr := ⟨_, rfl⟩
   rw [← hW4] at HX HBK ⊢
   clear hW4
   obtain ⟨c0, c1, c2, c3, c4, c5, c6⟩ := blk7 HBK.out
   by_cases g0 : 12 < k
   ·have HR : Hid (WE = 5) := by show _ = _; rw [HR4.out]; unfold wh4; rw [if_pos (Or.inl (by rw [HLS.out]; exact g0))]
    go_wp2_with fail
    go_ret
    exact ⟨ret_int HR.out.symm, HX.out⟩
   by_cases g1 : 12 < nP
   ·have HR : Hid (WE = 5) := by show _ = _; rw [HR4.out]; unfold wh4; rw [if_pos (Or.inr (Or.inl (by rw [HLP.out]; exact g1)))]
    go_wp2_with fail
    go_ret
    exact ⟨ret_int HR.out.symm, HX.out⟩
   by_cases g2 : 12 < nU
   ·have HR : Hid (WE = 5) := by show _ = _; rw [HR4.out]; unfold wh4; rw [if_pos (Or.inr (Or.inr (by rw [HLU.out]; exact g2)))]
    go_wp2_with fail
    go_ret
    exact ⟨ret_int HR.out.symm, HX.out⟩
   have HR5 : Hid (WE = wh5 x) := by show _ = _; rw [HR4.out]; unfold wh4; rw [if_neg (by rw [HLS.out, HLP.out, HLU.out]; omega)]
   by_cases g3 : 24 < nK
   ·have HR : Hid (WE = 5) := by show _ = _; rw [HR5.out]; unfold wh5; rw [if_pos (Or.inl (by rw [HLK.out]; exact g3))]
    go_wp2_with fail
    go_ret
    exact ⟨ret_int HR.out.symm, HX.out⟩
   by_cases g4 : 16 < nO
   ·have HR : Hid (WE = 5) := by show _ = _; rw [HR5.out]; unfold wh5; rw [if_pos (Or.inr (by rw [← HLO.out]; exact g4))]
    go_wp2_with fail
    go_ret
    exact ⟨ret_int HR.out.symm, HX.out⟩
   have HR6 : Hid (WE = wh6 x) := by show _ = _; rw [HR5.out]; unfold wh5; rw [if_neg (by rw [HLK.out, ← HLO.out]; omega)]
   go_wp2_with fail
   clear c0 c1 c2 c3 c4 c5 c6
   go_loopw [87] (fun i wr => ∃ m : Nat, m ≤ nM ∧ i = .int .i64 m ∧ allB (fun i => decide (-100 ≤ gI x.ms i ∧ gI x.ms i ≤ 100)) m = true ∧ Ext w wr) (fun i _ => nM - (intOf i).toNat)
   case atStart => exact ⟨0, Nat.zero_le _, rfl, rfl, HX.out⟩
   case round =>
    obtain ⟨m, hm, rfl, hall, hx⟩ := hrel
    have HALL := Lib.hid hall; have HXM := Lib.hid hx; clear hall hx
    by_cases hlt : m < nM
    ·obtain ⟨bw, ow, hAW, d0⟩ := (HMS.out.ext HXM.out).g (k := m) (by rw [HLM.out]; exact hlt)
     subst hAW
     obtain ⟨v, hv⟩ : ∃ v, v = gI x.ms m := ⟨_, rfl⟩
     rw [← hv] at d0
     have HV := Lib.hid hv; clear hv
     by_cases g0 : v < -100
     ·have HR : Hid (WE = 3) := by show _ = _; rw [HR6.out]; unfold wh6; rw [if_pos (allB_false (by rw [HLM.out]; exact hlt) (by rw [← HV.out]; exact decide_eq_false (by omega)))]
      go_wp2_with fail
      go_ret
      exact ⟨ret_int HR.out.symm, HXM.out⟩
     by_cases g1 : 100 < v
     ·have HR : Hid (WE = 3) := by show _ = _; rw [HR6.out]; unfold wh6; rw [if_pos (allB_false (by rw [HLM.out]; exact hlt) (by rw [← HV.out]; exact decide_eq_false (by omega)))]
      go_wp2_with fail
      go_ret
      exact ⟨ret_int HR.out.symm, HXM.out⟩
     have HD : Hid (decide (-100 ≤ gI x.ms m ∧ gI x.ms m ≤ 100) = true) := by show _ = _; rw [← HV.out]; exact decide_eq_true (by omega)
     go_wp2_with fail
     go_roundw
     case rel => exact ⟨m + 1, by omega, by go_num, allB_succ HALL.out HD.out, HXM.out⟩
     case measure => simp [intOf]; omega
    ·obtain rfl : m = nM := by omega
     have HR : Hid (WE = 0) := by show _ = _; rw [HR6.out]; unfold wh6; rw [if_neg (by rw [HLM.out, HALL.out]; simp)]
     go_wp2_with fail
     go_ret
     exact ⟨ret_int HR.out.symm, HXM.out⟩
end Go.Proofs.YtfegbaokcbjllaaGreat
namespace Go.Proofs.YtfegbaokcbjllaaGreat
open Go.RowKit
def st3 (x : StyX) : Int := firstE (joinE x) x.ss.length
def st2 (x : StyX) : Int := if firstE (useE x) x.us.length ≠ 0 then firstE (useE x) x.us.length else st3 x
def st1 (x : StyX) : Int := if firstE (pieceE x.ps) x.ps.length ≠ 0 then firstE (pieceE x.ps) x.ps.length else st2 x
theorem sty_eq (x : StyX) : styE x = if wholeE x ≠ 0 then wholeE x else st1 x := rfl
theorem firstE_in {f : Nat → Int} {n k : Nat} (hk : k < n) (h0 : firstE f k = 0) (h : f k ≠ 0) {y : Int} : (if firstE f n ≠ 0 then firstE f n else y) = f k := by
 rw [firstE_at hk h0 h, if_pos h]
theorem firstE_out {f : Nat → Int} {n : Nat} (h0 : firstE f n = 0) {y : Int} : (if firstE f n ≠ 0 then firstE f n else y) = y := by
 rw [if_neg (fun h => h h0)]
set_option maxRecDepth 100000 in
set_option maxHeartbeats 6400000 in
theorem styCheck_any (a : StyA) (x : StyX) (w : World) (hs : StyXAt w a x) (hN : x.sz.length ≤ 1000) (hZ : ∀ k, k < x.sz.length → (gB x.sz k).size ≤ 1000) :
  Calls Tryz.prog 6 #[a.val] w fun e w' => e = .returned (.int .i64 (styE x)) ∧ Ext w w' := by
 have HS := Lib.hid hs
 have HCW := Lib.hid (fun W (h : Ext w W) => checkWhole_any a x W (hs.ext h) hN hZ)
 have HCE := Lib.hid (fun p q W (h : Ext w W) => stEdge_any a x p q W (hs.ext h))
 clear hs hN hZ
 obtain ⟨nm, AS, nS, cS, AM, nM, cM, AP, nP, cP, AU, nU, cU, AK, nK, cK, AO, nO, cO⟩ := a
 have HLP : Hid (x.ps.length = nP) := HS.out.lP
 have HLU : Hid (x.us.length = nU) := HS.out.lU
 have HLK : Hid (x.ss.length = nK) := HS.out.lK
 have hbP : nP ≤ 9223372036854775807 := HS.out.bP
 have hbU : nU ≤ 9223372036854775807 := HS.out.bU
 have hbK : nK ≤ 9223372036854775807 := HS.out.bK
 have hcP : nP ≤ cP := HS.out.cP
 have HPS := Lib.hid HS.out.P
 have HUS := Lib.hid HS.out.U
 have HKS := Lib.hid HS.out.K
 simp only [StyA.val] at HCW HCE HPS HUS HKS ⊢
 clear HS
 obtain ⟨SE, hSE⟩ : ∃ SE, SE = styE x := ⟨_, rfl⟩
 rw [← hSE]
 rw [sty_eq] at hSE
 have HSE := Lib.hid hSE; clear hSE
 go_enter Tryz.func6, Tryz.ntmps6
 go_wp2_with fail
 refine (HCW.out _ ((Ext.refl _).alloc _)).mono ?_
 rintro e w1 ⟨rfl, he1⟩
 have HB1 : Hid (Blk 29 w1 w.heap.size [.string nm, .slice AS nS cS, .slice AM nM cM, .slice AP nP cP, .slice AU nU cU, .slice AK nK cK, .slice AO nO cO]) := (Blk.new' rfl).ext he1
 have HX1 := Lib.hid (((Ext.refl w).alloc _).trans he1)
 clear he1
 obtain ⟨c0, c1, c2, c3, c4, c5, c6⟩ := blk7 HB1.out
 obtain ⟨WE, hWE⟩ : ∃ WE, WE = wholeE x := ⟨_, rfl⟩
 rw [← hWE] at HSE ⊢
 clear hWE
 by_cases hz : WE = 0
 rotate_left
 ·have hzb : (WE != 0) = true := by simp [hz]
  have HR : Hid (SE = WE) := by show _ = _; rw [HSE.out, if_pos hz]
  clear hz
  go_wp2_with fail
  go_ret
  exact ⟨ret_int HR.out.symm, HX1.out⟩
 subst hz
 have HR1 : Hid (SE = st1 x) := by show _ = _; rw [HSE.out, if_neg (by simp)]
 clear HSE
 go_wp2_with fail
 clear c0 c1 c2 c3 c4 c5 c6
 go_loopw [19] (fun i wr => ∃ k : Nat, k ≤ nP ∧ i = .int .i64 k ∧ firstE (pieceE x.ps) k = 0 ∧ Ext w1 wr) (fun i _ => nP - (intOf i).toNat)
 case atStart => exact ⟨0, Nat.zero_le _, rfl, rfl, Ext.refl _⟩
 case round =>
  obtain ⟨k, hk, rfl, hall, hx⟩ := hrel
  have HALL := Lib.hid hall; have HX := Lib.hid hx; clear hall hx
  obtain ⟨c0, c1, c2, c3, c4, c5, c6⟩ := blk7 (HB1.out.ext HX.out)
  by_cases hlt : k < nP
  ·have HKL : Hid (k < x.ps.length) := by show _ < _; rw [HLP.out]; exact hlt
   obtain ⟨bp, op, q, hAP, hpA, hcA, hqn, hqg⟩ := (HPS.out.ext (HX1.out.trans HX.out)) k HKL.out
   subst hAP
   have HCP := Lib.hid (fun W (h : Ext wr W) => checkPiece_any (some ⟨bp, op, none⟩) x.ps k cP q W (((HPS.out.ext (HX1.out.trans HX.out)).ext h).take k) HKL.out (by omega) (hpA.ext h) hqn hqg)
   clear hpA hqn hqg
   obtain ⟨pnm, pAE, pnE, pcE, pgr, pAN, pnN, pcN, pAC, pnC, pcC, pAW, pnW, pcW, pmt⟩ := q
   obtain ⟨a0, a1, a2, a3, a4, a5, a6⟩ := hcA
   simp only [PcA.val] at HCP a0 a1 a2 a3 a4 a5 a6
   have hpl : w.heap.size < wr.heap.size := (HB1.out.ext HX.out).lt
   obtain ⟨PE, hPE⟩ : ∃ PE, PE = pieceE x.ps k := ⟨_, rfl⟩
   rw [← hPE] at HCP
   have HPE := Lib.hid hPE; clear hPE
   go_upto_region 7 with fail
   refine wp_at fun wq hWq => ?_
   have hNb : Blk 40 wq wr.heap.size [.string pnm, .slice pAE pnE pcE, .int .i64 pgr, .slice pAN pnN pcN, .slice pAC pnC pcC, .slice pAW pnW pcW, .bool pmt] := by rw [hWq]; exact Blk.new' rfl
   have hxq : Ext wr wq := by rw [hWq]; exact (Ext.refl _).alloc _
   obtain ⟨nb, hnb⟩ : ∃ nb, nb = wr.heap.size := ⟨_, rfl⟩
   rw [← hnb] at hNb ⊢
   have HXq := Lib.hid hxq
   have HCQ := Lib.hid (fun W (h : Ext wq W) => HCP.out W (hxq.trans h))
   have HBq := Lib.hid ((HB1.out.ext HX.out).ext hxq)
   clear hWq hnb hxq HCP a0 a1 a2 a3 a4 a5 a6 c0 c1 c2 c3 c4 c5 c6 hpl
   obtain ⟨a0, a1, a2, a3, a4, a5, a6⟩ := blk7 hNb
   obtain ⟨c0, c1, c2, c3, c4, c5, c6⟩ := blk7 HBq.out
   clear hNb
   have z0 := fun z : After wq => After.cell c3 z
   have y0 := fun z : After wq => After.cell a0 z
   have y1 := fun z : After wq => After.cell a1 z
   have y2 := fun z : After wq => After.cell a2 z
   have y3 := fun z : After wq => After.cell a3 z
   have y4 := fun z : After wq => After.cell a4 z
   have y5 := fun z : After wq => After.cell a5 z
   have y6 := fun z : After wq => After.cell a6 z
   have hkc : k ≤ cP := by omega
   refine region_ext (by kernel_rfl) (by kernel_rfl) ?_
   repeat (first | go_big_quiet_step ((go_at_call 21; exact after_call (HCQ.out _ (After.ext _)))) | (go_big_quiet_want; go_simp; go_big_quiet_on))
   refine wpQuiet_nil ?_
   rintro w4 ⟨⟨_, he4⟩, rfl⟩
   have HX4 := Lib.hid ((HX.out.trans HXq.out).trans he4)
   clear z0 y0 y1 y2 y3 y4 y5 y6 a0 a1 a2 a3 a4 a5 a6 c0 c1 c2 c3 c4 c5 c6 he4 HCQ HBq
   by_cases hz : PE = 0
   ·have HZ : Hid (pieceE x.ps k = 0) := by show _ = _; rw [← HPE.out]; exact hz
    have hzb : (PE != 0) = false := by simp [hz]
    clear hz
    go_wp2_with fail
    go_roundw
    case rel => exact ⟨k + 1, by omega, by go_num, firstE_succ HALL.out HZ.out, HX4.out⟩
    case measure => simp [intOf]; omega
   ·have hzb : (PE != 0) = true := by simp [hz]
    have HR : Hid (SE = PE) := by show _ = _; rw [HR1.out]; unfold st1; rw [firstE_in HKL.out HALL.out (by rw [← HPE.out]; exact hz), HPE.out]
    clear hz
    go_wp2_with fail
    go_ret
    exact ⟨ret_int HR.out.symm, HX1.out.trans HX4.out⟩
  obtain rfl : k = nP := by omega
  have HR2 : Hid (SE = st2 x) := by show _ = _; rw [HR1.out]; unfold st1; rw [firstE_out (by rw [HLP.out]; exact HALL.out)]
  clear HALL HR1 hk hlt
  obtain ⟨W1, hW1⟩ : ∃ W1 : World, W1 = wr := ⟨_, rfl⟩
  rw [← hW1] at c0 c1 c2 c3 c4 c5 c6 HX ⊢
  clear hW1
  have HXW := Lib.hid (HX1.out.trans HX.out)
  have HBW := Lib.hid (HB1.out.ext HX.out)
  clear HX
  go_wp2_with fail
  clear c0 c1 c2 c3 c4 c5 c6
  go_loopw [37] (fun i wr => ∃ m : Nat, m ≤ nU ∧ i = .int .i64 m ∧ firstE (useE x) m = 0 ∧ Ext W1 wr) (fun i _ => nU - (intOf i).toNat)
  case atStart => exact ⟨0, Nat.zero_le _, rfl, rfl, Ext.refl _⟩
  case round =>
   obtain ⟨m, hm, rfl, hall, hx⟩ := hrel
   have HALL := Lib.hid hall; have HX := Lib.hid hx; clear hall hx
   obtain ⟨c0, c1, c2, c3, c4, c5, c6⟩ := blk7 (HBW.out.ext HX.out)
   by_cases hlt : m < nU
   ·have HML : Hid (m < x.us.length) := by show _ < _; rw [HLU.out]; exact hlt
    obtain ⟨bu, ou, hAU, u0, u1, u2'⟩ := (HUS.out.ext (HXW.out.trans HX.out)) m HML.out
    subst hAU
    obtain ⟨pc, hpc⟩ : ∃ v, v = (gU x.us m).pc := ⟨_, rfl⟩
    obtain ⟨ct, hct⟩ : ∃ v, v = (gU x.us m).ct := ⟨_, rfl⟩
    obtain ⟨pr, hpr⟩ : ∃ v, v = (gU x.us m).pr := ⟨_, rfl⟩
    rw [← hpc] at u0; rw [← hct] at u1; rw [← hpr] at u2'
    have HPC := Lib.hid hpc; have HCT := Lib.hid hct; clear hpc hct hpr
    have hpl : w.heap.size < wr.heap.size := (HBW.out.ext HX.out).lt
    have HAL : Hid (Ext W1 (wr.alloc (.cells #[.int .i64 pc, .int .i64 ct, .bool pr] 69))) := HX.out.alloc _
    have HUE : Hid (useE x m = if pc < 0 ∨ (k : Int) ≤ pc ∨ ct < 1 ∨ 4 < ct then 3 else 0) := by show _ = _; unfold useE; rw [← HPC.out, ← HCT.out, HLP.out]
    by_cases g0 : pc < 0
    ·have HR : Hid (SE = 3) := by show _ = _; rw [HR2.out]; unfold st2; rw [firstE_in HML.out HALL.out (by rw [HUE.out, if_pos (by omega)]; decide), HUE.out, if_pos (by omega)]
     go_wp2_with fail
     go_ret
     exact ⟨ret_int HR.out.symm, HXW.out.trans HAL.out⟩
    by_cases g1 : (k : Int) ≤ pc
    ·have HR : Hid (SE = 3) := by show _ = _; rw [HR2.out]; unfold st2; rw [firstE_in HML.out HALL.out (by rw [HUE.out, if_pos (by omega)]; decide), HUE.out, if_pos (by omega)]
     go_wp2_with fail
     go_ret
     exact ⟨ret_int HR.out.symm, HXW.out.trans HAL.out⟩
    by_cases g2 : ct < 1
    ·have HR : Hid (SE = 3) := by show _ = _; rw [HR2.out]; unfold st2; rw [firstE_in HML.out HALL.out (by rw [HUE.out, if_pos (by omega)]; decide), HUE.out, if_pos (by omega)]
     go_wp2_with fail
     go_ret
     exact ⟨ret_int HR.out.symm, HXW.out.trans HAL.out⟩
    by_cases g3 : 4 < ct
    ·have HR : Hid (SE = 3) := by show _ = _; rw [HR2.out]; unfold st2; rw [firstE_in HML.out HALL.out (by rw [HUE.out, if_pos (by omega)]; decide), HUE.out, if_pos (by omega)]
     go_wp2_with fail
     go_ret
     exact ⟨ret_int HR.out.symm, HXW.out.trans HAL.out⟩
    have HZ : Hid (useE x m = 0) := by show _ = _; rw [HUE.out, if_neg (by omega)]
    go_wp2_with fail
    go_roundw
    case rel => exact ⟨m + 1, by omega, by go_num, firstE_succ HALL.out HZ.out, HAL.out⟩
    case measure => simp [intOf]; omega
   obtain rfl : m = nU := by omega
   have HR3 : Hid (SE = st3 x) := by show _ = _; rw [HR2.out]; unfold st2; rw [firstE_out (by rw [HLU.out]; exact HALL.out)]
   clear HALL HR2 hm hlt
   obtain ⟨W2, hW2⟩ : ∃ W2 : World, W2 = wr := ⟨_, rfl⟩
   rw [← hW2] at c0 c1 c2 c3 c4 c5 c6 HX ⊢
   clear hW2
   have HXV := Lib.hid (HXW.out.trans HX.out)
   have HBV := Lib.hid (HBW.out.ext HX.out)
   clear HX
   go_wp2_with fail
   clear c0 c1 c2 c3 c4 c5 c6
   go_loopw [66] (fun i wr => ∃ m : Nat, m ≤ nK ∧ i = .int .i64 m ∧ firstE (joinE x) m = 0 ∧ Ext W2 wr) (fun i _ => nK - (intOf i).toNat)
   case atStart => exact ⟨0, Nat.zero_le _, rfl, rfl, Ext.refl _⟩
   case round =>
    obtain ⟨j, hj, rfl, hall, hx⟩ := hrel
    have HALL := Lib.hid hall; have HX := Lib.hid hx; clear hall hx
    obtain ⟨c0, c1, c2, c3, c4, c5, c6⟩ := blk7 (HBV.out.ext HX.out)
    by_cases hlt : j < nK
    ·have HJL : Hid (j < x.ss.length) := by show _ < _; rw [HLK.out]; exact hlt
     obtain ⟨bs, os, hAK, hsm⟩ := (HKS.out.ext (HXV.out.trans HX.out)) j HJL.out
     subst hAK
     have HJE : Hid (joinE x j = if ¬ (edgeB x.s (gSm x.ss j).pa (gSm x.ss j).ea = true ∧ edgeB x.s (gSm x.ss j).pb (gSm x.ss j).eb = true) then 3 else if (gSm x.ss j).ease < 0 then 1 else 0) := rfl
     obtain ⟨sm, hsmd⟩ : ∃ sm, sm = gSm x.ss j := ⟨_, rfl⟩
     rw [← hsmd] at hsm HJE
     clear hsmd
     obtain ⟨pa, ea, pb, eb, rv, es⟩ := sm
     obtain ⟨k0, k1, k2, k3, k4, k5⟩ := hsm
     simp only at k0 k1 k2 k3 k4 k5 HJE
     have hpl : w.heap.size < wr.heap.size := (HBV.out.ext HX.out).lt
     have HXL : Hid (Ext wr (wr.alloc (.cells #[.int .i64 pa, .int .i64 ea, .int .i64 pb, .int .i64 eb, .bool rv, .int .i64 es] 71))) := (Ext.refl _).alloc _
     go_wp2_with fail
     refine (HCE.out pa ea _ ((HXV.out.trans HX.out).trans HXL.out)).mono ?_
     rintro e w2 ⟨rfl, he2⟩
     have HSB : Hid (Blk 71 w2 wr.heap.size [.int .i64 pa, .int .i64 ea, .int .i64 pb, .int .i64 eb, .bool rv, .int .i64 es]) := (Blk.new' rfl).ext he2
     have HB2 := Lib.hid (((HBV.out.ext HX.out).ext HXL.out).ext he2)
     have HX2 := Lib.hid ((HX.out.trans HXL.out).trans he2)
     clear he2 HXL c0 c1 c2 c3 c4 c5 c6 k0 k1 k2 k3 k4 k5 hpl
     obtain ⟨c0, c1, c2, c3, c4, c5, c6⟩ := blk7 HB2.out
     obtain ⟨k0, k1, k2, k3, k4, k5⟩ := blk6 HSB.out
     cases hea : edgeB x.s pa ea
     ·have HR : Hid (SE = 3) := by
       have hj3 : joinE x j = 3 := by rw [HJE.out, if_pos (fun h => by rw [hea] at h; cases h.1)]
       show _ = _; rw [HR3.out]; unfold st3; rw [firstE_at HJL.out HALL.out (by rw [hj3]; decide), hj3]
      clear hea
      go_wp2_with fail
      go_ret
      exact ⟨ret_int HR.out.symm, HXV.out.trans HX2.out⟩
     have HEA := Lib.hid hea; clear hea
     go_wp2_with fail
     refine (HCE.out pb eb _ (HXV.out.trans HX2.out)).mono ?_
     rintro e w3 ⟨rfl, he3⟩
     have HSB3 := Lib.hid (HSB.out.ext he3); have HX3 := Lib.hid (HX2.out.trans he3)
     clear he3 c0 c1 c2 c3 c4 c5 c6 k0 k1 k2 k3 k4 k5
     obtain ⟨k0, k1, k2, k3, k4, k5⟩ := blk6 HSB3.out
     cases heb : edgeB x.s pb eb
     ·have HR : Hid (SE = 3) := by
       have hj3 : joinE x j = 3 := by rw [HJE.out, if_pos (fun h => by rw [heb] at h; cases h.2)]
       show _ = _; rw [HR3.out]; unfold st3; rw [firstE_at HJL.out HALL.out (by rw [hj3]; decide), hj3]
      clear heb
      go_wp2_with fail
      go_ret
      exact ⟨ret_int HR.out.symm, HXV.out.trans HX3.out⟩
     have HJ2 : Hid (joinE x j = if es < 0 then 1 else 0) := by show _ = _; rw [HJE.out, if_neg (fun h => h ⟨HEA.out, heb⟩)]
     clear heb HJE HEA
     by_cases g0 : es < 0
     ·have HR : Hid (SE = 1) := by
       have hj3 : joinE x j = 1 := by rw [HJ2.out, if_pos g0]
       show _ = _; rw [HR3.out]; unfold st3; rw [firstE_at HJL.out HALL.out (by rw [hj3]; decide), hj3]
      go_wp2_with fail
      go_ret
      exact ⟨ret_int HR.out.symm, HXV.out.trans HX3.out⟩
     have HZ : Hid (joinE x j = 0) := by show _ = _; rw [HJ2.out, if_neg g0]
     go_wp2_with fail
     go_roundw
     case rel => exact ⟨j + 1, by omega, by go_num, firstE_succ HALL.out HZ.out, HX3.out⟩
     case measure => simp [intOf]; omega
    obtain rfl : j = nK := by omega
    have HR : Hid (SE = 0) := by show _ = _; rw [HR3.out]; unfold st3; rw [HLK.out]; exact HALL.out
    go_wp2_with fail
    go_ret
    exact ⟨ret_int HR.out.symm, HXV.out.trans HX.out⟩
end Go.Proofs.YtfegbaokcbjllaaGreat
