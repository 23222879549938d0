/- style.checkPiece -/
import Derived.Deep.CutRange
import Derived.OwnWalk
import Derived.Test.YtfegbaokcbjllaaGreatKStX
/- chart.isSize, chart.Check of one size; style.isName, isSize, isEdge; slices.Contains of numbers -/
namespace Go.Proofs.YtfegbaokcbjllaaGreat
open Go.RowKit
def szF (s : ByteArray) (k : Nat) : Bool := if h : k < s.size then szC s[k] else false
theorem szF_eq {s : ByteArray} {k : Nat} (h : k < s.size) : szF s k = szC s[k] := by simp [szF, h]
theorem szB_all (s : ByteArray) : szB s = (allB (szF s) s.size && decide (1 ≤ s.size ∧ s.size ≤ 8)) := by
 unfold szB
 congr 1
 rw [Bool.eq_iff_iff, allB_iff, List.all_eq_true]
 constructor
 ·intro h i hi
  rw [szF_eq hi]
  exact h _ (by show s.data[i] ∈ s.data.toList; simp)
 ·intro h c hc
  obtain ⟨i, hi, rfl⟩ := List.mem_iff_getElem.1 hc
  have hi' : i < s.size := by simpa using hi
  have := h i hi'
  rw [szF_eq hi'] at this
  exact this
theorem sz_false {s : ByteArray} {k : Nat} (hk : k < s.size) (h : szC s[k] = false) : false = szB s := by
 rw [szB_all, allB_false hk (by rw [szF_eq hk]; exact h)]; rfl
set_option maxHeartbeats 800000 in
theorem chsize_any (s : ByteArray) (w : World) (hs : s.size ≤ 9223372036854775807) :
  Calls Tryz.prog 99 #[.string s] w fun e w' => e = .returned (.bool (szB s)) ∧ Ext w w' := by
 go_enter Tryz.func99, Tryz.ntmps99
 go_wp2_with fail
 go_loop [8] (fun i => ∃ k : Nat, k ≤ s.size ∧ i = .int .i64 k ∧ allB (szF s) k = true) (fun i => s.size - (intOf i).toNat)
 case atStart => exact ⟨0, Nat.zero_le _, rfl, rfl⟩
 case round =>
  obtain ⟨k, hk, rfl, ht⟩ := hrel
  have HT := Lib.hid ht; clear ht
  by_cases hlt : k < s.size
  ·by_cases h0 : 65 ≤ (s[k].toNat : Int)
   ·by_cases h1 : (s[k].toNat : Int) ≤ 90
    ·have HC : Hid (szC s[k] = true) := by show _ = _; simp [szC]; omega
     by_cases h2 : 48 ≤ (s[k].toNat : Int)
     rotate_left
     ·omega
     by_cases h3 : (s[k].toNat : Int) ≤ 57
     ·omega
     go_wp2_with fail
     go_round
     case rel => exact ⟨k + 1, by omega, by go_num, allB_succ HT.out (by rw [szF_eq hlt]; exact HC.out)⟩
     case measure => simp [intOf]; omega
    ·have HC : Hid (szC s[k] = false) := by show _ = _; simp [szC]; omega
     have h2 : 48 ≤ (s[k].toNat : Int) := by omega
     have h3 : ¬ (s[k].toNat : Int) ≤ 57 := by omega
     go_wp2_with fail
     go_ret
     exact ⟨ret_bool (sz_false hlt HC.out), Ext.refl _⟩
   ·by_cases h2 : 48 ≤ (s[k].toNat : Int)
    ·by_cases h3 : (s[k].toNat : Int) ≤ 57
     ·have HC : Hid (szC s[k] = true) := by show _ = _; simp [szC]; omega
      go_wp2_with fail
      go_round
      case rel => exact ⟨k + 1, by omega, by go_num, allB_succ HT.out (by rw [szF_eq hlt]; exact HC.out)⟩
      case measure => simp [intOf]; omega
     ·have HC : Hid (szC s[k] = false) := by show _ = _; simp [szC]; omega
      go_wp2_with fail
      go_ret
      exact ⟨ret_bool (sz_false hlt HC.out), Ext.refl _⟩
    ·have HC : Hid (szC s[k] = false) := by show _ = _; simp [szC]; omega
     go_wp2_with fail
     go_ret
     exact ⟨ret_bool (sz_false hlt HC.out), Ext.refl _⟩
  ·obtain rfl : k = s.size := by omega
   by_cases h0 : 1 ≤ s.size
   ·by_cases h1 : s.size ≤ 8
    ·have HZ : Hid (szB s = true) := by show _ = _; rw [szB_all, HT.out, decide_eq_true ⟨h0, h1⟩]; rfl
     go_wp2_with fail
     go_ret
     exact ⟨ret_bool (by rw [HZ.out]; simp; omega), Ext.refl _⟩
    ·have HZ : Hid (szB s = false) := by show _ = _; rw [szB_all, HT.out, decide_eq_false (by omega)]; rfl
     go_wp2_with fail
     go_ret
     exact ⟨ret_bool (by rw [HZ.out]; simp; omega), Ext.refl _⟩
   ·have HZ : Hid (szB s = false) := by show _ = _; rw [szB_all, HT.out, decide_eq_false (by omega)]; rfl
    go_wp2_with fail
    go_ret
    exact ⟨ret_bool (by rw [HZ.out]), Ext.refl _⟩
theorem strIndex0 (A : Option Addr) (c : Nat) (s : ByteArray) (w : World) :
  Calls Tryz.prog 124 #[.slice A 0 c, .string s] w fun e w' => e = .returned (.int .i64 (-1)) ∧ Ext w w' := by
 go_enter Tryz.func124, Tryz.ntmps124
 go_wp2_with fail
 go_loop [8] (fun i => i = .int .i64 0) (fun _ => 0)
 case atStart => rfl
 case round =>
  subst hrel
  go_wp2_with fail
  go_ret
  exact ⟨rfl, Ext.refl _⟩
theorem strContains0 (A : Option Addr) (c : Nat) (s : ByteArray) (w : World) :
  Calls Tryz.prog 102 #[.slice A 0 c, .string s] w fun e w' => e = .returned (.bool false) ∧ Ext w w' := by
 go_enter Tryz.func102, Tryz.ntmps102
 go_wp2_with fail
 refine (strIndex0 A c s _).mono ?_
 rintro e w1 ⟨rfl, he⟩
 go_wp2_with fail
 go_ret
 exact ⟨rfl, he⟩
theorem isIndex1 (b off c : Nat) (w : World) :
  Calls Tryz.prog 104 #[.agg #[.slice (some ⟨b, off, none⟩) 1 c, .int .i64 0, .slice none 0 0], .int .i64 0] w fun e w' => e = .returned (.bool true) ∧ Ext w w' := by
 go_enter Tryz.func104, Tryz.ntmps104
 go_wp2_with fail
 go_ret
 exact ⟨rfl, (Ext.refl _).alloc _⟩
def szE (s : ByteArray) : Int := if szB s = true then 0 else 1
set_option maxRecDepth 100000 in
set_option maxHeartbeats 1600000 in
theorem chart_one (b off c : Nat) (s : ByteArray) (w : World) (h : w.cell? ⟨b, off, none⟩ = some (.string s)) (hc : 1 ≤ c) (hc' : c ≤ 9223372036854775807) (hs : s.size ≤ 9223372036854775807) :
  Calls Tryz.prog 80 #[.agg #[.slice (some ⟨b, off, none⟩) 1 c, .int .i64 0, .slice none 0 0]] w fun e w' => e = .returned (.int .i64 (szE s)) ∧ Ext w w' := by
 have HS := Lib.hid h; clear h
 have HSS := Lib.hid hs; clear hs
 go_enter Tryz.func80, Tryz.ntmps80
 go_wp2_with fail
 refine wp_at fun W0 hW0 => ?_
 have HB : Hid (Blk 152 W0 w.heap.size [.slice (some ⟨b, off, none⟩) 1 c, .int .i64 0, .slice none 0 0]) := by show Blk _ _ _ _; rw [hW0]; exact Blk.new' rfl
 have HX0 : Hid (Ext w W0) := by show Ext _ _; rw [hW0]; exact (Ext.refl _).alloc _
 have HS0 := Lib.hid (HX0.out.cell HS.out)
 clear hW0 HS
 go_loopw [28] (fun i wr => (i = .int .i64 0 ∧ wr = W0) ∨ (i = .int .i64 1 ∧ szB s = true ∧ Ext W0 wr)) (fun i _ => 1 - (intOf i).toNat)
 case atStart => exact .inl ⟨rfl, rfl⟩
 case round =>
  rcases hrel with ⟨rfl, rfl⟩ | ⟨rfl, hz, hx⟩
  ·have c0 := HS0.out
   go_wp2_with fail
   refine (chsize_any s _ HSS.out).mono ?_
   rintro e w1 ⟨rfl, he⟩
   have HE := Lib.hid he; clear he
   cases hz : szB s
   ·have HZ := Lib.hid hz; clear hz
    go_wp2_with fail
    go_ret
    exact ⟨ret_int (by unfold szE; rw [HZ.out]; rfl), HX0.out.trans HE.out⟩
   ·have HZ := Lib.hid hz; clear hz
    go_wp2_with fail
    go_roundw
    case rel => exact .inr ⟨by go_num, HZ.out, HE.out⟩
    case measure => simp [intOf]
  have HZ := Lib.hid hz
  obtain ⟨W1, hW1⟩ : ∃ W1 : World, W1 = wr := ⟨_, rfl⟩
  rw [← hW1] at hx ⊢
  clear hW1 hz
  have HB1 := Lib.hid (HB.out.ext hx)
  have HX1 := Lib.hid (HX0.out.trans hx)
  have HS1 := Lib.hid (hx.cell HS0.out)
  clear hx
  have c0 := HB1.out.cell 0; have c1 := HB1.out.cell 1; have c2 := HB1.out.cell 2
  simp only [List.getElem?_cons_succ, List.getElem?_cons_zero] at c0 c1 c2
  have c3 := HS1.out
  go_wp2_with fail
  go_loopw [39] (fun i wr => i = .int .i64 0 ∧ wr = W1) (fun _ _ => 0)
  case atStart => exact ⟨rfl, rfl⟩
  case round =>
   obtain ⟨rfl, hw⟩ := hrel
   obtain rfl : W1 = wr := hw.symm
   go_wp2_with fail
   go_loopw [69] (fun i wr => (i = .int .i64 0 ∧ wr = W1) ∨ (i = .int .i64 1 ∧ Ext W1 wr)) (fun i _ => 1 - (intOf i).toNat)
   case atStart => exact .inl ⟨rfl, rfl⟩
   case round =>
    rcases hrel with ⟨rfl, rfl⟩ | ⟨rfl, hx⟩
    ·go_wp2_with fail
     refine (strContains0 _ c s _).mono ?_
     rintro e w2 ⟨rfl, he⟩
     go_wp2_with fail
     go_roundw
     case rel => exact .inr ⟨by go_num, he⟩
     case measure => simp [intOf]
    obtain ⟨W2, hW2⟩ : ∃ W2 : World, W2 = wr := ⟨_, rfl⟩
    rw [← hW2] at hx ⊢
    clear hW2 c0 c1 c2 c3
    have HB2 := Lib.hid (HB1.out.ext hx)
    have HX2 := Lib.hid (HX1.out.trans hx)
    clear hx
    have c0 := HB2.out.cell 0; have c1 := HB2.out.cell 1; have c2 := HB2.out.cell 2
    simp only [List.getElem?_cons_succ, List.getElem?_cons_zero] at c0 c1 c2
    go_wp2_with fail
    go_loopw [84] (fun i wr => i = .int .i64 0 ∧ wr = W2) (fun _ _ => 0)
    case atStart => exact ⟨rfl, rfl⟩
    case round =>
     obtain ⟨rfl, rfl⟩ := hrel
     go_wp2_with fail
     refine (isIndex1 b off c _).mono ?_
     rintro e w3 ⟨rfl, he⟩
     go_wp2_with fail
     go_ret
     exact ⟨ret_int (by unfold szE; rw [HZ.out]; rfl), HX2.out.trans he⟩
theorem stName_any (s : ByteArray) (w : World) :
  Calls Tryz.prog 49 #[.string s] w fun e w' => e = .returned (.bool (nameB s)) ∧ Ext w w' := by
 go_enter Tryz.func49, Tryz.ntmps49
 go_wp2_with fail
 refine (fCheck_any s _).mono ?_
 rintro e w1 ⟨rfl, hx⟩
 cases hn : nameB s
 ·rw [nameE_f hn]
  have HN := Lib.hid hn; clear hn
  go_wp2_with fail
  go_ret
  exact ⟨ret_bool HN.out.symm, hx⟩
 ·rw [nameE_t hn]
  have HN := Lib.hid hn; clear hn
  go_wp2_with fail
  go_ret
  exact ⟨ret_bool HN.out.symm, hx⟩
theorem stSize_any (s : ByteArray) (w : World) (hs : s.size ≤ 9223372036854775807) :
  Calls Tryz.prog 50 #[.string s] w fun e w' => e = .returned (.bool (szB s)) ∧ Ext w w' := by
 go_enter Tryz.func50, Tryz.ntmps50
 go_wp2_with fail
 refine (chart_one w.heap.size 0 1 s _ (by simp [go_sem]) (by omega) (by omega) hs).mono ?_
 rintro e w1 ⟨rfl, hx⟩
 have HX := Lib.hid (((Ext.refl w).alloc _).trans hx); clear hx
 cases hn : szB s
 ·have he : szE s = 1 := by unfold szE; rw [hn]; rfl
  rw [he]
  have HN := Lib.hid hn; clear hn he
  go_wp2_with fail
  go_ret
  exact ⟨ret_bool HN.out.symm, HX.out⟩
 ·have he : szE s = 0 := by unfold szE; rw [hn]; rfl
  rw [he]
  have HN := Lib.hid hn; clear hn he
  go_wp2_with fail
  go_ret
  exact ⟨ret_bool HN.out.symm, HX.out⟩
/- slices.Contains of numbers -/
theorem mem_take_succ {l : List Int} {k : Nat} {z : Int} (hk : k < l.length) (h0 : ¬ z ∈ l.take k) (h1 : z ≠ gI l k) : ¬ z ∈ l.take (k + 1) := by
 rw [take_succ _ _ hk, List.mem_append, List.mem_singleton, ← gI_eq hk]
 exact fun h => h.elim h0 h1
set_option maxHeartbeats 400000 in
theorem intIndex_any (A : Option Addr) (n c : Nat) (l : List Int) (z : Int) (w : World) (ha : IntsAt w A l) (hl : l.length = n) (hn : n ≤ 9223372036854775807) :
  Calls Tryz.prog 81 #[.slice A n c, .int .i64 z] w fun e w' => ∃ r : Int, e = .returned (.int .i64 r) ∧ decide (0 ≤ r) = decide (z ∈ l) ∧ Ext w w' := by
 have HL := Lib.hid hl; clear hl
 have HA := Lib.hid ha; clear ha
 go_enter Tryz.func81, Tryz.ntmps81
 go_wp2
 go_loopw [8] (fun i wr => ∃ k : Nat, k ≤ n ∧ i = .int .i64 k ∧ ¬ z ∈ l.take k ∧ Ext w wr) (fun i _ => n - (intOf i).toNat)
 case atStart => exact ⟨0, Nat.zero_le _, rfl, by simp, Ext.refl _⟩
 case round =>
  obtain ⟨k, hk, rfl, ht, hx⟩ := hrel
  have HT := Lib.hid ht; clear ht
  have HX := Lib.hid hx; clear hx
  by_cases hlt : k < n
  ·have hkl : k < l.length := by rw [HL.out]; exact hlt
   obtain ⟨b, off, rfl, hc0⟩ := (HA.out.ext HX.out).g hkl
   obtain ⟨v, hv⟩ : ∃ v, v = gI l k := ⟨_, rfl⟩
   rw [← hv] at hc0
   have HV := Lib.hid hv; clear hv
   by_cases hp : z = v
   ·have hpb : (z == v) = true := by simp [hp]
    have HP := Lib.hid hp; clear hp
    go_wp2_with fail
    go_ret
    exact ⟨_, rfl, by rw [decide_eq_true (by omega), decide_eq_true]; rw [HP.out, HV.out, gI_eq hkl]; exact List.getElem_mem _, HX.out⟩
   ·have hpb : (z == v) = false := by simp [hp]
    have HP := Lib.hid hp; clear hp
    go_wp2_with fail
    go_roundw
    case rel => exact ⟨k + 1, by omega, by go_num, mem_take_succ hkl HT.out (by rw [← HV.out]; exact HP.out), HX.out⟩
    case measure => simp [intOf]; omega
  ·obtain rfl : k = n := by omega
   go_wp2_with fail
   go_ret
   exact ⟨_, rfl, by
    have h := HT.out
    rw [List.take_of_length_le (by rw [HL.out]; omega)] at h
    rw [decide_eq_false h]; rfl, HX.out⟩
theorem intContains_any (A : Option Addr) (n c : Nat) (l : List Int) (z : Int) (w : World) (ha : IntsAt w A l) (hl : l.length = n) (hn : n ≤ 9223372036854775807) :
  Calls Tryz.prog 51 #[.slice A n c, .int .i64 z] w fun e w' => e = .returned (.bool (decide (z ∈ l))) ∧ Ext w w' := by
 go_enter Tryz.func51, Tryz.ntmps51
 go_wp2_with fail
 refine (intIndex_any A n c l z _ ha hl hn).mono ?_
 rintro e w1 ⟨r, rfl, hr, he⟩
 have HR := Lib.hid hr; clear hr
 go_wp2_with fail
 go_ret
 exact ⟨ret_bool (by rw [← HR.out]), he⟩
set_option maxRecDepth 100000 in
set_option maxHeartbeats 800000 in
theorem stEdge_any (a : StyA) (x : StyX) (p q : Int) (w : World) (hs : StyXAt w a x) :
  Calls Tryz.prog 22 #[a.val, .int .i64 p, .int .i64 q] w fun e w' => e = .returned (.bool (edgeB x.s p q)) ∧ Ext w w' := by
 have hs := hs.sty
 generalize x.s = s at hs ⊢
 obtain ⟨nm, AS, nS, cS, AM, nM, cM, AP, nP, cP, AU, nU, cU, AK, nK, cK, AO, nO, cO⟩ := a
 have HL : Hid (s.ps.length = nP) := hs.lP
 have HP := Lib.hid hs.P
 clear hs
 simp only [StyA.val] at HP ⊢
 by_cases h0 : 0 ≤ p
 ·by_cases h1 : p < nP
  ·by_cases h2 : 0 ≤ q
   ·obtain ⟨k, rfl⟩ := Int.eq_ofNat_of_zero_le h0
    have hk : k < nP := by omega
    obtain ⟨b, off, pa, hA, hpc, hcc⟩ := (HP.out.ext ((Ext.refl w).alloc (.cells #[.string nm, .slice AS nS cS, .slice AM nM cM, .slice AP nP cP, .slice AU nU cU, .slice AK nK cK, .slice AO nO cO] 29))) k (by rw [HL.out]; exact hk)
    subst hA
    have c1 := hcc.c1
    obtain ⟨nE, hnE⟩ : ∃ n, n = pa.nE := ⟨_, rfl⟩
    rw [← hnE] at c1
    have HE : Hid ((gPc s.ps k).es.length = nE) := by show _ = _; rw [hnE]; exact hpc.le
    clear hpc hcc hnE
    by_cases h3 : q < nE
    ·go_enter Tryz.func22, Tryz.ntmps22
     go_wp2_with fail
     go_ret
     exact ⟨ret_bool (by symm; unfold edgeB; rw [HL.out, Int.toNat_natCast, HE.out]; exact decide_eq_true (by omega)), (Ext.refl _).alloc _⟩
    ·go_enter Tryz.func22, Tryz.ntmps22
     go_wp2_with fail
     go_ret
     exact ⟨ret_bool (by symm; unfold edgeB; rw [HL.out, Int.toNat_natCast, HE.out]; exact decide_eq_false (by omega)), (Ext.refl _).alloc _⟩
   ·go_enter Tryz.func22, Tryz.ntmps22
    go_wp2_with fail
    go_ret
    exact ⟨ret_bool (by symm; unfold edgeB; rw [HL.out]; exact decide_eq_false (by omega)), (Ext.refl _).alloc _⟩
  ·go_enter Tryz.func22, Tryz.ntmps22
   go_wp2_with fail
   go_ret
   exact ⟨ret_bool (by symm; unfold edgeB; rw [HL.out]; exact decide_eq_false (by omega)), (Ext.refl _).alloc _⟩
 ·go_enter Tryz.func22, Tryz.ntmps22
  go_wp2_with fail
  go_ret
  exact ⟨ret_bool (by symm; unfold edgeB; rw [HL.out]; exact decide_eq_false (by omega)), (Ext.refl _).alloc _⟩
def RetPl (w : World) (p : Pc) (m : Int) (e : Ending) (w' : World) : Prop :=
 ∃ v u, e = .returned (.tuple #[v, u, .int .i64 (plE p m)]) ∧ (plE p m = 0 → OwnI w' w.heap.size v (plL p m) ∧ OwnE w' w.heap.size u (gradedE p.es p.cs m)) ∧ (plE p m ≠ 0 → v = .slice none 0 0 ∧ u = .slice none 0 0) ∧ Ext w w'
theorem retPl_bad {w w' : World} {p : Pc} {m x : Int} (h : plE p m = x) (hx : x ≠ 0) (he : Ext w w') : RetPl w p m (.returned (.tuple #[.slice none 0 0, .slice none 0 0, .int .i64 x])) w' :=
 ⟨_, _, by rw [h], fun h0 => absurd (h.symm.trans h0) hx, fun _ => ⟨rfl, rfl⟩, he⟩
set_option maxRecDepth 100000 in
set_option maxHeartbeats 3200000 in
theorem placed_any (a : PcA) (p : Pc) (m : Int) (w : World) (hp : PcAt w a p) :
  Calls Tryz.prog 76 #[a.val, .int .i64 m] w (RetPl w p m) := by
 have HP := Lib.hid hp; clear hp
 have HG := Lib.hid (fun W (h : Ext w W) => graded_any a.nm a.AE a.AN a.AC a.AW a.nE a.cE a.nN a.cN a.nC a.cC a.nW a.cW a.gr m a.mt p.es p.cs W (HP.out.e.ext h) HP.out.le HP.out.ce HP.out.ce' (HP.out.c.ext h) HP.out.lc HP.out.nc)
 obtain ⟨nm, AE, nE, cE, gr, AN, nN, cN, AC, nC, cC, AW, nW, cW, mt⟩ := a
 obtain ⟨es, cs, ws, ns⟩ := p
 simp only at HG
 have HLE : Hid (es.length = nE) := HP.out.le
 have HLN : Hid (ns.length = nN) := HP.out.ln
 have HE : Hid (EdgesAt w AE es) := HP.out.e
 have HN : Hid (SpotsAt w AN ns) := HP.out.n
 have HPE : Hid (plE ⟨es, cs, ws, ns⟩ m = if gradedR es cs m ≠ 0 then gradedR es cs m else if 16 < nN then 5 else firstE (ntE ⟨es, cs, ws, ns⟩ m) nN) := by show _ = _; rw [← HLN.out]; rfl
 have HNT : Hid (∀ i, ntE ⟨es, cs, ws, ns⟩ m i = if (gS ns i).1 < 0 ∨ (es.length : Int) ≤ (gS ns i).1 then 3 else partE (lengthN (gE es (gS ns i).1.toNat).2) (lengthN (gE (gradedE es cs m) (gS ns i).1.toNat).2) (gS ns i).2) := fun i => rfl
 have HPV : Hid (∀ i, plV ⟨es, cs, ws, ns⟩ m i = partV (lengthN (gE es (gS ns i).1.toNat).2) (lengthN (gE (gradedE es cs m) (gS ns i).1.toNat).2) false (gS ns i).2) := fun i => rfl
 have HPL : Hid (plL ⟨es, cs, ws, ns⟩ m = plTo ⟨es, cs, ws, ns⟩ m nN) := by show _ = _; rw [← HLN.out]; rfl
 obtain ⟨pc, hpc⟩ : ∃ pc, pc = (⟨es, cs, ws, ns⟩ : Pc) := ⟨_, rfl⟩
 rw [← hpc] at HPE HNT HPV HPL ⊢
 have HPG : Hid (gradedE pc.es pc.cs m = gradedE es cs m) := by show _ = _; rw [hpc]
 clear hpc
 simp only [PcA.val]
 obtain ⟨i0, hi0, hz0, hz1, hz2⟩ := info_parts int_info
 go_enter Tryz.func76, Tryz.ntmps76
 go_wp2_with fail
 refine (HG.out _ ((Ext.refl _).alloc _)).mono ?_
 rintro e w1 ⟨v1, rfl, hv, hv', he1⟩
 have HB1 : Hid (Blk 40 w1 w.heap.size [.string nm, .slice AE nE cE, .int .i64 gr, .slice AN nN cN, .slice AC nC cC, .slice AW nW cW, .bool mt]) := (Blk.new' rfl).ext he1
 have HX1 := Lib.hid (((Ext.refl w).alloc _).trans he1)
 by_cases hz : gradedR es cs m = 0
 rotate_left
 ·have hvf := hv' hz
  subst hvf
  have HR : Hid (plE pc m = gradedR es cs m) := by show _ = _; rw [HPE.out, if_pos hz]
  have hzb : (gradedR es cs m != 0) = true := by simp [hz]
  obtain ⟨x, hx⟩ : ∃ x, x = gradedR es cs m := ⟨_, rfl⟩
  rw [← hx] at hz hzb HR ⊢
  have HZ := Lib.hid hz; clear hv hv' hz hx he1
  go_wp2_with fail
  go_ret3
  exact retPl_bad HR.out HZ.out HX1.out
 have hO := hv hz
 have HOE := Lib.hid (show OwnE w1 w.heap.size v1 (gradedE es cs m) from by
  obtain ⟨ps, h1, h2⟩ := hO
  refine ⟨ps, ⟨h1.1, fun k hk => ⟨(h1.2 k hk).1, own_base_le (h1.2 k hk).2 ?_⟩⟩, own_base_le h2 ?_⟩ <;> simp)
 have hGOK := (gradedR_iff es cs m).1 hz
 have HLB := Lib.hid (fun k (h : k < es.length) => ocheck_line hGOK.ok h)
 have HLG := Lib.hid (fun k (h : k < es.length) => graded_lines (cs := cs) (m := m) hz h)
 obtain ⟨A1, c1', hvf, hE1, _, _⟩ := OwnE.slice' (n := nE) hO (by rw [gradedE_len]; exact HLE.out)
 subst hvf
 have HGE := Lib.hid hE1
 rw [hz] at HPE ⊢
 clear hv hv' hz hO hE1 he1 hGOK HG
 simp only [ne_eq, not_true_eq_false, if_false] at HPE
 obtain ⟨c0, c1, c2, c3, c4, c5, c6⟩ := blk7 HB1.out
 by_cases h16 : 16 < nN
 ·have HR : Hid (plE pc m = 5) := by show _ = _; rw [HPE.out, if_pos h16]
  go_wp2_with fail
  go_ret3
  exact retPl_bad HR.out (by decide) HX1.out
 rw [if_neg h16] at HPE
 go_wp2_with fail
 clear c0 c1 c2 c3 c4 c5 c6
 go_loopw [9, 32] (fun v i wr => ∃ k : Nat, k ≤ nN ∧ i = .int .i64 k ∧ firstE (ntE pc m) k = 0 ∧ OwnI wr w1.heap.size v (plTo pc m k) ∧ Ext w1 wr) (fun _ i _ => nN - (intOf i).toNat)
 case atStart => exact ⟨0, Nat.zero_le _, rfl, rfl, OwnI.nil _ _, Ext.refl _⟩
 case round =>
  obtain ⟨k, hk, rfl, ht, ho, hx⟩ := hrel
  have HT := Lib.hid ht; clear ht
  have hlk := plTo_len pc m k
  obtain ⟨LK, hLK⟩ : ∃ LK, LK = plTo pc m k := ⟨_, rfl⟩
  rw [← hLK] at ho hlk
  have HLKE := Lib.hid hLK; have HO := Lib.hid ho; have HX := Lib.hid hx; clear hLK ho hx
  have HXw := Lib.hid (HX1.out.trans HX.out)
  by_cases hlt : k < nN
  ·obtain ⟨bn, on, hAN, n0, n1⟩ := (HN.out.ext HXw.out).g (k := k) (by rw [HLN.out]; exact hlt)
   subst hAN
   obtain ⟨nt, hnt⟩ : ∃ nt, nt = gS ns k := ⟨_, rfl⟩
   rw [← hnt] at n0 n1
   have hNTk := HNT.out k
   have hPVk := HPV.out k
   rw [← hnt] at hNTk hPVk
   have HNTk := Lib.hid hNTk; have HPVk := Lib.hid hPVk
   clear hnt hNTk hPVk
   obtain ⟨ed, at'⟩ := nt
   simp only at n0 n1 HNTk HPVk
   obtain ⟨c0, c1, c2, c3, c4, c5, c6⟩ := blk7 (HB1.out.ext HX.out)
   have hpl : w.heap.size < wr.heap.size := (HB1.out.ext HX.out).lt
   by_cases e0 : ed < 0
   ·have HNE : Hid (ntE pc m k = 3) := by show _ = _; rw [HNTk.out, if_pos (Or.inl e0)]
    have HR : Hid (plE pc m = 3) := by show _ = _; rw [HPE.out, firstE_at hlt HT.out (by rw [HNE.out]; decide), HNE.out]
    go_wp2_with fail
    go_ret3
    exact retPl_bad HR.out (by decide) (HXw.out.alloc _)
   by_cases e1 : (nE : Int) ≤ ed
   ·have HNE : Hid (ntE pc m k = 3) := by show _ = _; rw [HNTk.out, if_pos (Or.inr (by rw [HLE.out]; exact e1))]
    have HR : Hid (plE pc m = 3) := by show _ = _; rw [HPE.out, firstE_at hlt HT.out (by rw [HNE.out]; decide), HNE.out]
    go_wp2_with fail
    go_ret3
    exact retPl_bad HR.out (by decide) (HXw.out.alloc _)
   obtain ⟨D, rfl⟩ := Int.eq_ofNat_of_zero_le (show 0 ≤ ed by omega)
   have hD : D < nE := by omega
   have hDl : D < es.length := by rw [HLE.out]; exact hD
   have HNE := HNTk.out
   rw [if_neg (by rw [HLE.out]; omega), Int.toNat_natCast] at HNE
   have HPVd := HPVk.out
   rw [Int.toNat_natCast] at HPVd
   have HNEh := Lib.hid HNE; have HPVh := Lib.hid HPVd
   clear HNE HPVd HNTk HPVk
   have HXL : Hid (Ext wr (wr.alloc (.cells #[.int .i64 (D : Int), .int .i64 at'] 79))) := (Ext.refl _).alloc _
   have HZB := Lib.hid (HLB.out D hDl); have HZG := Lib.hid (HLG.out D hDl)
   obtain ⟨be, oe, L, cL, hAE, l0, l1, hSL, _, _⟩ := (HE.out.ext HXw.out).g (k := D) hDl
   subst hAE
   obtain ⟨lb, hlb⟩ : ∃ lb, lb = (gE es D).2 := ⟨_, rfl⟩
   rw [← hlb] at l1 hSL HZB HNEh HPVh
   clear hlb l0
   have hbe : be < wr.heap.size := cell_lt l1
   obtain ⟨nl, hnl⟩ : ∃ nl, nl = lb.length := ⟨_, rfl⟩
   rw [← hnl] at l1
   have HNL := Lib.hid hnl; have HSL := Lib.hid hSL; clear hnl hSL
   go_wp2_with fail
   refine (length_any L nl cL lb _ (HSL.out.ext HXL.out) HNL.out.symm).mono ?_
   rintro e w2 ⟨rfl, he2⟩
   rw [HZB.out]
   have HNB : Hid (Blk 79 w2 wr.heap.size [.int .i64 (D : Int), .int .i64 at']) := (Blk.new' rfl).ext he2
   have HX2 := Lib.hid ((HX.out.trans HXL.out).trans he2)
   have HXr2 := Lib.hid (HXL.out.trans he2)
   clear he2 c0 c1 c2 c3 c4 c5 c6 n0 n1 l1 hpl hbe
   obtain ⟨bg, og, LG, cG, hAG, g0, g1, hSG, _, _⟩ := (HGE.out.ext HX2.out).g (k := D) (by rw [gradedE_len]; exact hDl)
   subst hAG
   obtain ⟨lg, hlg⟩ : ∃ lg, lg = (gE (gradedE es cs m) D).2 := ⟨_, rfl⟩
   rw [← hlg] at g1 hSG HZG HNEh HPVh
   clear hlg g0
   obtain ⟨ng, hng⟩ : ∃ ng, ng = lg.length := ⟨_, rfl⟩
   rw [← hng] at g1
   have HNG := Lib.hid hng; have HSG := Lib.hid hSG; clear hng hSG
   obtain ⟨b0, b1⟩ := blk2 HNB.out
   go_wp2_with fail
   refine (length_any LG ng cG lg _ HSG.out HNG.out.symm).mono ?_
   rintro e w3 ⟨rfl, he3⟩
   rw [HZG.out]
   have HX3 := Lib.hid (HX2.out.trans he3)
   have HXr3 := Lib.hid (HXr2.out.trans he3)
   have HNB3 := Lib.hid (HNB.out.ext he3)
   clear he3 g1 b0 b1
   obtain ⟨b0, b1⟩ := blk2 HNB3.out
   go_wp2_with fail
   refine (partner_any (lengthN lb : Int) (lengthN lg : Int) at' false _).mono ?_
   rintro e w4 ⟨rfl, he4⟩
   rw [← HNEh.out, ← HPVh.out]
   have HX4 := Lib.hid (HX3.out.trans he4)
   have HXr4 := Lib.hid (HXr3.out.trans he4)
   clear he4 b0 b1
   obtain ⟨PV, hPV⟩ : ∃ PV, PV = plV pc m k := ⟨_, rfl⟩
   obtain ⟨NE, hNE⟩ : ∃ NE, NE = ntE pc m k := ⟨_, rfl⟩
   rw [← hPV, ← hNE]
   have HPVe := Lib.hid hPV; have HNEe := Lib.hid hNE
   clear hPV hNE HNEh HPVh
   by_cases hz : NE = 0
   rotate_left
   ·have HR : Hid (plE pc m = NE) := by show _ = _; rw [HPE.out, firstE_at hlt HT.out (by rw [← HNEe.out]; exact hz), HNEe.out]
    have hzb : (NE != 0) = true := by simp [hz]
    have HZ := Lib.hid hz; clear hz
    go_wp2_with fail
    go_ret3
    exact retPl_bad HR.out HZ.out (HX1.out.trans HX4.out)
   subst hz
   have HT' := Lib.hid (firstE_succ (f := ntE pc m) HT.out HNEe.out.symm)
   have hbb : w1.heap.size ≤ w4.heap.size := HX4.out.size
   have H63 : Hid (LK.length + 1 ≤ maxLen) := by show _ ≤ _; unfold maxLen; omega
   have H64 : Hid ((LK.length + 1) * 8 ≤ 140737488355328) := by show _ ≤ _; omega
   have HC6 : Hid (w1.heap.size ≤ (w4.alloc (.cells #[.int .i64 PV] 3)).heap.size) := by show _ ≤ _; simp; omega
   go_wp2_with (at_builtin; refine wpList_append_own _ rfl (.tmp 85) (.tmp 87) 23 rfl w1.heap.size 3 i0 (.int .i64 0) 1 8 Tryz.underlying23 hi0 hz0 hz1 hz2 rfl (by decide) _ _ _ rfl (World.ownsRow.alloc (own_ext HO.out HXr4.out) _) ⟨w4.heap.size, 0, none⟩ 1 1 [.int .i64 PV] rfl rfl (World.news_of_block (cs := #[.int .i64 PV]) (t := 3) (fr := (0, 0)) (heap_alloc_new w4 _)) (by simp [Value.oneCell']) H63.out H64.out HC6.out ?_)
   intro v' w5 hown' hgrow _
   have hO' : OwnI w5 w1.heap.size v' (plTo pc m (k + 1)) := by
    rw [plTo_succ, ← HLKE.out, ← HPVe.out]
    unfold OwnI icells
    rw [List.length_append, List.map_append, hlk]
    exact hown'
   have hx' : Ext w1 w5 := (HX4.out.alloc _).grown hgrow (fun g hg => (World.ownsRow.lt HO.out g hg).1)
   have HO' := Lib.hid hO'; clear hO' hown' hgrow
   go_wp2_with fail
   go_roundw
   case rel => exact ⟨k + 1, by omega, by go_num, HT'.out, HO'.out, hx'⟩
   case measure => simp [intOf]; omega
  ·obtain rfl : k = nN := by omega
   go_wp2_with fail
   go_ret3
   have hE0 : plE pc m = 0 := by rw [HPE.out]; exact HT.out
   refine ⟨_, _, by rw [hE0]; rfl, fun _ => ⟨?_, ?_⟩, fun h => absurd hE0 h, HXw.out⟩
   ·rw [HPL.out, ← HLKE.out]
    exact own_base_le HO.out HX1.out.size
   ·rw [HPG.out]
    exact HOE.out.ext HX.out
def RetPd (w : World) (p : Pc) (m : Int) (e : Ending) (w' : World) : Prop :=
 ∃ v, e = .returned (.tuple #[v, .int .i64 (plE p m)]) ∧ (plE p m = 0 → OwnI w' w.heap.size v (plL p m)) ∧ (plE p m ≠ 0 → v = .slice none 0 0) ∧ Ext w w'
set_option maxRecDepth 100000 in
theorem placedX_any (a : PcA) (p : Pc) (m : Int) (w : World) (hp : PcAt w a p) :
  Calls Tryz.prog 47 #[a.val, .int .i64 m] w (RetPd w p m) := by
 have HC := Lib.hid (fun W (h : Ext w W) => placed_any a p m W (hp.ext h)); clear hp
 obtain ⟨nm, AE, nE, cE, gr, AN, nN, cN, AC, nC, cC, AW, nW, cW, mt⟩ := a
 simp only [PcA.val] at HC ⊢
 go_enter Tryz.func47, Tryz.ntmps47
 go_wp2_with fail
 refine (HC.out _ ((Ext.refl _).alloc _)).mono ?_
 rintro e w1 ⟨v, u, rfl, h1, h2, he1⟩
 have HX1 := Lib.hid (((Ext.refl w).alloc _).trans he1); clear he1
 obtain ⟨E, hE⟩ : ∃ E, E = plE p m := ⟨_, rfl⟩
 rw [← hE] at h1 h2 ⊢
 have HE := Lib.hid hE; have H1 := Lib.hid h1; have H2 := Lib.hid h2; clear hE h1 h2
 go_wp2_with fail
 go_ret2
 refine ⟨v, by rw [← HE.out]; rfl, fun h => ?_, fun h => (H2.out (by rw [HE.out]; exact h)).1, HX1.out⟩
 exact own_base_le (H1.out (by rw [HE.out]; exact h)).1 (by simp)
theorem gPx_take {l : List PcX} {n k : Nat} (h : k < n) (hn : n ≤ l.length) : gPx (l.take n) k = gPx l k := by
 rw [gPx_eq (by rw [List.length_take]; omega), gPx_eq (by omega)]; simp
def pdupF (l : List PcX) (k j : Nat) : Bool := decide ((gPx l j).nm.data.toList = (gPx l k).nm.data.toList)
theorem any_at {f : Nat → Bool} {n j : Nat} (hj : j < n) (h : f j = true) : (List.range n).any f = true := List.any_eq_true.2 ⟨j, List.mem_range.2 hj, h⟩
theorem any_none {f : Nat → Bool} {n : Nat} (h : ∀ j, j < n → f j = false) : (List.range n).any f = false := by
 rw [Bool.eq_false_iff]
 intro hc
 obtain ⟨j, hj, h1⟩ := List.any_eq_true.1 hc
 rw [h j (List.mem_range.1 hj)] at h1; cases h1
theorem str_eq (s t : ByteArray) : (s.toList == t.toList) = decide (s.data.toList = t.data.toList) := by
 rw [ByteArray.toList_eq, ByteArray.toList_eq]
 by_cases h : s.data.toList = t.data.toList
 ·rw [decide_eq_true h, h]; simp
 ·rw [decide_eq_false h]; simpa using h
/- the chain of checks of a piece, one lemma a way out -/
def pE2 (l : List PcX) (k : Nat) : Int :=
 if gradedR (gPx l k).p.es (gPx l k).p.cs 0 ≠ 0 then gradedR (gPx l k).p.es (gPx l k).p.cs 0
 else if plE (gPx l k).p 0 ≠ 0 then plE (gPx l k).p 0
 else if (gPx l k).p.ws.length ≠ (gPx l k).p.es.length then 1
 else if allB (fun i => decide (0 ≤ gI (gPx l k).p.ws i ∧ gI (gPx l k).p.ws i ≤ 500)) (gPx l k).p.ws.length = false then 3 else 0
theorem pieceE_1 {l : List PcX} {k : Nat} (h : nameB (gPx l k).nm = false) : pieceE l k = 1 := by unfold pieceE; rw [if_pos h]
theorem pieceE_2 {l : List PcX} {k : Nat} (h : (gPx l k).gr ≠ 1 ∧ (gPx l k).gr ≠ 2 ∧ (gPx l k).gr ≠ 4) : pieceE l k = 1 := by
 unfold pieceE
 by_cases hh : nameB (gPx l k).nm = false
 ·rw [if_pos hh]
 ·rw [if_neg hh, if_pos h]
theorem pieceE_3 {l : List PcX} {k : Nat} (h1 : nameB (gPx l k).nm = true) (h2 : ¬ ((gPx l k).gr ≠ 1 ∧ (gPx l k).gr ≠ 2 ∧ (gPx l k).gr ≠ 4)) : pieceE l k = if (List.range k).any (pdupF l k) = true then 7 else pE2 l k := by
 unfold pieceE; rw [if_neg (by rw [h1]; simp), if_neg h2]; rfl
set_option maxRecDepth 100000 in
set_option maxHeartbeats 3200000 in
theorem checkPiece_any (A : Option Addr) (l : List PcX) (k c : Nat) (a : PcA) (w : World) (hP : PiecesX w A (l.take k)) (hk : k < l.length) (hb : k ≤ 9223372036854775807) (hp : PcAt w a (gPx l k).p) (hn : a.nm = (gPx l k).nm) (hg : a.gr = (gPx l k).gr) :
  Calls Tryz.prog 21 #[.slice A k c, a.val] w fun e w' => e = .returned (.int .i64 (pieceE l k)) ∧ Ext w w' := by
 have HP := Lib.hid hP; clear hP
 have HK := Lib.hid hk; clear hk
 have HA := Lib.hid hp; clear hp
 have HPL := Lib.hid (fun W (h : Ext w W) => placedX_any a (gPx l k).p 0 W (HA.out.ext h))
 have HG := Lib.hid (fun W (h : Ext w W) => graded_any a.nm a.AE a.AN a.AC a.AW a.nE a.cE a.nN a.cN a.nC a.cC a.nW a.cW a.gr 0 a.mt (gPx l k).p.es (gPx l k).p.cs W (HA.out.e.ext h) HA.out.le HA.out.ce HA.out.ce' (HA.out.c.ext h) HA.out.lc HA.out.nc)
 obtain ⟨nm, AE, nE, cE, gr, AN, nN, cN, AC, nC, cC, AW, nW, cW, mt⟩ := a
 have HNM : Hid (nm = (gPx l k).nm) := hn
 have HGR : Hid (gr = (gPx l k).gr) := hg
 clear hn hg
 have HLW : Hid ((gPx l k).p.ws.length = nW) := HA.out.li
 have HLE : Hid ((gPx l k).p.es.length = nE) := HA.out.le
 have HW := Lib.hid HA.out.i
 have hbW : nW ≤ 9223372036854775807 := HA.out.nw
 simp only [PcA.val] at HPL HG HW ⊢
 obtain ⟨PE, hPE⟩ : ∃ PE, PE = pieceE l k := ⟨_, rfl⟩
 rw [← hPE]
 have HPE := Lib.hid hPE; clear hPE
 go_enter Tryz.func21, Tryz.ntmps21
 go_wp2_with fail
 refine (stName_any nm _).mono ?_
 rintro e w1 ⟨rfl, he1⟩
 have HB1 : Hid (Blk 40 w1 w.heap.size [.string nm, .slice AE nE cE, .int .i64 gr, .slice AN nN cN, .slice AC nC cC, .slice AW nW cW, .bool mt]) := (Blk.new' rfl).ext he1
 have HX1 := Lib.hid (((Ext.refl w).alloc _).trans he1)
 clear he1
 obtain ⟨c0, c1, c2, c3, c4, c5, c6⟩ := blk7 HB1.out
 cases hnb : nameB nm
 ·have HR : Hid (PE = 1) := by show _ = _; rw [HPE.out, pieceE_1 (by rw [← HNM.out]; exact hnb)]
  clear hnb
  go_wp2_with fail
  go_ret
  exact ⟨ret_int HR.out.symm, HX1.out⟩
 have HNB : Hid (nameB (gPx l k).nm = true) := by show _ = _; rw [← HNM.out]; exact hnb
 clear hnb
 by_cases hgr : gr ≠ 1 ∧ gr ≠ 2 ∧ gr ≠ 4
 ·have HR : Hid (PE = 1) := by show _ = _; rw [HPE.out, pieceE_2 (by rw [← HGR.out]; exact hgr)]
  obtain ⟨g1, g2, g4⟩ := hgr
  have g1b : (gr != 1) = true := by simp [g1]
  have g2b : (gr != 2) = true := by simp [g2]
  have g4b : (gr != 4) = true := by simp [g4]
  clear g1 g2 g4
  go_wp2_with fail
  go_ret
  exact ⟨ret_int HR.out.symm, HX1.out⟩
 have HR3 := Lib.hid (pieceE_3 HNB.out (by rw [← HGR.out]; exact hgr))
 rw [← HPE.out] at HR3
 have hgd : gr = 1 ∨ gr = 2 ∨ gr = 4 := by omega
 clear hgr
 go_upto_region 3 with fail
 go_cut [29] from 17 to 29 (fun v wc => v = .bool false ∧ wc = w1)
 case first =>
  rcases hgd with h | h | h
  ·subst h
   go_wp2_with fail
   go_meet
   case rel => exact ⟨rfl, rfl⟩
  ·subst h
   go_wp2_with fail
   go_meet
   case rel => exact ⟨rfl, rfl⟩
  ·subst h
   go_wp2_with fail
   go_meet
   case rel => exact ⟨rfl, rfl⟩
 case rest =>
  obtain ⟨hcv, hw⟩ := hcut
  subst hcv
  obtain rfl : w1 = wc := hw.symm
  go_wp2_with fail
  clear c0 c1 c2 c3 c4 c5 c6
  go_loopw [32] (fun i wr => ∃ j : Nat, j ≤ k ∧ i = .int .i64 j ∧ (∀ q, q < j → pdupF l k q = false) ∧ Ext w1 wr) (fun i _ => k - (intOf i).toNat)
  case atStart => exact ⟨0, Nat.zero_le _, rfl, fun j hj => absurd hj (Nat.not_lt_zero _), Ext.refl _⟩
  case round =>
   obtain ⟨j, hj, rfl, hall, hx⟩ := hrel
   have HALL := Lib.hid hall; have HX := Lib.hid hx; clear hall hx
   obtain ⟨c0, c1, c2, c3, c4, c5, c6⟩ := blk7 (HB1.out.ext HX.out)
   by_cases hlt : j < k
   ·obtain ⟨bp, op, q, hAP, hpA, hcA, hqn, hqg⟩ := (HP.out.ext (HX1.out.trans HX.out)) j (by rw [List.length_take]; have := HK.out; omega)
    subst hAP
    clear hpA hqg
    rw [gPx_take hlt (Nat.le_of_lt HK.out)] at hqn
    obtain ⟨pnm, pAE, pnE, pcE, pgr, pAN, pnN, pcN, pAC, pnC, pcC, pAW, pnW, pcW, pmt⟩ := q
    obtain ⟨a0, a1, a2, a3, a4, a5, a6⟩ := hcA
    simp only at a0 a1 a2 a3 a4 a5 a6 hqn
    have HQN := Lib.hid hqn; clear hqn
    have hpl : w.heap.size < wr.heap.size := (HB1.out.ext HX.out).lt
    have HAL : Hid (Ext w1 (wr.alloc (.cells #[.string pnm, .slice pAE pnE pcE, .int .i64 pgr, .slice pAN pnN pcN, .slice pAC pnC pcC, .slice pAW pnW pcW, .bool pmt] 40))) := HX.out.alloc _
    cases heq : (pnm.toList == nm.toList)
    ·have HD : Hid (pdupF l k j = false) := by show _ = _; unfold pdupF; rw [← HQN.out, ← HNM.out, ← str_eq]; exact heq
     go_wp2_with fail
     go_roundw
     case rel => exact ⟨j + 1, by omega, by go_num, fun q hq => by
      rcases Nat.lt_succ_iff_lt_or_eq.1 hq with h | h
      ·exact HALL.out q h
      ·subst h; exact HD.out, HAL.out⟩
     case measure => simp [intOf]; omega
    ·have HD : Hid (pdupF l k j = true) := by show _ = _; unfold pdupF; rw [← HQN.out, ← HNM.out, ← str_eq]; exact heq
     have HR : Hid (PE = 7) := by show _ = _; rw [HR3.out, if_pos (any_at hlt HD.out)]
     go_wp2_with fail
     go_ret
     exact ⟨ret_int HR.out.symm, HX1.out.trans HAL.out⟩
   obtain rfl : j = k := by omega
   have HR4 : Hid (PE = pE2 l j) := by show _ = _; rw [HR3.out, if_neg (by rw [any_none HALL.out]; simp)]
   clear HALL HR3
   obtain ⟨W1, hW1⟩ : ∃ W1 : World, W1 = wr := ⟨_, rfl⟩
   rw [← hW1] at c0 c1 c2 c3 c4 c5 c6 HX ⊢
   clear hW1
   have HXW := Lib.hid (HX1.out.trans HX.out)
   have HBW := Lib.hid (HB1.out.ext HX.out)
   obtain ⟨es, hes⟩ : ∃ es, es = (gPx l j).p.es := ⟨_, rfl⟩
   obtain ⟨GR, hGR⟩ : ∃ GR, GR = gradedR (gPx l j).p.es (gPx l j).p.cs 0 := ⟨_, rfl⟩
   have HGC := Lib.hid (HG.out W1 HXW.out)
   have HGE := Lib.hid hGR
   go_wp2_with fail
   refine HGC.out.mono ?_
   rintro e w2 ⟨v1, rfl, hv, hv', he2⟩
   rw [← hGR] at hv hv' ⊢
   have HX2 := Lib.hid (HXW.out.trans he2)
   have HB2 := Lib.hid (HBW.out.ext he2)
   clear he2 hv hv' hGR HGC
   clear c0 c1 c2 c3 c4 c5 c6
   obtain ⟨c0, c1, c2, c3, c4, c5, c6⟩ := blk7 HB2.out
   by_cases hz : GR = 0
   rotate_left
   ·have hzb : (GR != 0) = true := by simp [hz]
    have HR : Hid (PE = GR) := by show _ = _; rw [HR4.out]; unfold pE2; rw [if_pos (by rw [← HGE.out]; exact hz), HGE.out]
    clear hz
    go_wp2_with fail
    go_ret
    exact ⟨ret_int HR.out.symm, HX2.out⟩
   have HZ := Lib.hid hz
   subst hz
   obtain ⟨PL, hPL⟩ : ∃ PL, PL = plE (gPx l j).p 0 := ⟨_, rfl⟩
   have HPC := Lib.hid (HPL.out w2 HX2.out)
   have HPLE := Lib.hid hPL
   go_wp2_with fail
   refine HPC.out.mono ?_
   rintro e w3 ⟨v2, rfl, _, _, he3⟩
   rw [← hPL]
   have HX3 := Lib.hid (HX2.out.trans he3)
   have HB3 := Lib.hid (HB2.out.ext he3)
   clear he3 hPL HPC
   clear c0 c1 c2 c3 c4 c5 c6
   obtain ⟨c0, c1, c2, c3, c4, c5, c6⟩ := blk7 HB3.out
   by_cases hz : PL = 0
   rotate_left
   ·have hzb : (PL != 0) = true := by simp [hz]
    have HR : Hid (PE = PL) := by show _ = _; rw [HR4.out]; unfold pE2; rw [if_neg (by rw [← HGE.out]; simp), if_pos (by rw [← HPLE.out]; exact hz), HPLE.out]
    clear hz
    go_wp2_with fail
    go_ret
    exact ⟨ret_int HR.out.symm, HX3.out⟩
   subst hz
   by_cases hwl : nW = nE
   rotate_left
   ·have hwb : ((nW : Int) != (nE : Int)) = true := by simp; omega
    have HR : Hid (PE = 1) := by show _ = _; rw [HR4.out]; unfold pE2; rw [if_neg (by rw [← HGE.out]; simp), if_neg (by rw [← HPLE.out]; simp), if_pos (by rw [HLW.out, HLE.out]; exact hwl)]
    clear hwl
    go_wp2_with fail
    go_ret
    exact ⟨ret_int HR.out.symm, HX3.out⟩
   have HR5 : Hid (PE = if allB (fun i => decide (0 ≤ gI (gPx l j).p.ws i ∧ gI (gPx l j).p.ws i ≤ 500)) nW = false then 3 else 0) := by
    show _ = _; rw [HR4.out]; unfold pE2; rw [if_neg (by rw [← HGE.out]; simp), if_neg (by rw [← HPLE.out]; simp), if_neg (by rw [HLW.out, HLE.out]; exact fun h => h hwl), HLW.out]
   have hwb : ((nW : Int) != (nE : Int)) = false := by simp; omega
   clear hwl
   go_wp2_with fail
   clear c0 c1 c2 c3 c4 c5 c6
   go_loopw [68] (fun i wr => ∃ m : Nat, m ≤ nW ∧ i = .int .i64 m ∧ allB (fun i => decide (0 ≤ gI (gPx l j).p.ws i ∧ gI (gPx l j).p.ws i ≤ 500)) m = true ∧ Ext w3 wr) (fun i _ => nW - (intOf i).toNat)
   case atStart => exact ⟨0, Nat.zero_le _, rfl, rfl, Ext.refl _⟩
   case round =>
    obtain ⟨m, hm, rfl, hall, hx⟩ := hrel
    have HALL := Lib.hid hall; have HX := Lib.hid hx; clear hall hx
    by_cases hlt : m < nW
    ·obtain ⟨bw, ow, hAW, d0⟩ := (HW.out.ext (HX3.out.trans HX.out)).g (k := m) (by rw [HLW.out]; exact hlt)
     subst hAW
     obtain ⟨v, hv⟩ : ∃ v, v = gI (gPx l j).p.ws m := ⟨_, rfl⟩
     rw [← hv] at d0
     have HV := Lib.hid hv; clear hv
     by_cases g0 : v < 0
     ·have HR : Hid (PE = 3) := by show _ = _; rw [HR5.out, if_pos (allB_false hlt (by rw [← HV.out]; exact decide_eq_false (by omega)))]
      go_wp2_with fail
      go_ret
      exact ⟨ret_int HR.out.symm, HX3.out.trans HX.out⟩
     by_cases g1 : 500 < v
     ·have HR : Hid (PE = 3) := by show _ = _; rw [HR5.out, if_pos (allB_false hlt (by rw [← HV.out]; exact decide_eq_false (by omega)))]
      go_wp2_with fail
      go_ret
      exact ⟨ret_int HR.out.symm, HX3.out.trans HX.out⟩
     have HD : Hid (decide (0 ≤ gI (gPx l j).p.ws m ∧ gI (gPx l j).p.ws m ≤ 500) = true) := by show _ = _; rw [← HV.out]; exact decide_eq_true (by omega)
     go_wp2_with fail
     go_roundw
     case rel => exact ⟨m + 1, by omega, by go_num, allB_succ HALL.out HD.out, HX.out⟩
     case measure => simp [intOf]; omega
    ·obtain rfl : m = nW := by omega
     have HR : Hid (PE = 0) := by show _ = _; rw [HR5.out, if_neg (by rw [HALL.out]; simp)]
     go_wp2_with fail
     go_ret
     exact ⟨ret_int HR.out.symm, HX3.out.trans HX.out⟩
end Go.Proofs.YtfegbaokcbjllaaGreat
