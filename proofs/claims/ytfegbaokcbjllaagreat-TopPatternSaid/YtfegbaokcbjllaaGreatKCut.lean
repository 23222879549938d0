/- style.Cut on a style without an error, within its ranges -/
import Derived.Maps.OwnOps
import Derived.Maps.Views
import Derived.StringKeys
import Derived.Test.YtfegbaokcbjllaaGreatKStP
import Derived.Test.YtfegbaokcbjllaaGreatKAlw5
/- a map of bools that the call makes: the look-up; which strings it knows. No program in sight but the laws' P. -/
namespace Go.Proofs.YtfegbaokcbjllaaGreat
open Go.RowKit Go.Maps
section
variable {H : Type} {P : Program}
theorem plainElem_bool_inv {e : TypeId} (he : P.underlying e = some .bool) {v : Value} {z : DataW H × List MemPlace} (h : plainElem P e v = some z) : ∃ x, v = .bool x ∧ z = (.lit (.bool x), []) := by
 unfold plainElem at h
 rw [he] at h
 cases v <;> simp at h
 subst h
 exact ⟨_, rfl, rfl⟩
theorem lookup_bool {w : World} {k t e : TypeId} {b n : Nat} {D : DataW H} (h : w.ownsMap P k (plainElem P e) b n D) (K : Keyed P k) (ht : P.underlying t = some (.map k e)) (he : P.underlying e = some .bool) (hz : (zeroValue e).run P w = .ok (.bool false) w)
  {key : Value} {kl : Lit} (hkey : keyOf P k key = some kl) : ∃ c, (Instr.lookup t (.map (some b)) key false).run P w = .ok (.bool c) w ∧ D.atKey kl (.lit (.bool false)) = .lit (.bool c) := by
 obtain ⟨v, ps, hrun, hv⟩ := h.lookup K ht hz (plainElem_bool he false) hkey
 obtain ⟨c, rfl, hc⟩ := plainElem_bool_inv he hv
 simp only [Prod.mk.injEq] at hc
 exact ⟨c, hrun, hc.1⟩
theorem wpList_lookup_own_bool (w : World) {ops : Array Oper} {rest : List Oper} {o : Oper} {a : Act} {Q : Exit → Act → World → Prop}
  (hg : o.guard = none) (m x : Operand) (t : TypeId) (hop : o.op = Op.lookup t m x false)
  (k e : TypeId) (K : Keyed P k) (ht : P.underlying t = some (.map k e)) (he : P.underlying e = some .bool) (hz : (zeroValue e).run P w = .ok (.bool false) w) (b n : Nat) (D : DataW H)
  (hm : a.eval m = .map (some b)) (hown : w.ownsMap P k (plainElem P e) b n D) (key : Value) (kl : Lit) (hx : a.eval x = key) (hkey : keyOf P k key = some kl)
  (hK : ∀ c : Bool, D.atKey kl (.lit (.bool false)) = .lit (.bool c) → wpList P ops Q rest (a.put o.dst (.bool c)) w) :
  wpList P ops Q (o :: rest) a w := by
 refine wpList_plain hg fun K' hK' => ?_
 obtain ⟨c, hrun, hat⟩ := lookup_bool hown K ht he hz hkey
 unfold Oper.wp
 simp [execOp, hop, hm, hx, hrun, Result.andThen]
 exact hK' _ _ (hK c hat)
/- the strings that have been laid in -/
def knownD : List ByteArray → DataW H
 |[] => .map []
 |s :: l => (knownD l).put (.string s.data.toList) (.lit (.bool true))
theorem known_map : ∀ l : List ByteArray, IsMap (knownD (H := H) l)
 |[] => isMap_empty
 |_ :: l => (known_map l).put _ _
theorem known_at (l : List ByteArray) (s : ByteArray) : (knownD (H := H) l).atKey (.string s.data.toList) (.lit (.bool false)) = .lit (.bool (decide (s.data.toList ∈ l.map fun x => x.data.toList))) := by
 induction l with
 |nil => rfl
 |cons x l ih =>
  unfold knownD
  by_cases h : s.data.toList = x.data.toList
  ·rw [h, atKey_put_same (k := .string x.data.toList) (known_map l) (by simp [WideAt.IsKeyLit])]
   simp
  ·rw [atKey_put_other (by intro e; injection e with e; exact h e)]
   rw [ih]
   simp [h]
end
end Go.Proofs.YtfegbaokcbjllaaGreat
/- style.checkWhole -/
namespace Go.Proofs.YtfegbaokcbjllaaGreat
open Go.RowKit Go.Maps Go.WideMaps
theorem zeroB (w : World) : (zeroValue 4).run Tryz.prog w = .ok (.bool false) w := by kernel_rfl
theorem strK : Keyed Tryz.prog 9 := string_keyed Tryz.underlying9
def KnownW (w : World) (M j : Nat) (l : List ByteArray) : Prop := w.ownsMap Tryz.prog 9 (plainElem (H := Unit) Tryz.prog 4) M j (knownD l.reverse)
theorem szDupF_known (l : List ByteArray) (i : Nat) : (knownD (H := Unit) (l.take i).reverse).atKey (.string (gB l i).data.toList) (.lit (.bool false)) = .lit (.bool (szDupF l i)) := by
 rw [known_at]
 unfold szDupF
 simp only [List.map_reverse, List.mem_reverse]
theorem known_next {l : List ByteArray} {i : Nat} (h : i < l.length) : knownD (H := Unit) (l.take (i + 1)).reverse = (knownD (l.take i).reverse).put (.string (gB l i).data.toList) (.lit (.bool true)) := by
 rw [take_succ _ _ h, List.reverse_append, ← gB_eq h]; rfl
/- the chain of checks -/
def wh6 (x : StyX) : Int := if allB (fun i => decide (-100 ≤ gI x.ms i ∧ gI x.ms i ≤ 100)) x.ms.length = false then 3 else 0
def wh5 (x : StyX) : Int := if 24 < x.ss.length ∨ 16 < x.no then 5 else wh6 x
def wh4 (x : StyX) : Int := if 12 < x.sz.length ∨ 12 < x.ps.length ∨ 12 < x.us.length then 5 else wh5 x
def wh3 (x : StyX) : Int := if szDup x.sz x.sz.length = true then 7 else wh4 x
def wh2 (x : StyX) : Int := if x.ms.length ≠ x.sz.length ∨ ¬ (0 : Int) ∈ x.ms then 1 else wh3 x
def wh1 (x : StyX) : Int := if allB (fun i => szB (gB x.sz i)) x.sz.length = false then 1 else wh2 x
theorem whole_eq (x : StyX) : wholeE x = if nameB x.nm = false ∨ x.sz.length = 0 then 1 else wh1 x := rfl
set_option maxRecDepth 100000 in
set_option maxHeartbeats 6400000 in
theorem checkWhole_any (a : StyA) (x : StyX) (w : World) (hs : StyXAt w a x) (hN : x.sz.length ≤ 1000) (hZ : ∀ k, k < x.sz.length → (gB x.sz k).size ≤ 9223372036854775807) :
  Calls Tryz.prog 20 #[a.val] w fun e w' => e = .returned (.int .i64 (wholeE x)) ∧ Ext w w' := by
 have HS := Lib.hid hs; clear hs
 have HN := Lib.hid hN; clear hN
 have HZ := Lib.hid hZ; clear hZ
 obtain ⟨nm, AS, nS, cS, AM, nM, cM, AP, nP, cP, AU, nU, cU, AK, nK, cK, AO, nO, cO⟩ := a
 have HLS : Hid (x.sz.length = nS) := HS.out.lS
 have HLM : Hid (x.ms.length = nM) := HS.out.lM
 have HLP : Hid (x.ps.length = nP) := HS.out.lP
 have HLU : Hid (x.us.length = nU) := HS.out.lU
 have HLK : Hid (x.ss.length = nK) := HS.out.lK
 have HLO : Hid (nO = x.no) := HS.out.lO
 have HNM : Hid (nm = x.nm) := HS.out.nm
 have HSS := Lib.hid HS.out.S
 have HMS := Lib.hid HS.out.M
 have hbM : nM ≤ 9223372036854775807 := HS.out.bM
 have hnS : nS ≤ 1000 := by have := HN.out; have := HLS.out; omega
 simp only [StyA.val] at HSS HMS ⊢
 clear HS
 obtain ⟨WE, hWE⟩ : ∃ WE, WE = wholeE x := ⟨_, rfl⟩
 rw [← hWE]
 rw [whole_eq] at hWE
 have HWE := Lib.hid hWE; clear hWE
 have hmm := @run_makeMap Tryz.prog
 go_enter Tryz.func20, Tryz.ntmps20
 go_wp2_with fail
 refine (stName_any nm _).mono ?_
 rintro e w1 ⟨rfl, he1⟩
 have HB1 : Hid (Blk 29 w1 w.heap.size [.string nm, .slice AS nS cS, .slice AM nM cM, .slice AP nP cP, .slice AU nU cU, .slice AK nK cK, .slice AO nO cO]) := (Blk.new' rfl).ext he1
 have HX1 := Lib.hid (((Ext.refl w).alloc _).trans he1)
 clear he1
 obtain ⟨c0, c1, c2, c3, c4, c5, c6⟩ := blk7 HB1.out
 cases hnb : nameB nm
 ·have HR : Hid (WE = 1) := by show _ = _; rw [HWE.out, if_pos (Or.inl (by rw [← HNM.out]; exact hnb))]
  clear hnb
  go_wp2_with fail
  go_ret
  exact ⟨ret_int HR.out.symm, HX1.out⟩
 by_cases hs0 : nS = 0
 ·have HR : Hid (WE = 1) := by show _ = _; rw [HWE.out, if_pos (Or.inr (by rw [HLS.out]; exact hs0))]
  have hsb : ((nS : Int) == 0) = true := by simp [hs0]
  clear hnb hs0
  go_wp2_with fail
  go_ret
  exact ⟨ret_int HR.out.symm, HX1.out⟩
 have HR1 : Hid (WE = wh1 x) := by
  show _ = _; rw [HWE.out, if_neg]
  rw [← HNM.out, hnb, HLS.out]; simp; exact hs0
 have hsb : ((nS : Int) == 0) = false := by simp; exact hs0
 clear hnb hs0
 go_wp2_with fail
 clear c0 c1 c2 c3 c4 c5 c6 hsb
 go_loopw [23] (fun i wr => ∃ j : Nat, j ≤ nS ∧ i = .int .i64 j ∧ allB (fun i => szB (gB x.sz i)) j = true ∧ Ext w1 wr) (fun i _ => nS - (intOf i).toNat)
 case atStart => exact ⟨0, Nat.zero_le _, rfl, rfl, Ext.refl _⟩
 case round =>
  obtain ⟨j, hj, rfl, hall, hx⟩ := hrel
  have HALL := Lib.hid hall; have HX := Lib.hid hx; clear hall hx
  by_cases hlt : j < nS
  ·obtain ⟨b, off, hA, d0⟩ := (HSS.out.ext (HX1.out.trans HX.out)) j (by rw [HLS.out]; exact hlt)
   subst hA
   have HZJ := Lib.hid (HZ.out j (by rw [HLS.out]; exact hlt))
   obtain ⟨s, hs⟩ : ∃ s, s = gB x.sz j := ⟨_, rfl⟩
   rw [← hs] at d0 HZJ
   have HSJ := Lib.hid hs; clear hs
   go_wp2_with fail
   refine (stSize_any s _ HZJ.out).mono ?_
   rintro e w2 ⟨rfl, he⟩
   have HE := Lib.hid (HX.out.trans he); clear he
   cases hz : szB s
   ·have HR : Hid (WE = 1) := by show _ = _; rw [HR1.out]; unfold wh1; rw [if_pos (allB_false (by rw [HLS.out]; exact hlt) (by rw [← HSJ.out]; exact hz))]
    clear hz
    go_wp2_with fail
    go_ret
    exact ⟨ret_int HR.out.symm, HX1.out.trans HE.out⟩
   ·have HT : Hid (szB (gB x.sz j) = true) := by show _ = _; rw [← HSJ.out]; exact hz
    clear hz
    go_wp2_with fail
    go_roundw
    case rel => exact ⟨j + 1, by omega, by go_num, allB_succ HALL.out HT.out, HE.out⟩
    case measure => simp [intOf]; omega
  obtain rfl : j = nS := by omega
  have HR2 : Hid (WE = wh2 x) := by show _ = _; rw [HR1.out]; unfold wh1; rw [if_neg (by rw [HLS.out, HALL.out]; simp)]
  clear HALL HR1 hj hlt
  obtain ⟨W1, hW1⟩ : ∃ W1 : World, W1 = wr := ⟨_, rfl⟩
  rw [← hW1] at HX ⊢
  clear hW1
  have HXW := Lib.hid (HX1.out.trans HX.out)
  have HBW := Lib.hid (HB1.out.ext HX.out)
  clear HX
  obtain ⟨c0, c1, c2, c3, c4, c5, c6⟩ := blk7 HBW.out
  by_cases hml : nM = j
  rotate_left
  ·have HR : Hid (WE = 1) := by show _ = _; rw [HR2.out]; unfold wh2; rw [if_pos (Or.inl (by rw [HLM.out, HLS.out]; exact hml))]
   have hmb : ((nM : Int) != (j : Int)) = true := by simp; omega
   clear hml
   go_wp2_with fail
   go_ret
   exact ⟨ret_int HR.out.symm, HXW.out⟩
  have HML := Lib.hid hml
  have hmb : ((nM : Int) != (j : Int)) = false := by simp; omega
  clear hml
  go_wp2_with fail
  refine (intContains_any AM nM cM x.ms 0 _ (HMS.out.ext HXW.out) HLM.out hbM).mono ?_
  rintro e w2 ⟨rfl, he2⟩
  have HX2 := Lib.hid (HXW.out.trans he2)
  have HB2 := Lib.hid (HBW.out.ext he2)
  clear he2 c0 c1 c2 c3 c4 c5 c6 HXW HBW
  obtain ⟨c0, c1, c2, c3, c4, c5, c6⟩ := blk7 HB2.out
  by_cases h0 : (0 : Int) ∈ x.ms
  rotate_left
  ·have HR : Hid (WE = 1) := by show _ = _; rw [HR2.out]; unfold wh2; rw [if_pos (Or.inr h0)]
   rw [decide_eq_false h0]
   clear h0
   go_wp2_with fail
   go_ret
   exact ⟨ret_int HR.out.symm, HX2.out⟩
  have HR3 : Hid (WE = wh3 x) := by show _ = _; rw [HR2.out]; unfold wh2; rw [if_neg (by rw [HLM.out, HLS.out]; exact fun h => h.elim (fun h => h HML.out) (fun h => h h0))]
  rw [decide_eq_true h0]
  clear h0 HR2 hmb
  go_upto_region 12 with fail
  refine wp_at fun w3 hw3 => ?_
  have HX3 : Hid (Ext w w3) := by show Ext _ _; rw [hw3]; exact HX2.out.alloc _
  have HB3 : Hid (Blk 29 w3 w.heap.size [.string nm, .slice AS j cS, .slice AM nM cM, .slice AP nP cP, .slice AU nU cU, .slice AK nK cK, .slice AO nO cO]) := by show Blk _ _ _ _; rw [hw3]; exact HB2.out.ext ((Ext.refl _).alloc _)
  have HK3 : Hid (KnownW w3 w2.heap.size 0 []) := by show KnownW _ _ _ _; rw [hw3]; exact World.ownsMap_made _ _ _ _
  have HG3 : Hid (w.heap.size < w2.heap.size) := HB2.out.lt
  obtain ⟨M, hM⟩ : ∃ M, M = w2.heap.size := ⟨_, rfl⟩
  rw [← hM] at HK3 HG3 ⊢
  clear hM hw3 c0 c1 c2 c3 c4 c5 c6 hmm
  obtain ⟨c0, c1, c2, c3, c4, c5, c6⟩ := blk7 HB3.out
  go_wp2_with fail
  clear c0 c1 c2 c3 c4 c5 c6
  go_loopw [48] (fun i wr => ∃ k : Nat, k ≤ j ∧ i = .int .i64 k ∧ (∀ q, q < k → szDupF x.sz q = false) ∧ KnownW wr M k (x.sz.take k) ∧ Ext w wr ∧ Blk 29 wr w.heap.size [.string nm, .slice AS j cS, .slice AM nM cM, .slice AP nP cP, .slice AU nU cU, .slice AK nK cK, .slice AO nO cO]) (fun i _ => j - (intOf i).toNat)
  case atStart => exact ⟨0, Nat.zero_le _, rfl, fun q hq => absurd hq (Nat.not_lt_zero _), HK3.out, HX3.out, HB3.out⟩
  case round =>
   obtain ⟨k, hk, rfl, hall, hkn, hx, hbk⟩ := hrel
   have HALL := Lib.hid hall; have HKN : Hid (wr.ownsMap Tryz.prog 9 (plainElem (H := Unit) Tryz.prog 4) M k (knownD (x.sz.take k).reverse)) := hkn; have HX := Lib.hid hx; have HBK := Lib.hid hbk; clear hall hkn hx hbk
   by_cases hlt : k < j
   ·have hkl : Hid (k < x.sz.length) := by show _ < _; rw [HLS.out]; exact hlt
    obtain ⟨b, off, hA, d0⟩ := (HSS.out.ext HX.out) k hkl.out
    subst hA
    have HZK : Hid ((gB x.sz k).size ≤ maxLen) := by have := HZ.out k hkl.out; show _ ≤ _; unfold maxLen; omega
    have HKF := Lib.hid (szDupF_known x.sz k)
    have HNX := Lib.hid (known_next hkl.out)
    obtain ⟨s, hs⟩ : ∃ s, s = gB x.sz k := ⟨_, rfl⟩
    rw [← hs] at d0 HZK HKF HNX
    clear hs
    have KN : Hid (∀ c : Bool, (knownD (H := Unit) (x.sz.take k).reverse).atKey (.string s.data.toList) (.lit (.bool false)) = .lit (.bool c) → szDupF x.sz k = c) := fun c hat => by
     rw [HKF.out] at hat
     injection hat with hat
     injection hat
    cases hd : szDupF x.sz k
    ·have HD := Lib.hid hd
     rw [hd] at KN
     clear hd HKF
     go_wp2_with (first
      |(at_lookup; refine wpList_lookup_own_bool _ rfl _ _ 111 rfl 9 4 strK Tryz.underlying111 Tryz.underlying4 (zeroB _) M k _ rfl HKN.out _ _ rfl (keyOf_string_mk Tryz.underlying9 HZK.out) ?_; intro c hat; obtain rfl := KN.out c hat; clear hat)
      |(at_mapUpdate; refine wpList_mapUpdate_own _ rfl _ _ _ 111 rfl 9 4 strK Tryz.underlying111 _ M k _ rfl HKN.out (by unfold maxLen; omega) _ _ _ rfl rfl (keyOf_string_mk Tryz.underlying9 HZK.out) _ [] (plainElem_bool Tryz.underlying4 true) ?_; intro w5 hown1 hgrow)
      |fail)
     have HK5 : Hid (KnownW w5 M (k + 1) (x.sz.take (k + 1))) := by show KnownW _ _ _ _; unfold KnownW; rw [HNX.out]; exact hown1
     have HX5 : Hid (Ext w w5) := HX.out.grown hgrow (fun q hq => by cases hq; exact Nat.le_of_lt HG3.out)
     have HB5 : Hid (Blk 29 w5 w.heap.size [.string nm, .slice (some ⟨b, off, none⟩) j cS, .slice AM nM cM, .slice AP nP cP, .slice AU nU cU, .slice AK nK cK, .slice AO nO cO]) := by
      have hne := HG3.out
      exact (hgrow.block _ HBK.out.lt (fun e => by injection e with e; omega)).trans HBK.out
     clear hown1 hgrow
     go_roundw
     case rel => exact ⟨k + 1, by omega, by go_num, fun q hq => by
      rcases Nat.lt_succ_iff_lt_or_eq.1 hq with h | h
      ·exact HALL.out q h
      ·subst h; exact HD.out, HK5.out, HX5.out, HB5.out⟩
     case measure => simp [intOf]; omega
    ·have HR : Hid (WE = 7) := by show _ = _; rw [HR3.out]; unfold wh3; rw [if_pos]; rw [HLS.out]; exact any_at hlt hd
     rw [hd] at KN
     clear hd HKF
     go_wp2_with (at_lookup; refine wpList_lookup_own_bool _ rfl _ _ 111 rfl 9 4 strK Tryz.underlying111 Tryz.underlying4 (zeroB _) M k _ rfl HKN.out _ _ rfl (keyOf_string_mk Tryz.underlying9 HZK.out) ?_; intro c hat; obtain rfl := KN.out c hat; clear hat)
     go_ret
     exact ⟨ret_int HR.out.symm, HX.out⟩
   obtain rfl : k = j := by omega
   have HR4 : Hid (WE = wh4 x) := by
    show _ = _; rw [HR3.out]; unfold wh3; rw [if_neg]
    rw [HLS.out]; unfold szDup; rw [any_none HALL.out]; simp
   clear HALL HR3 HKN hk hlt
   obtain ⟨W4, hW4⟩ : ∃ W4 : World, W4 = wr := ⟨_, rfl⟩
   rw [← hW4] at HX HBK ⊢
   clear hW4
   obtain ⟨c0, c1, c2, c3, c4, c5, c6⟩ := blk7 HBK.out
   by_cases g0 : 12 < k
   ·have HR : Hid (WE = 5) := by show _ = _; rw [HR4.out]; unfold wh4; rw [if_pos (Or.inl (by rw [HLS.out]; exact g0))]
    go_wp2_with fail
    go_ret
    exact ⟨ret_int HR.out.symm, HX.out⟩
   by_cases g1 : 12 < nP
   ·have HR : Hid (WE = 5) := by show _ = _; rw [HR4.out]; unfold wh4; rw [if_pos (Or.inr (Or.inl (by rw [HLP.out]; exact g1)))]
    go_wp2_with fail
    go_ret
    exact ⟨ret_int HR.out.symm, HX.out⟩
   by_cases g2 : 12 < nU
   ·have HR : Hid (WE = 5) := by show _ = _; rw [HR4.out]; unfold wh4; rw [if_pos (Or.inr (Or.inr (by rw [HLU.out]; exact g2)))]
    go_wp2_with fail
    go_ret
    exact ⟨ret_int HR.out.symm, HX.out⟩
   have HR5 : Hid (WE = wh5 x) := by show _ = _; rw [HR4.out]; unfold wh4; rw [if_neg (by rw [HLS.out, HLP.out, HLU.out]; omega)]
   by_cases g3 : 24 < nK
   ·have HR : Hid (WE = 5) := by show _ = _; rw [HR5.out]; unfold wh5; rw [if_pos (Or.inl (by rw [HLK.out]; exact g3))]
    go_wp2_with fail
    go_ret
    exact ⟨ret_int HR.out.symm, HX.out⟩
   by_cases g4 : 16 < nO
   ·have HR : Hid (WE = 5) := by show _ = _; rw [HR5.out]; unfold wh5; rw [if_pos (Or.inr (by rw [← HLO.out]; exact g4))]
    go_wp2_with fail
    go_ret
    exact ⟨ret_int HR.out.symm, HX.out⟩
   have HR6 : Hid (WE = wh6 x) := by show _ = _; rw [HR5.out]; unfold wh5; rw [if_neg (by rw [HLK.out, ← HLO.out]; omega)]
   go_wp2_with fail
   clear c0 c1 c2 c3 c4 c5 c6
   go_loopw [87] (fun i wr => ∃ m : Nat, m ≤ nM ∧ i = .int .i64 m ∧ allB (fun i => decide (-100 ≤ gI x.ms i ∧ gI x.ms i ≤ 100)) m = true ∧ Ext w wr) (fun i _ => nM - (intOf i).toNat)
   case atStart => exact ⟨0, Nat.zero_le _, rfl, rfl, HX.out⟩
   case round =>
    obtain ⟨m, hm, rfl, hall, hx⟩ := hrel
    have HALL := Lib.hid hall; have HXM := Lib.hid hx; clear hall hx
    by_cases hlt : m < nM
    ·obtain ⟨bw, ow, hAW, d0⟩ := (HMS.out.ext HXM.out).g (k := m) (by rw [HLM.out]; exact hlt)
     subst hAW
     obtain ⟨v, hv⟩ : ∃ v, v = gI x.ms m := ⟨_, rfl⟩
     rw [← hv] at d0
     have HV := Lib.hid hv; clear hv
     by_cases g0 : v < -100
     ·have HR : Hid (WE = 3) := by show _ = _; rw [HR6.out]; unfold wh6; rw [if_pos (allB_false (by rw [HLM.out]; exact hlt) (by rw [← HV.out]; exact decide_eq_false (by omega)))]
      go_wp2_with fail
      go_ret
      exact ⟨ret_int HR.out.symm, HXM.out⟩
     by_cases g1 : 100 < v
     ·have HR : Hid (WE = 3) := by show _ = _; rw [HR6.out]; unfold wh6; rw [if_pos (allB_false (by rw [HLM.out]; exact hlt) (by rw [← HV.out]; exact decide_eq_false (by omega)))]
      go_wp2_with fail
      go_ret
      exact ⟨ret_int HR.out.symm, HXM.out⟩
     have HD : Hid (decide (-100 ≤ gI x.ms m ∧ gI x.ms m ≤ 100) = true) := by show _ = _; rw [← HV.out]; exact decide_eq_true (by omega)
     go_wp2_with fail
     go_roundw
     case rel => exact ⟨m + 1, by omega, by go_num, allB_succ HALL.out HD.out, HXM.out⟩
     case measure => simp [intOf]; omega
    ·obtain rfl : m = nM := by omega
     have HR : Hid (WE = 0) := by show _ = _; rw [HR6.out]; unfold wh6; rw [if_neg (by rw [HLM.out, HALL.out]; simp)]
     go_wp2_with fail
     go_ret
     exact ⟨ret_int HR.out.symm, HXM.out⟩
end Go.Proofs.YtfegbaokcbjllaaGreat
/- style.Check -/
namespace Go.Proofs.YtfegbaokcbjllaaGreat
open Go.RowKit
def st3 (x : StyX) : Int := firstE (joinE x) x.ss.length
def st2 (x : StyX) : Int := if firstE (useE x) x.us.length ≠ 0 then firstE (useE x) x.us.length else st3 x
def st1 (x : StyX) : Int := if firstE (pieceE x.ps) x.ps.length ≠ 0 then firstE (pieceE x.ps) x.ps.length else st2 x
theorem sty_eq (x : StyX) : styE x = if wholeE x ≠ 0 then wholeE x else st1 x := rfl
theorem firstE_in {f : Nat → Int} {n k : Nat} (hk : k < n) (h0 : firstE f k = 0) (h : f k ≠ 0) {y : Int} : (if firstE f n ≠ 0 then firstE f n else y) = f k := by
 rw [firstE_at hk h0 h, if_pos h]
theorem firstE_out {f : Nat → Int} {n : Nat} (h0 : firstE f n = 0) {y : Int} : (if firstE f n ≠ 0 then firstE f n else y) = y := by
 rw [if_neg (fun h => h h0)]
set_option maxRecDepth 100000 in
set_option maxHeartbeats 6400000 in
theorem styCheck_any (a : StyA) (x : StyX) (w : World) (hs : StyXAt w a x) (hN : x.sz.length ≤ 1000) (hZ : ∀ k, k < x.sz.length → (gB x.sz k).size ≤ 9223372036854775807) :
  Calls Tryz.prog 6 #[a.val] w fun e w' => e = .returned (.int .i64 (styE x)) ∧ Ext w w' := by
 have HS := Lib.hid hs
 have HCW := Lib.hid (fun W (h : Ext w W) => checkWhole_any a x W (hs.ext h) hN hZ)
 have HCE := Lib.hid (fun p q W (h : Ext w W) => stEdge_any a x p q W (hs.ext h))
 clear hs hN hZ
 obtain ⟨nm, AS, nS, cS, AM, nM, cM, AP, nP, cP, AU, nU, cU, AK, nK, cK, AO, nO, cO⟩ := a
 have HLP : Hid (x.ps.length = nP) := HS.out.lP
 have HLU : Hid (x.us.length = nU) := HS.out.lU
 have HLK : Hid (x.ss.length = nK) := HS.out.lK
 have hbP : nP ≤ 9223372036854775807 := HS.out.bP
 have hbU : nU ≤ 9223372036854775807 := HS.out.bU
 have hbK : nK ≤ 9223372036854775807 := HS.out.bK
 have hcP : nP ≤ cP := HS.out.cP
 have HPS := Lib.hid HS.out.P
 have HUS := Lib.hid HS.out.U
 have HKS := Lib.hid HS.out.K
 simp only [StyA.val] at HCW HCE HPS HUS HKS ⊢
 clear HS
 obtain ⟨SE, hSE⟩ : ∃ SE, SE = styE x := ⟨_, rfl⟩
 rw [← hSE]
 rw [sty_eq] at hSE
 have HSE := Lib.hid hSE; clear hSE
 go_enter Tryz.func6, Tryz.ntmps6
 go_wp2_with fail
 refine (HCW.out _ ((Ext.refl _).alloc _)).mono ?_
 rintro e w1 ⟨rfl, he1⟩
 have HB1 : Hid (Blk 29 w1 w.heap.size [.string nm, .slice AS nS cS, .slice AM nM cM, .slice AP nP cP, .slice AU nU cU, .slice AK nK cK, .slice AO nO cO]) := (Blk.new' rfl).ext he1
 have HX1 := Lib.hid (((Ext.refl w).alloc _).trans he1)
 clear he1
 obtain ⟨c0, c1, c2, c3, c4, c5, c6⟩ := blk7 HB1.out
 obtain ⟨WE, hWE⟩ : ∃ WE, WE = wholeE x := ⟨_, rfl⟩
 rw [← hWE] at HSE ⊢
 clear hWE
 by_cases hz : WE = 0
 rotate_left
 ·have hzb : (WE != 0) = true := by simp [hz]
  have HR : Hid (SE = WE) := by show _ = _; rw [HSE.out, if_pos hz]
  clear hz
  go_wp2_with fail
  go_ret
  exact ⟨ret_int HR.out.symm, HX1.out⟩
 subst hz
 have HR1 : Hid (SE = st1 x) := by show _ = _; rw [HSE.out, if_neg (by simp)]
 clear HSE
 go_wp2_with fail
 clear c0 c1 c2 c3 c4 c5 c6
 go_loopw [19] (fun i wr => ∃ k : Nat, k ≤ nP ∧ i = .int .i64 k ∧ firstE (pieceE x.ps) k = 0 ∧ Ext w1 wr) (fun i _ => nP - (intOf i).toNat)
 case atStart => exact ⟨0, Nat.zero_le _, rfl, rfl, Ext.refl _⟩
 case round =>
  obtain ⟨k, hk, rfl, hall, hx⟩ := hrel
  have HALL := Lib.hid hall; have HX := Lib.hid hx; clear hall hx
  obtain ⟨c0, c1, c2, c3, c4, c5, c6⟩ := blk7 (HB1.out.ext HX.out)
  by_cases hlt : k < nP
  ·have HKL : Hid (k < x.ps.length) := by show _ < _; rw [HLP.out]; exact hlt
   obtain ⟨bp, op, q, hAP, hpA, hcA, hqn, hqg⟩ := (HPS.out.ext (HX1.out.trans HX.out)) k HKL.out
   subst hAP
   have HCP := Lib.hid (fun W (h : Ext wr W) => checkPiece_any (some ⟨bp, op, none⟩) x.ps k cP q W (((HPS.out.ext (HX1.out.trans HX.out)).ext h).take k) HKL.out (by omega) (hpA.ext h) hqn hqg)
   clear hpA hqn hqg
   obtain ⟨pnm, pAE, pnE, pcE, pgr, pAN, pnN, pcN, pAC, pnC, pcC, pAW, pnW, pcW, pmt⟩ := q
   obtain ⟨a0, a1, a2, a3, a4, a5, a6⟩ := hcA
   simp only [PcA.val] at HCP a0 a1 a2 a3 a4 a5 a6
   have hpl : w.heap.size < wr.heap.size := (HB1.out.ext HX.out).lt
   obtain ⟨PE, hPE⟩ : ∃ PE, PE = pieceE x.ps k := ⟨_, rfl⟩
   rw [← hPE] at HCP
   have HPE := Lib.hid hPE; clear hPE
   go_upto_region 7 with fail
   refine wp_at fun wq hWq => ?_
   have hNb : Blk 40 wq wr.heap.size [.string pnm, .slice pAE pnE pcE, .int .i64 pgr, .slice pAN pnN pcN, .slice pAC pnC pcC, .slice pAW pnW pcW, .bool pmt] := by rw [hWq]; exact Blk.new' rfl
   have hxq : Ext wr wq := by rw [hWq]; exact (Ext.refl _).alloc _
   obtain ⟨nb, hnb⟩ : ∃ nb, nb = wr.heap.size := ⟨_, rfl⟩
   rw [← hnb] at hNb ⊢
   have HXq := Lib.hid hxq
   have HCQ := Lib.hid (fun W (h : Ext wq W) => HCP.out W (hxq.trans h))
   have HBq := Lib.hid ((HB1.out.ext HX.out).ext hxq)
   clear hWq hnb hxq HCP a0 a1 a2 a3 a4 a5 a6 c0 c1 c2 c3 c4 c5 c6 hpl
   obtain ⟨a0, a1, a2, a3, a4, a5, a6⟩ := blk7 hNb
   obtain ⟨c0, c1, c2, c3, c4, c5, c6⟩ := blk7 HBq.out
   clear hNb
   have z0 := fun z : After wq => After.cell c3 z
   have y0 := fun z : After wq => After.cell a0 z
   have y1 := fun z : After wq => After.cell a1 z
   have y2 := fun z : After wq => After.cell a2 z
   have y3 := fun z : After wq => After.cell a3 z
   have y4 := fun z : After wq => After.cell a4 z
   have y5 := fun z : After wq => After.cell a5 z
   have y6 := fun z : After wq => After.cell a6 z
   have hkc : k ≤ cP := by omega
   refine region_ext (by kernel_rfl) (by kernel_rfl) ?_
   repeat (first | go_big_quiet_step ((go_at_call 21; exact after_call (HCQ.out _ (After.ext _)))) | (go_big_quiet_want; go_simp; go_big_quiet_on))
   refine wpQuiet_nil ?_
   rintro w4 ⟨⟨_, he4⟩, rfl⟩
   have HX4 := Lib.hid ((HX.out.trans HXq.out).trans he4)
   clear z0 y0 y1 y2 y3 y4 y5 y6 a0 a1 a2 a3 a4 a5 a6 c0 c1 c2 c3 c4 c5 c6 he4 HCQ HBq
   by_cases hz : PE = 0
   ·have HZ : Hid (pieceE x.ps k = 0) := by show _ = _; rw [← HPE.out]; exact hz
    have hzb : (PE != 0) = false := by simp [hz]
    clear hz
    go_wp2_with fail
    go_roundw
    case rel => exact ⟨k + 1, by omega, by go_num, firstE_succ HALL.out HZ.out, HX4.out⟩
    case measure => simp [intOf]; omega
   ·have hzb : (PE != 0) = true := by simp [hz]
    have HR : Hid (SE = PE) := by show _ = _; rw [HR1.out]; unfold st1; rw [firstE_in HKL.out HALL.out (by rw [← HPE.out]; exact hz), HPE.out]
    clear hz
    go_wp2_with fail
    go_ret
    exact ⟨ret_int HR.out.symm, HX1.out.trans HX4.out⟩
  obtain rfl : k = nP := by omega
  have HR2 : Hid (SE = st2 x) := by show _ = _; rw [HR1.out]; unfold st1; rw [firstE_out (by rw [HLP.out]; exact HALL.out)]
  clear HALL HR1 hk hlt
  obtain ⟨W1, hW1⟩ : ∃ W1 : World, W1 = wr := ⟨_, rfl⟩
  rw [← hW1] at c0 c1 c2 c3 c4 c5 c6 HX ⊢
  clear hW1
  have HXW := Lib.hid (HX1.out.trans HX.out)
  have HBW := Lib.hid (HB1.out.ext HX.out)
  clear HX
  go_wp2_with fail
  clear c0 c1 c2 c3 c4 c5 c6
  go_loopw [37] (fun i wr => ∃ m : Nat, m ≤ nU ∧ i = .int .i64 m ∧ firstE (useE x) m = 0 ∧ Ext W1 wr) (fun i _ => nU - (intOf i).toNat)
  case atStart => exact ⟨0, Nat.zero_le _, rfl, rfl, Ext.refl _⟩
  case round =>
   obtain ⟨m, hm, rfl, hall, hx⟩ := hrel
   have HALL := Lib.hid hall; have HX := Lib.hid hx; clear hall hx
   obtain ⟨c0, c1, c2, c3, c4, c5, c6⟩ := blk7 (HBW.out.ext HX.out)
   by_cases hlt : m < nU
   ·have HML : Hid (m < x.us.length) := by show _ < _; rw [HLU.out]; exact hlt
    obtain ⟨bu, ou, hAU, u0, u1, u2'⟩ := (HUS.out.ext (HXW.out.trans HX.out)) m HML.out
    subst hAU
    obtain ⟨pc, hpc⟩ : ∃ v, v = (gU x.us m).pc := ⟨_, rfl⟩
    obtain ⟨ct, hct⟩ : ∃ v, v = (gU x.us m).ct := ⟨_, rfl⟩
    obtain ⟨pr, hpr⟩ : ∃ v, v = (gU x.us m).pr := ⟨_, rfl⟩
    rw [← hpc] at u0; rw [← hct] at u1; rw [← hpr] at u2'
    have HPC := Lib.hid hpc; have HCT := Lib.hid hct; clear hpc hct hpr
    have hpl : w.heap.size < wr.heap.size := (HBW.out.ext HX.out).lt
    have HAL : Hid (Ext W1 (wr.alloc (.cells #[.int .i64 pc, .int .i64 ct, .bool pr] 69))) := HX.out.alloc _
    have HUE : Hid (useE x m = if pc < 0 ∨ (k : Int) ≤ pc ∨ ct < 1 ∨ 4 < ct then 3 else 0) := by show _ = _; unfold useE; rw [← HPC.out, ← HCT.out, HLP.out]
    by_cases g0 : pc < 0
    ·have HR : Hid (SE = 3) := by show _ = _; rw [HR2.out]; unfold st2; rw [firstE_in HML.out HALL.out (by rw [HUE.out, if_pos (by omega)]; decide), HUE.out, if_pos (by omega)]
     go_wp2_with fail
     go_ret
     exact ⟨ret_int HR.out.symm, HXW.out.trans HAL.out⟩
    by_cases g1 : (k : Int) ≤ pc
    ·have HR : Hid (SE = 3) := by show _ = _; rw [HR2.out]; unfold st2; rw [firstE_in HML.out HALL.out (by rw [HUE.out, if_pos (by omega)]; decide), HUE.out, if_pos (by omega)]
     go_wp2_with fail
     go_ret
     exact ⟨ret_int HR.out.symm, HXW.out.trans HAL.out⟩
    by_cases g2 : ct < 1
    ·have HR : Hid (SE = 3) := by show _ = _; rw [HR2.out]; unfold st2; rw [firstE_in HML.out HALL.out (by rw [HUE.out, if_pos (by omega)]; decide), HUE.out, if_pos (by omega)]
     go_wp2_with fail
     go_ret
     exact ⟨ret_int HR.out.symm, HXW.out.trans HAL.out⟩
    by_cases g3 : 4 < ct
    ·have HR : Hid (SE = 3) := by show _ = _; rw [HR2.out]; unfold st2; rw [firstE_in HML.out HALL.out (by rw [HUE.out, if_pos (by omega)]; decide), HUE.out, if_pos (by omega)]
     go_wp2_with fail
     go_ret
     exact ⟨ret_int HR.out.symm, HXW.out.trans HAL.out⟩
    have HZ : Hid (useE x m = 0) := by show _ = _; rw [HUE.out, if_neg (by omega)]
    go_wp2_with fail
    go_roundw
    case rel => exact ⟨m + 1, by omega, by go_num, firstE_succ HALL.out HZ.out, HAL.out⟩
    case measure => simp [intOf]; omega
   obtain rfl : m = nU := by omega
   have HR3 : Hid (SE = st3 x) := by show _ = _; rw [HR2.out]; unfold st2; rw [firstE_out (by rw [HLU.out]; exact HALL.out)]
   clear HALL HR2 hm hlt
   obtain ⟨W2, hW2⟩ : ∃ W2 : World, W2 = wr := ⟨_, rfl⟩
   rw [← hW2] at c0 c1 c2 c3 c4 c5 c6 HX ⊢
   clear hW2
   have HXV := Lib.hid (HXW.out.trans HX.out)
   have HBV := Lib.hid (HBW.out.ext HX.out)
   clear HX
   go_wp2_with fail
   clear c0 c1 c2 c3 c4 c5 c6
   go_loopw [66] (fun i wr => ∃ m : Nat, m ≤ nK ∧ i = .int .i64 m ∧ firstE (joinE x) m = 0 ∧ Ext W2 wr) (fun i _ => nK - (intOf i).toNat)
   case atStart => exact ⟨0, Nat.zero_le _, rfl, rfl, Ext.refl _⟩
   case round =>
    obtain ⟨j, hj, rfl, hall, hx⟩ := hrel
    have HALL := Lib.hid hall; have HX := Lib.hid hx; clear hall hx
    obtain ⟨c0, c1, c2, c3, c4, c5, c6⟩ := blk7 (HBV.out.ext HX.out)
    by_cases hlt : j < nK
    ·have HJL : Hid (j < x.ss.length) := by show _ < _; rw [HLK.out]; exact hlt
     obtain ⟨bs, os, hAK, hsm⟩ := (HKS.out.ext (HXV.out.trans HX.out)) j HJL.out
     subst hAK
     have HJE : Hid (joinE x j = if ¬ (edgeB x.s (gSm x.ss j).pa (gSm x.ss j).ea = true ∧ edgeB x.s (gSm x.ss j).pb (gSm x.ss j).eb = true) then 3 else if (gSm x.ss j).ease < 0 then 1 else 0) := rfl
     obtain ⟨sm, hsmd⟩ : ∃ sm, sm = gSm x.ss j := ⟨_, rfl⟩
     rw [← hsmd] at hsm HJE
     clear hsmd
     obtain ⟨pa, ea, pb, eb, rv, es⟩ := sm
     obtain ⟨k0, k1, k2, k3, k4, k5⟩ := hsm
     simp only at k0 k1 k2 k3 k4 k5 HJE
     have hpl : w.heap.size < wr.heap.size := (HBV.out.ext HX.out).lt
     have HXL : Hid (Ext wr (wr.alloc (.cells #[.int .i64 pa, .int .i64 ea, .int .i64 pb, .int .i64 eb, .bool rv, .int .i64 es] 71))) := (Ext.refl _).alloc _
     go_wp2_with fail
     refine (HCE.out pa ea _ ((HXV.out.trans HX.out).trans HXL.out)).mono ?_
     rintro e w2 ⟨rfl, he2⟩
     have HSB : Hid (Blk 71 w2 wr.heap.size [.int .i64 pa, .int .i64 ea, .int .i64 pb, .int .i64 eb, .bool rv, .int .i64 es]) := (Blk.new' rfl).ext he2
     have HB2 := Lib.hid (((HBV.out.ext HX.out).ext HXL.out).ext he2)
     have HX2 := Lib.hid ((HX.out.trans HXL.out).trans he2)
     clear he2 HXL c0 c1 c2 c3 c4 c5 c6 k0 k1 k2 k3 k4 k5 hpl
     obtain ⟨c0, c1, c2, c3, c4, c5, c6⟩ := blk7 HB2.out
     obtain ⟨k0, k1, k2, k3, k4, k5⟩ := blk6 HSB.out
     cases hea : edgeB x.s pa ea
     ·have HR : Hid (SE = 3) := by
       have hj3 : joinE x j = 3 := by rw [HJE.out, if_pos (fun h => by rw [hea] at h; cases h.1)]
       show _ = _; rw [HR3.out]; unfold st3; rw [firstE_at HJL.out HALL.out (by rw [hj3]; decide), hj3]
      clear hea
      go_wp2_with fail
      go_ret
      exact ⟨ret_int HR.out.symm, HXV.out.trans HX2.out⟩
     have HEA := Lib.hid hea; clear hea
     go_wp2_with fail
     refine (HCE.out pb eb _ (HXV.out.trans HX2.out)).mono ?_
     rintro e w3 ⟨rfl, he3⟩
     have HSB3 := Lib.hid (HSB.out.ext he3); have HX3 := Lib.hid (HX2.out.trans he3)
     clear he3 c0 c1 c2 c3 c4 c5 c6 k0 k1 k2 k3 k4 k5
     obtain ⟨k0, k1, k2, k3, k4, k5⟩ := blk6 HSB3.out
     cases heb : edgeB x.s pb eb
     ·have HR : Hid (SE = 3) := by
       have hj3 : joinE x j = 3 := by rw [HJE.out, if_pos (fun h => by rw [heb] at h; cases h.2)]
       show _ = _; rw [HR3.out]; unfold st3; rw [firstE_at HJL.out HALL.out (by rw [hj3]; decide), hj3]
      clear heb
      go_wp2_with fail
      go_ret
      exact ⟨ret_int HR.out.symm, HXV.out.trans HX3.out⟩
     have HJ2 : Hid (joinE x j = if es < 0 then 1 else 0) := by show _ = _; rw [HJE.out, if_neg (fun h => h ⟨HEA.out, heb⟩)]
     clear heb HJE HEA
     by_cases g0 : es < 0
     ·have HR : Hid (SE = 1) := by
       have hj3 : joinE x j = 1 := by rw [HJ2.out, if_pos g0]
       show _ = _; rw [HR3.out]; unfold st3; rw [firstE_at HJL.out HALL.out (by rw [hj3]; decide), hj3]
      go_wp2_with fail
      go_ret
      exact ⟨ret_int HR.out.symm, HXV.out.trans HX3.out⟩
     have HZ : Hid (joinE x j = 0) := by show _ = _; rw [HJ2.out, if_neg g0]
     go_wp2_with fail
     go_roundw
     case rel => exact ⟨j + 1, by omega, by go_num, firstE_succ HALL.out HZ.out, HX3.out⟩
     case measure => simp [intOf]; omega
    obtain rfl : j = nK := by omega
    have HR : Hid (SE = 0) := by show _ = _; rw [HR3.out]; unfold st3; rw [HLK.out]; exact HALL.out
    go_wp2_with fail
    go_ret
    exact ⟨ret_int HR.out.symm, HXV.out.trans HX.out⟩
def HasP (w : World) (b : Nat) : Prop := ∃ a0 a1 a2 a3 a4 a5 a6, Blk 40 w b [a0, a1, a2, a3, a4, a5, a6]
def putP (w : World) (b : Nat) (b0 b1 b2 b3 b4 b5 b6 : Value) : World := ((((((w.setCell ⟨b, 0, none⟩ b0).setCell ⟨b, 1, none⟩ b1).setCell ⟨b, 2, none⟩ b2).setCell ⟨b, 3, none⟩ b3).setCell ⟨b, 4, none⟩ b4).setCell ⟨b, 5, none⟩ b5).setCell ⟨b, 6, none⟩ b6
theorem Blk.put7 {w : World} {g : Nat} (h : HasP w g) (b0 b1 b2 b3 b4 b5 b6 : Value) : Blk 40 (putP w g b0 b1 b2 b3 b4 b5 b6) g [b0, b1, b2, b3, b4, b5, b6] := by
 obtain ⟨a0, a1, a2, a3, a4, a5, a6, h⟩ := h
 have := ((((((h.set 0 b0).set 1 b1).set 2 b2).set 3 b3).set 4 b4).set 5 b5).set 6 b6
 simp at this; exact this
theorem ext_put7 {W0 w : World} {b : Nat} (h : Ext W0 w) (hb : W0.heap.size ≤ b) (b0 b1 b2 b3 b4 b5 b6 : Value) : Ext W0 (putP w b b0 b1 b2 b3 b4 b5 b6) :=
 ((((((h.setCell hb _).setCell hb _).setCell hb _).setCell hb _).setCell hb _).setCell hb _).setCell hb _
theorem kept_put7 {w : World} {b : Nat} (b0 b1 b2 b3 b4 b5 b6 : Value) : Kept (fun k => k = b) w (putP w b b0 b1 b2 b3 b4 b5 b6) :=
 kset (kset (kset (kset (kset (kset (kset (Kept.refl _ _) _ _) _ _) _ _) _ _) _ _) _ _) _ _
def IsPc (n : Nat) : Value → World → Prop := fun v w => ∃ g, v = .pointer (some ⟨g, 0, none⟩) ∧ ∃ cs, n ≤ g ∧ Blk 40 w g cs ∧ cs.length = 7
theorem IsPc.kp (n : Nat) : Kp (IsPc n) := fun v w w' he h => by obtain ⟨g, h1, cs, h2, h3, h4⟩ := h; exact ⟨g, h1, cs, h2, h3.ext he, h4⟩
def IsGe (n : Nat) (R : Int) (L : List Edge) : Value → World → Prop := fun v w => (R = 0 → OwnE w n v L) ∧ (R ≠ 0 → v = .slice none 0 0)
theorem IsGe.kp (n : Nat) (R : Int) (L : List Edge) : Kp (IsGe n R L) := fun v w w' he h => ⟨fun h0 => (h.1 h0).ext he, h.2⟩
def IsG (n : Nat) (R : Int) (L : List Edge) : Value → World → Prop := fun v w => ∃ u, v = .tuple #[u, .int .i64 R] ∧ IsGe n R L u w
theorem IsG.kp (n : Nat) (R : Int) (L : List Edge) : Kp (IsG n R L) := fun v w w' he h => by obtain ⟨u, h1, h2⟩ := h; exact ⟨u, h1, IsGe.kp n R L u w w' he h2⟩
theorem retG_is {P : Program} {f : FuncId} {args : Array Value} {w : World} {es : List Edge} {cs : List Spot} {m : Int} {n : Nat} (h : Calls P f args w (RetG w es cs m)) (hn : n ≤ w.heap.size) : Calls P f args w (Ret (IsG n (gradedR es cs m) (gradedE es cs m)) w) := h.mono fun _ _ h => by
 obtain ⟨v, h1, h2, h3, h4⟩ := h; exact ⟨_, h1, ⟨v, rfl, fun h0 => (h2 h0).base_le hn, h3⟩, h4⟩
theorem own_low {K : Nat → Prop} {w w' : World} {base : Nat} {e : TypeId} {size : Nat} {v : Value} {n : Nat} {xs : List Value} (h : w.ownsRow base e size v n xs) (he : Kept K w w') (hk : ∀ k, K k → k < base) : w'.ownsRow base e size v n xs :=
 own_kept h he fun k e hK => by
  rcases h.2 with ⟨rfl, _⟩ | ⟨g, cap, cur, rfl, hb, _⟩
  ·cases e
  ·have h1 := hk k hK
   have h2 : g = k := Option.some.inj e
   omega
theorem OwnE.low {K : Nat → Prop} {w w' : World} {base : Nat} {v : Value} {es : List Edge} (h : OwnE w base v es) (he : Kept K w w') (hk : ∀ k, K k → k < base) : OwnE w' base v es := by
 obtain ⟨ps, ⟨h0, h1⟩, h2⟩ := h
 exact ⟨ps, ⟨h0, fun k hk' => ⟨(h1 k hk').1, own_low (h1 k hk').2 he hk⟩⟩, own_low h2 he hk⟩
def olR (b : Nat) (w w' : World) : Prop := Kept (fun k => k = b) w w' ∧ (HasP w b → HasP w' b)
theorem olR_refl (b : Nat) (w : World) : olR b w w := ⟨Kept.refl _ _, fun h => h⟩
def olT (b : Nat) (v : Value) (R : Int) (nm : ByteArray) (A1 A3 A4 A5 : Option Addr) (n1 c1 n3 c3 n4 c4 n5 c5 : Nat) (gr : Int) (mt : Bool) : Nat → Value → World → Prop
 |0, u, _ => u = v
 |1, u, _ => u = .agg #[.string nm, .slice A1 n1 c1, .int .i64 gr, .slice A3 n3 c3, .slice A4 n4 c4, .slice A5 n5 c5, .bool mt]
 |2, u, _ => u = .int .i64 R
 |3, u, _ => u = v
 |4, _, w => Blk 40 w b [.string nm, .slice A1 n1 c1, .int .i64 gr, .slice A3 n3 c3, .slice A4 n4 c4, .slice A5 n5 c5, .bool mt]
 |_, _, _ => True
theorem olT_ne {b : Nat} {v : Value} {R : Int} {nm : ByteArray} {A1 A3 A4 A5 : Option Addr} {n1 c1 n3 c3 n4 c4 n5 c5 : Nat} {gr : Int} {mt : Bool} {j : Nat} {u : Value} {w w' : World} (hj : j ≠ 4) (h : olT b v R nm A1 A3 A4 A5 n1 c1 n3 c3 n4 c4 n5 c5 gr mt j u w) : olT b v R nm A1 A3 A4 A5 n1 c1 n3 c3 n4 c4 n5 c5 gr mt j u w' := by
 match j, hj with
 |0, _ => exact h
 |1, _ => exact h
 |2, _ => exact h
 |3, _ => exact h
 |4, hj => exact absurd rfl hj
 |n + 5, _ => trivial
def RetOl (w : World) (p : Pc) (m : Int) (e : Ending) (w' : World) : Prop := ∃ v, ∃ pa : PcA, e = .returned (.tuple #[v, pa.val, .int .i64 (gradedR p.es p.cs m)]) ∧ PcAt w' pa p ∧ (gradedR p.es p.cs m = 0 → OwnE w' w.heap.size v (gradedE p.es p.cs m)) ∧ (gradedR p.es p.cs m ≠ 0 → v = .slice none 0 0) ∧ Ext w w'
set_option maxRecDepth 100000 in
set_option maxHeartbeats 3200000 in
theorem outlineOf_any (a : StyA) (x : StyX) (sz us pi : Nat) (w : World) (hs : StyXAt w a x) (hN : x.sz.length ≤ 1000) (hZ : ∀ k, k < x.sz.length → (gB x.sz k).size ≤ 9223372036854775807) (hok : styE x = 0) (hsz : sz < x.sz.length) (hlm : x.ms.length = x.sz.length) (hus : us < x.us.length) (hpi : (gU x.us us).pc = (pi : Int)) (hpl : pi < x.ps.length) :
  Calls Tryz.prog 29 #[a.val, .int .i64 (sz : Int), .int .i64 (us : Int)] w (RetOl w (gPx x.ps pi).p (gI x.ms sz)) := by
 have HS := Lib.hid hs
 have HCK := Lib.hid (fun W (h : Ext w W) => styCheck_any a x W (hs.ext h) hN hZ)
 have HOK := Lib.hid hok; have HSZ := Lib.hid hsz; have HLM := Lib.hid hlm; have HUS := Lib.hid hus; have HPI := Lib.hid hpi; have HPL := Lib.hid hpl
 clear hs hN hZ hok hsz hlm hus hpi hpl
 obtain ⟨nm, AS, nS, cS, AM, nM, cM, AP, nP, cP, AU, nU, cU, AK, nK, cK, AO, nO, cO⟩ := a
 have HLS : Hid (x.sz.length = nS) := HS.out.lS
 have HLMM : Hid (x.ms.length = nM) := HS.out.lM
 have HLP : Hid (x.ps.length = nP) := HS.out.lP
 have HLU : Hid (x.us.length = nU) := HS.out.lU
 have hbS : nS ≤ 9223372036854775807 := HS.out.bS
 have hbM : nM ≤ 9223372036854775807 := HS.out.bM
 have hbP : nP ≤ 9223372036854775807 := HS.out.bP
 have hbU : nU ≤ 9223372036854775807 := HS.out.bU
 have h1 : sz < nS := by have := HSZ.out; have := HLS.out; omega
 have h2 : sz < nM := by have := HLM.out; have := HLMM.out; have := HLS.out; omega
 have h3 : us < nU := by have := HUS.out; have := HLU.out; omega
 have h4 : pi < nP := by have := HPL.out; have := HLP.out; omega
 have HMS := Lib.hid HS.out.M; have HPS := Lib.hid HS.out.P; have HUA := Lib.hid HS.out.U
 clear HS
 simp only [StyA.val] at HCK HMS HPS HUA ⊢
 go_enter Tryz.func29, Tryz.ntmps29
 go_upto_region 1 with fail
 refine wp_at fun W0 hW0 => ?_
 have HB0 : Hid (Blk 29 W0 w.heap.size [.string nm, .slice AS nS cS, .slice AM nM cM, .slice AP nP cP, .slice AU nU cU, .slice AK nK cK, .slice AO nO cO]) := by show Blk _ _ _ _; rw [hW0]; exact (Blk.new' rfl).ext ((Ext.refl _).alloc _)
 have HX0 : Hid (Ext w W0) := by show Ext _ _; rw [hW0]; exact ((Ext.refl _).alloc _).alloc _
 have HR0 : Hid (∃ cs, Blk 40 W0 (w.heap.size + 1) cs ∧ cs.length = 7) := by show ∃ cs, _; rw [hW0]; exact ⟨_, Blk.new' (by simp), rfl⟩
 clear hW0
 obtain ⟨c0, c1, c2, c3, c4, c5, c6⟩ := blk7 HB0.out
 go_wp2_with fail
 refine (HCK.out _ HX0.out).mono ?_
 rintro e wA ⟨rfl, he1⟩
 have HX1 := Lib.hid he1
 rw [HOK.out]
 clear he1 c0 c1 c2 c3 c4 c5 c6
 obtain ⟨c0, c1, c2, c3, c4, c5, c6⟩ := blk7 (HB0.out.ext HX1.out)
 have hb1 : ((sz : Int) < 0) = False := by simp
 have hb2 : ¬ ((nS : Int) ≤ (sz : Int)) := by omega
 have hb3 : ¬ ((nU : Int) ≤ (us : Int)) := by omega
 go_wp2_with fail
 have HXW := Lib.hid (HX0.out.trans HX1.out)
 obtain ⟨bu, ou, hAU, u0, u1, u2⟩ := (HUA.out.ext HXW.out) us HUS.out
 subst hAU
 rw [HPI.out] at u0
 obtain ⟨bz, oz, qa, hAZ, hq0, hcq0, hzz1, hzz2⟩ := HPS.out pi HPL.out
 have hq := hq0.ext HXW.out
 have hcq := hcq0.ext HXW.out
 clear hcq0
 subst hAZ
 clear hzz1 hzz2 u1 u2
 obtain ⟨bm, om, hAM, m0⟩ := (HMS.out.ext HXW.out).g (k := sz) (by have := HLMM.out; omega)
 subst hAM
 obtain ⟨P, hP⟩ : ∃ P, P = (gPx x.ps pi).p := ⟨_, rfl⟩
 obtain ⟨m, hm⟩ : ∃ m, m = gI x.ms sz := ⟨_, rfl⟩
 rw [← hP] at hq0 hq ⊢
 have HQ0 := Lib.hid hq0
 clear hq0
 rw [← hm] at m0 ⊢
 have HQ := Lib.hid hq
 have HGR := Lib.hid (fun W (h : Ext wA W) => graded_any qa.nm qa.AE qa.AN qa.AC qa.AW qa.nE qa.cE qa.nN qa.cN qa.nC qa.cC qa.nW qa.cW qa.gr m qa.mt P.es P.cs W (hq.e.ext h) hq.le hq.ce hq.ce' (hq.c.ext h) hq.lc hq.nc)
 have HPP := Lib.hid hP; have HMM := Lib.hid hm
 clear hP hm hq
 have HM0 := Lib.hid m0
 obtain ⟨pnm, pAE, pnE, pcE, pgr, pAN, pnN, pcN, pAC, pnC, pcC, pAW, pnW, pcW, pmt⟩ := qa
 simp only at HGR
 have HPC := Lib.hid hcq
 have HU0 := Lib.hid u0
 have HB1 := Lib.hid (HB0.out.ext HX1.out)
 clear hcq u0 c0 c1 c2 c3 c4 c5 c6
 have hpn : (pi : Int) < nP := by omega
 have hun : (us : Int) < nU := by omega
 clear m0
 refine region_slotsL (l := 11) (N := 63) (W0 := wA) [40, 41, 42, 43, 44, 45, 46, 47, 48, 49, 10] [Fx (.pointer (some ⟨w.heap.size, 3, none⟩)), Fx (.slice (some ⟨bz, oz, none⟩) nP cP), Fx (.pointer (some ⟨w.heap.size, 4, none⟩)), Fx (.slice (some ⟨bu, ou, none⟩) nU cU), Fx (.int .i64 (us : Int)), Fx (.pointer (some ⟨bu, ou + us * 3, none⟩)), Fx (.pointer (some ⟨bu, ou + us * 3, none⟩)), Fx (.int .i64 (pi : Int)), Fx (.pointer (some ⟨bz, oz + pi * 7, none⟩)), Fx (.agg #[.string pnm, .slice pAE pnE pcE, .int .i64 pgr, .slice pAN pnN pcN, .slice pAC pnC pcC, .slice pAW pnW pcW, .bool pmt]), IsPc wA.heap.size] (by kernel_rfl) (by kernel_rfl) (by kernel_rfl) (by kernel_rfl) (Ext.refl _) ?kp (fun i hi => ?_) (fun xs w1 hx hT => ?_)
 case kp => exact ⟨Fx.kp _, Fx.kp _, Fx.kp _, Fx.kp _, Fx.kp _, Fx.kp _, Fx.kp _, Fx.kp _, Fx.kp _, Fx.kp _, IsPc.kp _, trivial⟩
 ·match i, hi with
  |0, _ =>
   refine so rfl ?_
   intro fb wi hx hb hd K hK
   have x3 : fb.eval (.tmp 3) = .pointer (some ⟨w.heap.size, 0, none⟩) := hb 3 rfl
   refine sv rfl (v := .pointer (some ⟨w.heap.size, 3, none⟩)) (w' := wi) (fun ρ hρ hc => ?_) (hK _ _ (Ext.refl _) (rfl))
   have r3 := (hρ (.tmp 3)).trans x3
   simp [execOp, go_sem, r3]
  |1, _ =>
   refine so rfl ?_
   intro fb wi hx hb hd K hK
   have x40 : fb.eval (.tmp 40) = .pointer (some ⟨w.heap.size, 3, none⟩) := hd 0 40 rfl (by kernel_rfl)
   have cf0 := (HB1.out.ext hx).cell 3
   simp only [List.getElem?_cons_zero, List.getElem?_cons_succ] at cf0
   refine sv rfl (v := .slice (some ⟨bz, oz, none⟩) nP cP) (w' := wi) (fun ρ hρ hc => ?_) (hK _ _ (Ext.refl _) (rfl))
   have r40 := (hρ (.tmp 40)).trans x40
   simp [execOp, go_sem, r40, cf0]
  |2, _ =>
   refine so rfl ?_
   intro fb wi hx hb hd K hK
   have x3 : fb.eval (.tmp 3) = .pointer (some ⟨w.heap.size, 0, none⟩) := hb 3 rfl
   refine sv rfl (v := .pointer (some ⟨w.heap.size, 4, none⟩)) (w' := wi) (fun ρ hρ hc => ?_) (hK _ _ (Ext.refl _) (rfl))
   have r3 := (hρ (.tmp 3)).trans x3
   simp [execOp, go_sem, r3]
  |3, _ =>
   refine so rfl ?_
   intro fb wi hx hb hd K hK
   have x42 : fb.eval (.tmp 42) = .pointer (some ⟨w.heap.size, 4, none⟩) := hd 2 42 rfl (by kernel_rfl)
   have cf0 := (HB1.out.ext hx).cell 4
   simp only [List.getElem?_cons_zero, List.getElem?_cons_succ] at cf0
   refine sv rfl (v := .slice (some ⟨bu, ou, none⟩) nU cU) (w' := wi) (fun ρ hρ hc => ?_) (hK _ _ (Ext.refl _) (rfl))
   have r42 := (hρ (.tmp 42)).trans x42
   simp [execOp, go_sem, r42, cf0]
  |4, _ =>
   refine so rfl ?_
   intro fb wi hx hb hd K hK
   have x2 : fb.eval (.tmp 2) = .int .i64 (us : Int) := hb 2 rfl
   refine sv rfl (v := .int .i64 (us : Int)) (w' := wi) (fun ρ hρ hc => ?_) (hK _ _ (Ext.refl _) (rfl))
   have r2 := (hρ (.tmp 2)).trans x2
   simp [execOp, go_sem, r2]
  |5, _ =>
   refine so rfl ?_
   intro fb wi hx hb hd K hK
   have x43 : fb.eval (.tmp 43) = .slice (some ⟨bu, ou, none⟩) nU cU := hd 3 43 rfl (by kernel_rfl)
   have x44 : fb.eval (.tmp 44) = .int .i64 (us : Int) := hd 4 44 rfl (by kernel_rfl)
   refine sv rfl (v := .pointer (some ⟨bu, ou + us * 3, none⟩)) (w' := wi) (fun ρ hρ hc => ?_) (hK _ _ (Ext.refl _) (rfl))
   have r43 := (hρ (.tmp 43)).trans x43
   have r44 := (hρ (.tmp 44)).trans x44
   simp [execOp, go_sem, r43, r44, hun, h3]
  |6, _ =>
   refine so rfl ?_
   intro fb wi hx hb hd K hK
   have x45 : fb.eval (.tmp 45) = .pointer (some ⟨bu, ou + us * 3, none⟩) := hd 5 45 rfl (by kernel_rfl)
   refine sv rfl (v := .pointer (some ⟨bu, ou + us * 3, none⟩)) (w' := wi) (fun ρ hρ hc => ?_) (hK _ _ (Ext.refl _) (rfl))
   have r45 := (hρ (.tmp 45)).trans x45
   simp [execOp, go_sem, r45]
  |7, _ =>
   refine so rfl ?_
   intro fb wi hx hb hd K hK
   have x46 : fb.eval (.tmp 46) = .pointer (some ⟨bu, ou + us * 3, none⟩) := hd 6 46 rfl (by kernel_rfl)
   have v0 := hx.cell HU0.out
   refine sv rfl (v := .int .i64 (pi : Int)) (w' := wi) (fun ρ hρ hc => ?_) (hK _ _ (Ext.refl _) (rfl))
   have r46 := (hρ (.tmp 46)).trans x46
   simp [execOp, go_sem, r46, v0]
  |8, _ =>
   refine so rfl ?_
   intro fb wi hx hb hd K hK
   have x41 : fb.eval (.tmp 41) = .slice (some ⟨bz, oz, none⟩) nP cP := hd 1 41 rfl (by kernel_rfl)
   have x47 : fb.eval (.tmp 47) = .int .i64 (pi : Int) := hd 7 47 rfl (by kernel_rfl)
   refine sv rfl (v := .pointer (some ⟨bz, oz + pi * 7, none⟩)) (w' := wi) (fun ρ hρ hc => ?_) (hK _ _ (Ext.refl _) (rfl))
   have r41 := (hρ (.tmp 41)).trans x41
   have r47 := (hρ (.tmp 47)).trans x47
   simp [execOp, go_sem, r41, r47, hpn, h4]
  |9, _ =>
   refine so rfl ?_
   intro fb wi hx hb hd K hK
   have x48 : fb.eval (.tmp 48) = .pointer (some ⟨bz, oz + pi * 7, none⟩) := hd 8 48 rfl (by kernel_rfl)
   obtain ⟨d0, d1, d2, d3, d4, d5, d6⟩ := HPC.out.ext hx
   refine sv rfl (v := .agg #[.string pnm, .slice pAE pnE pcE, .int .i64 pgr, .slice pAN pnN pcN, .slice pAC pnC pcC, .slice pAW pnW pcW, .bool pmt]) (w' := wi) (fun ρ hρ hc => ?_) (hK _ _ (Ext.refl _) (rfl))
   have r48 := (hρ (.tmp 48)).trans x48
   simp [execOp, go_sem, r48, d0, d1, d2, d3, d4, d5, d6]
  |10, _ =>
   refine so rfl ?_
   intro fb wi hx hb hd K hK
   refine sv rfl (v := .pointer (some ⟨wi.heap.size, 0, none⟩)) (w' := wi.alloc (.cells #[.string ⟨#[]⟩, .slice none 0 0, .int .i64 0, .slice none 0 0, .slice none 0 0, .slice none 0 0, .bool false] 40)) (fun ρ hρ hc => ?_) (hK _ _ ((Ext.refl _).alloc _) (⟨wi.heap.size, rfl, _, hx.size, Blk.new' (by simp), rfl⟩))
   simp [execOp, go_sem]
  |n + 11, hn => exact absurd hn (by omega)
 ·skip
  have t10 : IsPc wA.heap.size (xs 10) w1 := hT 10 (by decide)
  have t49 : Fx (.agg #[.string pnm, .slice pAE pnE pcE, .int .i64 pgr, .slice pAN pnN pcN, .slice pAC pnC pcC, .slice pAW pnW pcW, .bool pmt]) (xs 9) w1 := hT 9 (by decide)
  simp only [frOf, putAll, List.drop_succ_cons, List.drop_zero, List.setIfInBounds_toArray, List.set_cons_succ, List.set_cons_zero, Nat.zero_add, Nat.reduceAdd]
  obtain ⟨g, hg, zc, hgs, hbl, hcl⟩ := t10
  obtain ⟨p6, hp6⟩ : ∃ v, v = xs 10 := ⟨_, rfl⟩
  rw [← hp6] at hg ⊢
  clear hp6
  subst hg
  match zc, hcl with
  |[z0, z1, z2, z3, z4, z5, z6], _ =>
  obtain ⟨e0, e1, e2, e3, e4, e5, e6⟩ := blk7 hbl
  have hxs9 : xs 9 = .agg #[.string pnm, .slice pAE pnE pcE, .int .i64 pgr, .slice pAN pnN pcN, .slice pAC pnC pcC, .slice pAW pnW pcW, .bool pmt] := t49
  rw [hxs9]
  have f0 := hbl.frozen 0; have f1 := hbl.frozen 1; have f2 := hbl.frozen 2; have f3 := hbl.frozen 3; have f4 := hbl.frozen 4; have f5 := hbl.frozen 5; have f6 := hbl.frozen 6
  have hgl := hbl.lt
  have HXR := Lib.hid hx
  have HBL := Lib.hid hbl
  clear hT t49 hxs9 hx hbl
  go_upto_region 7 with fail
  refine wp_at fun W2 hW2 => ?_
  have HB2 : Hid (Blk 40 W2 g [.string pnm, .slice pAE pnE pcE, .int .i64 pgr, .slice pAN pnN pcN, .slice pAC pnC pcC, .slice pAW pnW pcW, .bool pmt]) := by show Blk _ _ _ _; rw [hW2]; exact Blk.put7 ⟨_, _, _, _, _, _, _, HBL.out⟩ _ _ _ _ _ _ _
  have HX2 : Hid (Ext wA W2) := by show Ext _ _; rw [hW2]; exact ext_put7 HXR.out hgs _ _ _ _ _ _ _
  clear hW2 HBL HXR f0 f1 f2 f3 f4 f5 f6 e0 e1 e2 e3 e4 e5 e6
  obtain ⟨c0, c1, c2, c3, c4, c5, c6⟩ := blk7 (HB1.out.ext HX2.out)
  obtain ⟨d0, d1, d2, d3, d4, d5, d6⟩ := blk7 HB2.out
  have m0 := HX2.out.cell HM0.out
  have hmn : (sz : Int) < nM := by omega
  have HB3 := Lib.hid (HB1.out.ext HX2.out)
  have HM3 := Lib.hid m0
  clear m0 c0 c1 c2 c3 c4 c5 c6 d0 d1 d2 d3 d4 d5 d6
  refine region_slots0 (l := 12) (N := 63) (W0 := W2) [51, 52, 53, 54, 55, 56, 57, 50, 58, 59, 11, 12] [Fx (.agg #[.string pnm, .slice pAE pnE pcE, .int .i64 pgr, .slice pAN pnN pcN, .slice pAC pnC pcC, .slice pAW pnW pcW, .bool pmt]), Fx (.pointer (some ⟨w.heap.size, 2, none⟩)), Fx (.slice (some ⟨bm, om, none⟩) nM cM), Fx (.int .i64 (sz : Int)), Fx (.pointer (some ⟨bm, om + sz, none⟩)), Fx (.int .i64 m), IsG W2.heap.size (gradedR P.es P.cs m) (gradedE P.es P.cs m), IsG W2.heap.size (gradedR P.es P.cs m) (gradedE P.es P.cs m), IsGe W2.heap.size (gradedR P.es P.cs m) (gradedE P.es P.cs m), Fx (.int .i64 (gradedR P.es P.cs m)), IsGe W2.heap.size (gradedR P.es P.cs m) (gradedE P.es P.cs m), Fx (.int .i64 (gradedR P.es P.cs m))] (by kernel_rfl) (by kernel_rfl) (by kernel_rfl) (by kernel_rfl) (Ext.refl _) ?kp (fun i hi => ?_) (fun xs w1 hx hT => ?_)
  case kp => exact ⟨Fx.kp _, Fx.kp _, Fx.kp _, Fx.kp _, Fx.kp _, Fx.kp _, IsG.kp _ _ _, IsG.kp _ _ _, IsGe.kp _ _ _, Fx.kp _, IsGe.kp _ _ _, Fx.kp _, trivial⟩
  ·match i, hi with
   |0, _ =>
    refine so rfl ?_
    intro fb wi hx hb hd K hK
    have x10 : fb.eval (.tmp 10) = .pointer (some ⟨g, 0, none⟩) := hb 10 rfl
    obtain ⟨d0, d1, d2, d3, d4, d5, d6⟩ := blk7 (HB2.out.ext hx)
    refine sv rfl (v := .agg #[.string pnm, .slice pAE pnE pcE, .int .i64 pgr, .slice pAN pnN pcN, .slice pAC pnC pcC, .slice pAW pnW pcW, .bool pmt]) (w' := wi) (fun ρ hρ hc => ?_) (hK _ _ (Ext.refl _) (rfl))
    have r10 := (hρ (.tmp 10)).trans x10
    simp [execOp, go_sem, r10, d0, d1, d2, d3, d4, d5, d6]
   |1, _ =>
    refine so rfl ?_
    intro fb wi hx hb hd K hK
    have x3 : fb.eval (.tmp 3) = .pointer (some ⟨w.heap.size, 0, none⟩) := hb 3 rfl
    refine sv rfl (v := .pointer (some ⟨w.heap.size, 2, none⟩)) (w' := wi) (fun ρ hρ hc => ?_) (hK _ _ (Ext.refl _) (rfl))
    have r3 := (hρ (.tmp 3)).trans x3
    simp [execOp, go_sem, r3]
   |2, _ =>
    refine so rfl ?_
    intro fb wi hx hb hd K hK
    have x52 : fb.eval (.tmp 52) = .pointer (some ⟨w.heap.size, 2, none⟩) := hd 1 52 rfl (by kernel_rfl)
    have cf0 := (HB3.out.ext hx).cell 2
    simp only [List.getElem?_cons_zero, List.getElem?_cons_succ] at cf0
    refine sv rfl (v := .slice (some ⟨bm, om, none⟩) nM cM) (w' := wi) (fun ρ hρ hc => ?_) (hK _ _ (Ext.refl _) (rfl))
    have r52 := (hρ (.tmp 52)).trans x52
    simp [execOp, go_sem, r52, cf0]
   |3, _ =>
    refine so rfl ?_
    intro fb wi hx hb hd K hK
    have x1 : fb.eval (.tmp 1) = .int .i64 (sz : Int) := hb 1 rfl
    refine sv rfl (v := .int .i64 (sz : Int)) (w' := wi) (fun ρ hρ hc => ?_) (hK _ _ (Ext.refl _) (rfl))
    have r1 := (hρ (.tmp 1)).trans x1
    simp [execOp, go_sem, r1]
   |4, _ =>
    refine so rfl ?_
    intro fb wi hx hb hd K hK
    have x53 : fb.eval (.tmp 53) = .slice (some ⟨bm, om, none⟩) nM cM := hd 2 53 rfl (by kernel_rfl)
    have x54 : fb.eval (.tmp 54) = .int .i64 (sz : Int) := hd 3 54 rfl (by kernel_rfl)
    refine sv rfl (v := .pointer (some ⟨bm, om + sz, none⟩)) (w' := wi) (fun ρ hρ hc => ?_) (hK _ _ (Ext.refl _) (rfl))
    have r53 := (hρ (.tmp 53)).trans x53
    have r54 := (hρ (.tmp 54)).trans x54
    simp [execOp, go_sem, r53, r54, hmn, h2]
   |5, _ =>
    refine so rfl ?_
    intro fb wi hx hb hd K hK
    have x55 : fb.eval (.tmp 55) = .pointer (some ⟨bm, om + sz, none⟩) := hd 4 55 rfl (by kernel_rfl)
    have v0 := hx.cell HM3.out
    refine sv rfl (v := .int .i64 m) (w' := wi) (fun ρ hρ hc => ?_) (hK _ _ (Ext.refl _) (rfl))
    have r55 := (hρ (.tmp 55)).trans x55
    simp [execOp, go_sem, r55, v0]
   |6, _ =>
    refine so rfl ?_
    intro fb wi hx hb hd K hK
    have x51 : fb.eval (.tmp 51) = .agg #[.string pnm, .slice pAE pnE pcE, .int .i64 pgr, .slice pAN pnN pcN, .slice pAC pnC pcC, .slice pAW pnW pcW, .bool pmt] := hd 0 51 rfl (by kernel_rfl)
    have x56 : fb.eval (.tmp 56) = .int .i64 m := hd 5 56 rfl (by kernel_rfl)
    refine sc rfl 15 [.tmp 51, .tmp 56] #[40, 3] rfl _ Tryz.func15 rfl (by decide +kernel) [.agg #[.string pnm, .slice pAE pnE pcE, .int .i64 pgr, .slice pAN pnN pcN, .slice pAC pnC pcC, .slice pAW pnW pcW, .bool pmt], .int .i64 m] (by simp only [List.map_cons, List.map_nil, x51, x56]) (retG_is (HGR.out wi (HX2.out.trans hx)) hx.size) (fun e w' h => rk hK h)
   |7, _ =>
    refine so rfl ?_
    intro fb wi hx hb hd K hK
    have y57 : IsG W2.heap.size (gradedR P.es P.cs m) (gradedE P.es P.cs m) (fb.eval (.tmp 57)) wi := hd 6 57 rfl (by kernel_rfl)
    refine sv rfl (v := fb.eval (.tmp 57)) (w' := wi) (fun ρ hρ hc => ?_) (hK _ _ (Ext.refl _) y57)
    simp [execOp, go_sem, hρ (.tmp 57)]
   |8, _ =>
    refine so rfl ?_
    intro fb wi hx hb hd K hK
    have y50 : IsG W2.heap.size (gradedR P.es P.cs m) (gradedE P.es P.cs m) (fb.eval (.tmp 50)) wi := hd 7 50 rfl (by kernel_rfl)
    obtain ⟨u50, x50, hu50⟩ := y50
    refine sv rfl (v := u50) (w' := wi) (fun ρ hρ hc => ?_) (hK _ _ (Ext.refl _) (hu50))
    have r50 := (hρ (.tmp 50)).trans x50
    simp [execOp, go_sem, r50]
   |9, _ =>
    refine so rfl ?_
    intro fb wi hx hb hd K hK
    have y50 : IsG W2.heap.size (gradedR P.es P.cs m) (gradedE P.es P.cs m) (fb.eval (.tmp 50)) wi := hd 7 50 rfl (by kernel_rfl)
    obtain ⟨u50, x50, hu50⟩ := y50
    refine sv rfl (v := .int .i64 (gradedR P.es P.cs m)) (w' := wi) (fun ρ hρ hc => ?_) (hK _ _ (Ext.refl _) (rfl))
    have r50 := (hρ (.tmp 50)).trans x50
    simp [execOp, go_sem, r50]
   |10, _ =>
    refine so rfl ?_
    intro fb wi hx hb hd K hK
    have y58 : IsGe W2.heap.size (gradedR P.es P.cs m) (gradedE P.es P.cs m) (fb.eval (.tmp 58)) wi := hd 8 58 rfl (by kernel_rfl)
    refine sv rfl (v := fb.eval (.tmp 58)) (w' := wi) (fun ρ hρ hc => ?_) (hK _ _ (Ext.refl _) y58)
    simp [execOp, go_sem, hρ (.tmp 58)]
   |11, _ =>
    refine so rfl ?_
    intro fb wi hx hb hd K hK
    have y59 : Fx (.int .i64 (gradedR P.es P.cs m)) (fb.eval (.tmp 59)) wi := hd 9 59 rfl (by kernel_rfl)
    refine sv rfl (v := fb.eval (.tmp 59)) (w' := wi) (fun ρ hρ hc => ?_) (hK _ _ (Ext.refl _) y59)
    simp [execOp, go_sem, hρ (.tmp 59)]
   |n + 12, hn => exact absurd hn (by omega)
  ·skip
   simp only [frOf, putAll, List.drop_succ_cons, List.drop_zero, List.setIfInBounds_toArray, List.set_cons_succ, List.set_cons_zero, Nat.zero_add, Nat.reduceAdd]
   have t11 : IsGe W2.heap.size (gradedR P.es P.cs m) (gradedE P.es P.cs m) (xs 10) w1 := hT 10 (by decide)
   have t12 : xs 11 = .int .i64 (gradedR P.es P.cs m) := hT 11 (by decide)
   rw [t12]
   obtain ⟨v11, hv11⟩ : ∃ v, v = xs 10 := ⟨_, rfl⟩
   rw [← hv11] at t11 ⊢
   clear hv11 t12
   have HT11 := Lib.hid t11
   have HX3 := Lib.hid hx
   obtain ⟨rc, hrb, hrl⟩ := HR0.out
   match rc, hrl with
   |[r0, r1, r2, r3, r4, r5, r6], _ =>
   have HRB := Lib.hid (((hrb.ext HX1.out).ext HX2.out).ext HX3.out)
   obtain ⟨e0, e1, e2, e3, e4, e5, e6⟩ := blk7 HRB.out
   obtain ⟨d0, d1, d2, d3, d4, d5, d6⟩ := blk7 (HB2.out.ext HX3.out)
   have f0 := HRB.out.frozen 0; have f1 := HRB.out.frozen 1; have f2 := HRB.out.frozen 2; have f3 := HRB.out.frozen 3; have f4 := HRB.out.frozen 4; have f5 := HRB.out.frozen 5; have f6 := HRB.out.frozen 6
   obtain ⟨R, hR⟩ : ∃ R, R = gradedR P.es P.cs m := ⟨_, rfl⟩
   rw [← hR]
   have HRR := Lib.hid hR
   have HB4 := Lib.hid (HB2.out.ext HX3.out)
   have HGN : Hid (w.heap.size + 1 < wA.heap.size) := by
    have h1 := hrb.lt; have h2 := HX1.out.size
    show _ < _
    omega
   have hne : ¬ g = w.heap.size + 1 := by have := HGN.out; omega
   clear hR hT t11 hx hrb
   go_upto_region 8 with fail
   refine region_slotsR (l := 5) (N := 63) (W0 := w1) (olR (w.heap.size + 1)) [60, 61, 62, 6, 1000] (olT (w.heap.size + 1) v11 R pnm pAE pAN pAC pAW pnE pcE pnN pcN pnC pcC pnW pcW pgr pmt) (by kernel_rfl) (by kernel_rfl) (by kernel_rfl) (by kernel_rfl) ⟨(Kept.refl _ _).drew, fun h => h⟩ (fun _ _ _ h1 h2 => ⟨h1.1.trans h2.1, fun h => h2.2 (h1.2 h)⟩) (fun i hi => ?_) ?_
   ·match i, hi with
    |0, _ =>
     refine so rfl ?_
     intro b xs W hR hb hv hd K hK
     have e1 : b.eval (.tmp 11) = v11 := hb 11 rfl
     refine sv rfl (v := v11) (w' := W) (fun ρ hρ hc => ?_) (hK _ _ (olR_refl _ _) (fun _ _ _ h => h) rfl)
     have re1 := (hρ (.tmp 11)).trans e1
     simp [execOp, go_sem, re1]
    |1, _ =>
     refine so rfl ?_
     intro b xs W hR hb hv hd K hK
     have e1 : b.eval (.tmp 10) = .pointer (some ⟨g, 0, none⟩) := hb 10 rfl
     obtain ⟨a0, a1, a2, a3, a4, a5, a6⟩ := blk7 (hR.1.blk HB4.out hne)
     refine sv rfl (v := .agg #[.string pnm, .slice pAE pnE pcE, .int .i64 pgr, .slice pAN pnN pcN, .slice pAC pnC pcC, .slice pAW pnW pcW, .bool pmt]) (w' := W) (fun ρ hρ hc => ?_) (hK _ _ (olR_refl _ _) (fun _ _ _ h => h) rfl)
     have re1 := (hρ (.tmp 10)).trans e1
     simp [execOp, go_sem, re1, a0, a1, a2, a3, a4, a5, a6]
    |2, _ =>
     refine so rfl ?_
     intro b xs W hR hb hv hd K hK
     have e1 : b.eval (.tmp 12) = .int .i64 R := hb 12 rfl
     refine sv rfl (v := .int .i64 R) (w' := W) (fun ρ hρ hc => ?_) (hK _ _ (olR_refl _ _) (fun _ _ _ h => h) rfl)
     have re1 := (hρ (.tmp 12)).trans e1
     simp [execOp, go_sem, re1]
    |3, _ =>
     refine so rfl ?_
     intro b xs W hR hb hv hd K hK
     have e1 : b.eval (.tmp 60) = v11 := (hv 0 60 rfl (by omega)).trans (hd 0 (by kernel_rfl))
     refine sv rfl (v := v11) (w' := W) (fun ρ hρ hc => ?_) (hK _ _ (olR_refl _ _) (fun _ _ _ h => h) rfl)
     have re1 := (hρ (.tmp 60)).trans e1
     simp [execOp, go_sem, re1]
    |4, _ =>
     refine so rfl ?_
     intro b xs W hR hb hv hd K hK
     have e1 : b.eval (.tmp 7) = .pointer (some ⟨w.heap.size + 1, 0, none⟩) := hb 7 rfl
     have e2 : b.eval (.tmp 61) = .agg #[.string pnm, .slice pAE pnE pcE, .int .i64 pgr, .slice pAN pnN pcN, .slice pAC pnC pcC, .slice pAW pnW pcW, .bool pmt] := (hv 1 61 rfl (by omega)).trans (hd 1 (by kernel_rfl))
     have hhp : HasP W (w.heap.size + 1) := hR.2 ⟨_, _, _, _, _, _, _, HRB.out⟩
     obtain ⟨z0, z1, z2, z3, z4, z5, z6, hz⟩ := hR.2 ⟨_, _, _, _, _, _, _, HRB.out⟩
     obtain ⟨s0, s1, s2, s3, s4, s5, s6⟩ := blk7 hz
     have f0 := hz.frozen 0; have f1 := hz.frozen 1; have f2 := hz.frozen 2; have f3 := hz.frozen 3; have f4 := hz.frozen 4; have f5 := hz.frozen 5; have f6 := hz.frozen 6
     refine step_skipR (wanted_all rfl) (w' := putP W (w.heap.size + 1) (.string pnm) (.slice pAE pnE pcE) (.int .i64 pgr) (.slice pAN pnN pcN) (.slice pAC pnC pcC) (.slice pAW pnW pcW) (.bool pmt)) (fun ρ hρ hc => ?_) (hK _ _ ⟨kept_put7 _ _ _ _ _ _ _, fun _ => ⟨_, _, _, _, _, _, _, Blk.put7 hhp _ _ _ _ _ _ _⟩⟩ (fun j u hj h => olT_ne hj h) (Blk.put7 hhp _ _ _ _ _ _ _))
     have re1 := (hρ (.tmp 7)).trans e1; have re2 := (hρ (.tmp 61)).trans e2
     simp [execOp, go_sem, re1, re2, s0, s1, s2, s3, s4, s5, s6, f0, f1, f2, f3, f4, f5, f6, putP]
    |n + 5, hn => exact absurd hn (by omega)
   refine so rfl ?_
   intro xs w3 hR hT b hb1 hb hv K hK
   have e1 : b.eval (.tmp 62) = .int .i64 R := (hv 2 62 rfl (by omega)).trans (hT 2 (by decide))
   refine sv rfl (v := .int .i64 R) (w' := w3) (fun ρ hρ hc => ?_) ?_
   ·have re1 := (hρ (.tmp 62)).trans e1
    simp [execOp, go_sem, re1]
   refine hK _ _ ?_
   have q3 : xs 3 = v11 := hT 3 (by decide)
   have HB5 := Lib.hid (show Blk 40 w3 (w.heap.size + 1) _ from hT 4 (by decide))
   have HKP := Lib.hid hR.1
   have HX5 : Hid (Ext w w3) := hR.1.ext ((HXW.out.trans HX2.out).trans HX3.out) (fun k e => by subst e; omega)
   subst hb1
   clear hK K hb hv e1 hT hR
   simp only [Act.put, frOf, putAll, List.setIfInBounds_toArray, List.set_cons_succ, List.set_cons_zero, List.set_nil, Nat.zero_add, Nat.reduceAdd, q3]
   clear q3
   obtain ⟨y0, hy0⟩ : ∃ y, y = xs 0 := ⟨_, rfl⟩
   obtain ⟨y1, hy1⟩ : ∃ y, y = xs 1 := ⟨_, rfl⟩
   obtain ⟨y2, hy2⟩ : ∃ y, y = xs 2 := ⟨_, rfl⟩
   rw [← hy0, ← hy1, ← hy2]
   clear hy0 hy1 hy2
   clear xs
   obtain ⟨a0, a1, a2, a3, a4, a5, a6⟩ := blk7 HB5.out
   go_wp2_with fail
   refine bodyPost_ret (v := .tuple #[v11, .agg #[.string pnm, .slice pAE pnE pcE, .int .i64 pgr, .slice pAN pnN pcN, .slice pAC pnC pcC, .slice pAW pnW pcW, .bool pmt], .int .i64 R]) (by simp [results, Tryz.results29, go_sem, a0, a1, a2, a3, a4, a5, a6]) rfl ?_
   have hlow : ∀ k, k = w.heap.size + 1 → k < W2.heap.size := fun k e => by have := HGN.out; have := HX2.out.size; omega
   have hbs : w.heap.size ≤ W2.heap.size := by have := HGN.out; have := HX2.out.size; omega
   rw [← HPP.out, ← HMM.out]
   refine ⟨v11, ⟨pnm, pAE, pnE, pcE, pgr, pAN, pnN, pcN, pAC, pnC, pcC, pAW, pnW, pcW, pmt⟩, by rw [HRR.out], HQ0.out.ext HX5.out, fun h0 => ((HT11.out.1 h0).low HKP.out hlow).base_le hbs, fun h0 => HT11.out.2 h0, HX5.out⟩
def cutE (p : Pc) (m : Int) : Int := if gradedR p.es p.cs m ≠ 0 then gradedR p.es p.cs m else alE (gradedE p.es p.cs m) p.ws
def RetCut (w : World) (p : Pc) (m : Int) (e : Ending) (w' : World) : Prop := ∃ v, e = .returned (.tuple #[v, .int .i64 (cutE p m)]) ∧ (cutE p m = 0 → OwnS w' w.heap.size v (ptsA (gradedE p.es p.cs m) p.ws)) ∧ (cutE p m ≠ 0 → v = .slice none 0 0) ∧ Ext w w'
/- what Allow wants of a graded outline -/
structure CutOk (p : Pc) (m : Int) : Prop where
 o : ocheck (gradedE p.es p.cs m) = 0
 w : WOk p.ws
 v : VOk (verts (gradedE p.es p.cs m))
 a : AOk (gradedE p.es p.cs m) p.ws
set_option maxRecDepth 100000 in
set_option maxHeartbeats 3200000 in
theorem cut_any (a : StyA) (x : StyX) (sz us pi : Nat) (w : World) (hs : StyXAt w a x) (hN : x.sz.length ≤ 1000) (hZ : ∀ k, k < x.sz.length → (gB x.sz k).size ≤ 9223372036854775807) (hok : styE x = 0) (hsz : sz < x.sz.length) (hlm : x.ms.length = x.sz.length) (hus : us < x.us.length) (hpi : (gU x.us us).pc = (pi : Int)) (hpl : pi < x.ps.length)
  (hw : (gPx x.ps pi).p.ws.length = (gPx x.ps pi).p.es.length) (hA : gradedR (gPx x.ps pi).p.es (gPx x.ps pi).p.cs (gI x.ms sz) = 0 → CutOk (gPx x.ps pi).p (gI x.ms sz)) :
  Calls Tryz.prog 9 #[a.val, .int .i64 (sz : Int), .int .i64 (us : Int)] w (RetCut w (gPx x.ps pi).p (gI x.ms sz)) := by
 have HOL := Lib.hid (fun W (h : Ext w W) => outlineOf_any a x sz us pi W (hs.ext h) hN hZ hok hsz hlm hus hpi hpl)
 obtain ⟨P, hP⟩ : ∃ P, P = (gPx x.ps pi).p := ⟨_, rfl⟩
 obtain ⟨m, hm⟩ : ∃ m, m = gI x.ms sz := ⟨_, rfl⟩
 rw [← hP, ← hm] at HOL hA ⊢
 rw [← hP] at hw
 have HAO := Lib.hid hA; have HW := Lib.hid hw
 clear hs hN hZ hok hsz hlm hus hpi hpl hA hw hP hm
 obtain ⟨nm, AS, nS, cS, AM, nM, cM, AP, nP, cP, AU, nU, cU, AK, nK, cK, AO, nO, cO⟩ := a
 simp only [StyA.val] at HOL ⊢
 go_enter Tryz.func9, Tryz.ntmps9
 go_wp2_with fail
 refine (HOL.out _ ((Ext.refl _).alloc _)).mono ?_
 rintro e w1 ⟨v, pa, rfl, hp, h0, h1, he⟩
 have HX1 := Lib.hid (((Ext.refl w).alloc _).trans he)
 have HP1 := Lib.hid hp
 have HE1 := Lib.hid h0
 clear he hp h0
 obtain ⟨R, hR⟩ : ∃ R, R = gradedR P.es P.cs m := ⟨_, rfl⟩
 rw [← hR] at h1 HE1 HAO ⊢
 have HR := Lib.hid hR
 have HV1 := Lib.hid h1
 clear hR h1
 obtain ⟨pnm, pAE, pnE, pcE, pgr, pAN, pnN, pcN, pAC, pnC, pcC, pAW, pnW, pcW, pmt⟩ := pa
 by_cases hz : R = 0
 rotate_left
 ·have hzb : (R != 0) = true := by simp [hz]
  have HZ := Lib.hid hz
  clear hz
  go_wp2_with fail
  go_ret2
  have hc : cutE P m = R := by unfold cutE; rw [← HR.out, if_pos HZ.out]
  exact ⟨_, by rw [hc]; rfl, fun h => absurd (hc.symm.trans h) HZ.out, fun _ => rfl, HX1.out.alloc _⟩
 ·subst hz
  have HE2 := HE1.out rfl
  obtain ⟨A, cap, hv, hA1, hA2, hA3⟩ := HE2.slice
  have HVE := Lib.hid hv
  have HEA := Lib.hid hA1
  have hc : cutE P m = alE (gradedE P.es P.cs m) P.ws := by unfold cutE; rw [← HR.out, if_neg (by simp)]
  have HC := Lib.hid hc
  clear hv hA1 HE2 hc
  have hco := HAO.out rfl
  have HCO := Lib.hid hco
  clear hco
  obtain rfl : pnW = (gradedE P.es P.cs m).length := by rw [gradedE_len, ← HW.out]; exact HP1.out.li.symm
  rw [HVE.out]
  go_wp2_with fail
  have hx2 : Ext w1 (w1.alloc (.cells #[.string pnm, .slice pAE pnE pcE, .int .i64 pgr, .slice pAN pnN pcN, .slice pAC pnC pcC, .slice pAW (gradedE P.es P.cs m).length pcW, .bool pmt] 40)) := (Ext.refl _).alloc _
  refine (allow_any A pAW (gradedE P.es P.cs m).length cap pcW (gradedE P.es P.cs m) P.ws _ (HEA.out.ext hx2) rfl hA2 hA3 (HP1.out.i.ext hx2) HP1.out.li HCO.out.o HCO.out.w HCO.out.v HCO.out.a).mono ?_
  rintro e w2 ⟨v2, rfl, h0, h1, he⟩
  have H0 := Lib.hid h0; have H1 := Lib.hid h1; have HX2 := Lib.hid (hx2.trans he)
  have HS := Lib.hid (Nat.le_trans HX1.out.size hx2.size)
  clear h0 h1 he hx2
  go_wp2_with fail
  go_ret2
  refine ⟨v2, by rw [HC.out]; rfl, fun h => own_base_le (H0.out (HC.out.symm.trans h)) HS.out, fun h => H1.out (fun e => h (HC.out.trans e)), HX1.out.trans HX2.out⟩
end Go.Proofs.YtfegbaokcbjllaaGreat
