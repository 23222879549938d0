/- notch.alone -/
import Derived.Deep.CutRange
import Derived.Test.YtliijigdbpmpaaaGreatKNotP
/- plain: notches without a counterpart. No program in sight. -/
namespace Go.Proofs.YtliijigdbpmpaaaGreat
open Go.RowKit
/- is a notch on the edge near a place -/
def nearF (ns : List Spot) (pl : List Int) (edge place : Int) (i : Nat) : Bool := decide ((gS ns i).1 = edge ∧ gapN (gI pl i) place ≤ 1000)
def hasB (ns : List Spot) (pl : List Int) (edge place : Int) : Bool := (List.range ns.length).any (nearF ns pl edge place)
/- a side of a seam -/
structure Sd where
  ns : List Spot
  pl : List Int
  edge : Int
  len : Int
def alnB (a b : Sd) (rev : Bool) (i : Nat) : Bool := decide ((gS a.ns i).1 = a.edge) && (decide (partE a.len b.len (gI a.pl i) ≠ 0) || !hasB b.ns b.pl b.edge (partV a.len b.len rev (gI a.pl i)))
def alnTo (a b : Sd) (rev : Bool) (k : Nat) : List Nat := (List.range k).filter (alnB a b rev)
def alnL (a b : Sd) (rev : Bool) : List Nat := alnTo a b rev a.ns.length
theorem alnTo_yes {a b : Sd} {rev : Bool} {k : Nat} (h : alnB a b rev k = true) : alnTo a b rev (k + 1) = alnTo a b rev k ++ [k] := by
  unfold alnTo; rw [List.range_succ, List.filter_append]; simp [h]
theorem alnTo_no {a b : Sd} {rev : Bool} {k : Nat} (h : alnB a b rev k = false) : alnTo a b rev (k + 1) = alnTo a b rev k := by
  unfold alnTo; rw [List.range_succ, List.filter_append]; simp [h]
theorem alnTo_len (a b : Sd) (rev : Bool) (k : Nat) : (alnTo a b rev k).length ≤ k := by
  unfold alnTo; exact Nat.le_trans (List.length_filter_le _ _) (by simp)
/- issues: kind, seam, notch -/
abbrev Iss := Int × Int × Int
def sdA (s : Sty) (z : Int) (k : Nat) : Sd := ⟨(gPc s.ps (gSm s.ss k).pa.toNat).ns, plL (gPc s.ps (gSm s.ss k).pa.toNat) (gI s.ms z.toNat), (gSm s.ss k).ea, (lensV s z k).1⟩
def sdB (s : Sty) (z : Int) (k : Nat) : Sd := ⟨(gPc s.ps (gSm s.ss k).pb.toNat).ns, plL (gPc s.ps (gSm s.ss k).pb.toNat) (gI s.ms z.toNat), (gSm s.ss k).eb, (lensV s z k).2.1⟩
def issK (kind : Int) (k : Nat) (l : List Nat) : List Iss := l.map fun (i : Nat) => (kind, (k : Int), (i : Int))
def seamIss (s : Sty) (z : Int) (k : Nat) : List Iss := issK 1 k (alnL (sdA s z k) (sdB s z k) (gSm s.ss k).rev) ++ issK 2 k (alnL (sdB s z k) (sdA s z k) (gSm s.ss k).rev)
def unmTo (s : Sty) (z : Int) (k : Nat) : List Iss := (List.range k).flatMap (seamIss s z)
def unmL (s : Sty) (z : Int) : List Iss := unmTo s z s.ss.length
def seamE (s : Sty) (z : Int) (k : Nat) : Int :=
  if (lensV s z k).2.2 ≠ 0 then (lensV s z k).2.2
  else if plE (gPc s.ps (gSm s.ss k).pa.toNat) (gI s.ms z.toNat) ≠ 0 then plE (gPc s.ps (gSm s.ss k).pa.toNat) (gI s.ms z.toNat)
  else plE (gPc s.ps (gSm s.ss k).pb.toNat) (gI s.ms z.toNat)
def unmE (s : Sty) (z : Int) : Int := if sizeB s z = false then 3 else firstE (seamE s z) s.ss.length
theorem unmTo_succ (s : Sty) (z : Int) (k : Nat) : unmTo s z (k + 1) = unmTo s z k ++ seamIss s z k := by
  unfold unmTo; rw [List.range_succ, List.flatMap_append]; simp
theorem gapN_self (x : Int) : gapN x x = 0 := by unfold gapN; split <;> omega
/- a line that is valid has a length -/
theorem length_pos {l : List Spot} (h : lcheck l = 0) : 1 ≤ lengthN l := by
  obtain ⟨h2, h40, hin, hne⟩ := (lcheck_iff l).1 h
  unfold lengthN
  rw [if_neg (fun h' => h' h)]
  have h1 := seg_pos (hin 0 (by omega)) (hin 1 (by omega)) (hne 0 (by omega))
  have h3 := lenTo_mono (l := l) (show 1 ≤ l.length - 1 by omega)
  have h4 : lenTo l 1 = seg (gS l 0) (gS l 1) := by simp [lenTo]
  omega
/- an edge sewn to itself -/
theorem self_none {p : Pc} {m : Int} {edge : Int} (h : PlOk p m) (h0 : 0 ≤ edge) (h1 : edge < p.es.length) :
    alnL ⟨p.ns, plL p m, edge, (grdN p m edge.toNat : Int)⟩ ⟨p.ns, plL p m, edge, (grdN p m edge.toNat : Int)⟩ false = [] := by
  unfold alnL alnTo
  rw [List.filter_eq_nil_iff]
  intro i hi
  have hi' : i < p.ns.length := List.mem_range.1 hi
  unfold alnB
  simp only
  by_cases he : (gS p.ns i).1 = edge
  · have hn := h.i i hi'
    have hb := plV_bd hn
    rw [he] at hb
    have hL : 1 ≤ grdN p m edge.toNat := length_pos (graded_lines h.g (by omega))
    have hLb := lengthN_bd (gE (gradedE p.es p.cs m) edge.toNat).2
    rw [plL_get hi']
    obtain ⟨x, hx⟩ := Int.eq_ofNat_of_zero_le hb.1
    have hxle : x ≤ grdN p m edge.toNat := by omega
    have hok : prtB (grdN p m edge.toNat : Int) (grdN p m edge.toNat : Int) (plV p m i) = true := prtB_iff.2 (by unfold grdN at *; omega)
    have hz := partE_zero.2 hok
    have hv : partV (grdN p m edge.toNat : Int) (grdN p m edge.toNat : Int) false (plV p m i) = plV p m i := by
      unfold partV partN
      rw [hok, hx]
      simp only [if_true, Bool.false_eq_true, if_false, Int.toNat_natCast]
      rw [part_self hL]
    rw [hz, hv]
    have hh : hasB p.ns (plL p m) edge (plV p m i) = true := by
      unfold hasB
      rw [List.any_eq_true]
      refine ⟨i, List.mem_range.2 hi', ?_⟩
      unfold nearF
      rw [plL_get hi', gapN_self]
      exact decide_eq_true ⟨he, by omega⟩
    rw [hh]; simp
  · simp [he]
end Go.Proofs.YtliijigdbpmpaaaGreat
/- notch.side.has -/
namespace Go.Proofs.YtliijigdbpmpaaaGreat
open Go.RowKit
/- where a side lies -/
structure SdA where
  AN : Option Addr
  nN : Nat
  cN : Nat
  AP : Option Addr
  cP : Nat
abbrev SdV (a : SdA) (d : Sd) : Value := .agg #[.slice a.AN a.nN a.cN, .slice a.AP a.nN a.cP, .int .i64 d.edge, .int .i64 d.len]
structure SdAt (w : World) (a : SdA) (d : Sd) : Prop where
  n : SpotsAt w a.AN d.ns
  ln : d.ns.length = a.nN
  p : IntsAt w a.AP d.pl
  lp : d.pl.length = a.nN
  b : a.nN ≤ 16
  r : ∀ i, i < d.ns.length → 0 ≤ gI d.pl i ∧ gI d.pl i ≤ 1000000000000
theorem SdAt.ext {w w' : World} {a : SdA} {d : Sd} (h : SdAt w a d) (he : Ext w w') : SdAt w' a d := ⟨h.n.ext he, h.ln, h.p.ext he, h.lp, h.b, h.r⟩
theorem hasB_yes {ns : List Spot} {pl : List Int} {edge place : Int} {k : Nat} (hk : k < ns.length) (h : nearF ns pl edge place k = true) : hasB ns pl edge place = true :=
  List.any_eq_true.2 ⟨k, List.mem_range.2 hk, h⟩
theorem hasB_no {ns : List Spot} {pl : List Int} {edge place : Int} (h : ∀ k, k < ns.length → nearF ns pl edge place k = false) : hasB ns pl edge place = false := by
  unfold hasB
  rw [List.any_eq_false]
  intro k hk
  rw [h k (List.mem_range.1 hk)]; decide
set_option maxRecDepth 100000 in
set_option maxHeartbeats 1600000 in
theorem has_any (a : SdA) (d : Sd) (x : Int) (w : World) (hd : SdAt w a d) (hx0 : -1000000000000 ≤ x) (hx1 : x ≤ 1000000000000) :
    Calls Tryz.prog 43 #[SdV a d, .int .i64 x] w fun e w' => e = .returned (.bool (hasB d.ns d.pl d.edge x)) ∧ Ext w w' := by
  have HD := Lib.hid hd; clear hd
  obtain ⟨AN, nN, cN, AP, cP⟩ := a
  obtain ⟨ns, pl, edge, len⟩ := d
  have HN : Hid (SpotsAt w AN ns) := HD.out.n
  have HLN : Hid (ns.length = nN) := HD.out.ln
  have HP : Hid (IntsAt w AP pl) := HD.out.p
  have HLP : Hid (pl.length = nN) := HD.out.lp
  have hb : nN ≤ 16 := HD.out.b
  have HRR : Hid (∀ i, i < ns.length → 0 ≤ gI pl i ∧ gI pl i ≤ 1000000000000) := HD.out.r
  clear HD
  simp only [SdV]
  go_enter Tryz.func43, Tryz.ntmps43
  go_wp2_with fail
  refine wp_at fun W0 hW0 => ?_
  have hB : Blk 74 W0 w.heap.size [.slice AN nN cN, .slice AP nN cP, .int .i64 edge, .int .i64 len] := by rw [hW0]; exact Blk.new' rfl
  have hx0' : Ext w W0 := by rw [hW0]; exact (Ext.refl _).alloc _
  have HB := Lib.hid hB; have HX0 := Lib.hid hx0'; clear hW0 hB hx0'
  go_loopw [10] (fun i wr => ∃ k : Nat, k ≤ nN ∧ i = .int .i64 k ∧ (∀ j, j < k → nearF ns pl edge x j = false) ∧ Ext W0 wr) (fun i _ => nN - (intOf i).toNat)
  case atStart => exact ⟨0, Nat.zero_le _, rfl, fun j hj => absurd hj (Nat.not_lt_zero _), Ext.refl _⟩
  case round =>
    obtain ⟨k, hk, rfl, hall, hx⟩ := hrel
    have HALL := Lib.hid hall; have HX := Lib.hid hx; clear hall hx
    by_cases hlt : k < nN
    · have hkl : k < ns.length := by rw [HLN.out]; exact hlt
      obtain ⟨bn, on, hAN, n0, n1⟩ := (HN.out.ext (HX0.out.trans HX.out)).g (k := k) hkl
      subst hAN
      obtain ⟨hr0, hr1⟩ := HRR.out k hkl
      obtain ⟨bp, op, hAP, p0⟩ := (HP.out.ext (HX0.out.trans HX.out)).g (k := k) (by rw [HLP.out]; exact hlt)
      subst hAP
      obtain ⟨PV, hPV⟩ : ∃ PV, PV = gI pl k := ⟨_, rfl⟩
      obtain ⟨ed, hed⟩ : ∃ ed, ed = (gS ns k).1 := ⟨_, rfl⟩
      rw [← hPV] at p0 hr0 hr1
      rw [← hed] at n0
      have HNF : Hid (nearF ns pl edge x k = decide (ed = edge ∧ gapN PV x ≤ 1000)) := by show _ = _; unfold nearF; rw [← hPV, ← hed]
      clear hPV hed
      have hnl := cell_lt n0
      have hpl := cell_lt p0
      go_upto_region 4 with fail
      refine wp_at fun W1 hW1 => ?_
      have hNb : Blk 55 W1 wr.heap.size [.int .i64 ed, .int .i64 (gS ns k).2] := by rw [hW1]; exact Blk.new' rfl
      have hx1' : Ext wr W1 := by rw [hW1]; exact (Ext.refl _).alloc _
      obtain ⟨m0, m1⟩ := blk2 hNb
      have p1 := hx1'.cell p0
      have HX1 := Lib.hid (HX.out.trans hx1')
      have HB1 := Lib.hid (HB.out.ext HX1.out)
      have b1 := HB1.out.cell 1
      have b2 := HB1.out.cell 2
      simp only [List.getElem?_cons_succ, List.getElem?_cons_zero] at b1 b2
      clear hW1 hNb hx1' n0 n1 p0 hnl hpl
      have z0 := fun z : After W1 => After.cell m0 z
      have z1 := fun z : After W1 => After.cell p1 z
      have z2 := fun z : After W1 => After.cell b1 z
      have z3 := fun z : After W1 => After.cell b2 z
      have wA : IntKind.i64.wrap (PV - x) = PV - x := IntWalk.i64_in _ (by omega)
      have wB : IntKind.i64.wrap (x - PV) = x - PV := IntWalk.i64_in _ (by omega)
      have hkk : (k : Int) < nN := by omega
      have hkk0 : (0 : Int) ≤ k := by omega
      by_cases he : ed = edge
      · have heb : (ed == edge) = true := by simp [he]
        by_cases hg : PV - x < x - PV
        · by_cases hn : x - PV ≤ 1000
          · have HYES : Hid (nearF ns pl edge x k = true) := by show _ = _; rw [HNF.out]; exact decide_eq_true ⟨he, by unfold gapN; rw [if_pos hg]; exact hn⟩
            refine region_ext (by kernel_rfl) (by kernel_rfl) ?_
            repeat (first | go_big_quiet_step (fail) | (go_big_quiet_want; go_simp; go_big_quiet_on))
            refine wpQuiet_nil ?_
            rintro w3 ⟨⟨_, he3⟩, rfl⟩
            clear z0 z1 z2 z3 m0 m1 p1 b1 b2 heb
            go_wp2_with fail
            go_ret
            exact ⟨ret_bool (hasB_yes hkl HYES.out).symm, (HX0.out.trans HX1.out).trans he3⟩
          · have HNOT : Hid (nearF ns pl edge x k = false) := by show _ = _; rw [HNF.out]; exact decide_eq_false (fun h => hn (by have := h.2; unfold gapN at this; rwa [if_pos hg] at this))
            refine region_ext (by kernel_rfl) (by kernel_rfl) ?_
            repeat (first | go_big_quiet_step (fail) | (go_big_quiet_want; go_simp; go_big_quiet_on))
            refine wpQuiet_nil ?_
            rintro w3 ⟨⟨_, he3⟩, rfl⟩
            clear z0 z1 z2 z3 m0 m1 p1 b1 b2 heb
            go_wp2_with fail
            go_roundw
            case rel => exact ⟨k + 1, by omega, by go_num, fun j hj => by
              rcases Nat.lt_succ_iff_lt_or_eq.1 hj with h | h
              · exact HALL.out j h
              · subst h; exact HNOT.out, HX1.out.trans he3⟩
            case measure => simp [intOf]; omega
        · by_cases hn : PV - x ≤ 1000
          · have HYES : Hid (nearF ns pl edge x k = true) := by show _ = _; rw [HNF.out]; exact decide_eq_true ⟨he, by unfold gapN; rw [if_neg hg]; exact hn⟩
            refine region_ext (by kernel_rfl) (by kernel_rfl) ?_
            repeat (first | go_big_quiet_step (fail) | (go_big_quiet_want; go_simp; go_big_quiet_on))
            refine wpQuiet_nil ?_
            rintro w3 ⟨⟨_, he3⟩, rfl⟩
            clear z0 z1 z2 z3 m0 m1 p1 b1 b2 heb
            go_wp2_with fail
            go_ret
            exact ⟨ret_bool (hasB_yes hkl HYES.out).symm, (HX0.out.trans HX1.out).trans he3⟩
          · have HNOT : Hid (nearF ns pl edge x k = false) := by show _ = _; rw [HNF.out]; exact decide_eq_false (fun h => hn (by have := h.2; unfold gapN at this; rwa [if_neg hg] at this))
            refine region_ext (by kernel_rfl) (by kernel_rfl) ?_
            repeat (first | go_big_quiet_step (fail) | (go_big_quiet_want; go_simp; go_big_quiet_on))
            refine wpQuiet_nil ?_
            rintro w3 ⟨⟨_, he3⟩, rfl⟩
            clear z0 z1 z2 z3 m0 m1 p1 b1 b2 heb
            go_wp2_with fail
            go_roundw
            case rel => exact ⟨k + 1, by omega, by go_num, fun j hj => by
              rcases Nat.lt_succ_iff_lt_or_eq.1 hj with h | h
              · exact HALL.out j h
              · subst h; exact HNOT.out, HX1.out.trans he3⟩
            case measure => simp [intOf]; omega
      · have heb : (ed == edge) = false := by simp [he]
        have HNOT : Hid (nearF ns pl edge x k = false) := by show _ = _; rw [HNF.out]; exact decide_eq_false (fun h => he h.1)
        refine region_ext (by kernel_rfl) (by kernel_rfl) ?_
        repeat (first | go_big_quiet_step (fail) | (go_big_quiet_want; go_simp; go_big_quiet_on))
        refine wpQuiet_nil ?_
        rintro w3 ⟨⟨_, he3⟩, rfl⟩
        clear z0 z1 z2 z3 m0 m1 p1 b1 b2 heb
        go_wp2_with fail
        go_roundw
        case rel => exact ⟨k + 1, by omega, by go_num, fun j hj => by
          rcases Nat.lt_succ_iff_lt_or_eq.1 hj with h | h
          · exact HALL.out j h
          · subst h; exact HNOT.out, HX1.out.trans he3⟩
        case measure => simp [intOf]; omega
    · obtain rfl : k = nN := by omega
      go_wp2_with fail
      go_ret
      exact ⟨ret_bool (hasB_no (fun j hj => HALL.out j (by rw [HLN.out] at hj; exact hj))).symm, HX0.out.trans HX.out⟩
end Go.Proofs.YtliijigdbpmpaaaGreat
namespace Go.Proofs.YtliijigdbpmpaaaGreat
open Go.RowKit
theorem partV_bd {f t a : Int} {r : Bool} (ht0 : 0 ≤ t) (ht : t ≤ 1000000000000) : 0 ≤ partV f t r a ∧ partV f t r a ≤ 1000000000000 := by
  unfold partV
  split
  · rename_i h
    obtain ⟨h1, h2, h3, h4, h5, h6⟩ := prtB_iff.1 h
    have := part_le (a := a.toNat) (t := t.toNat) (f := f.toNat) (by omega) (by omega)
    unfold partN
    split <;> omega
  · omega
def castL (l : List Nat) : List Int := l.map fun (i : Nat) => (i : Int)
theorem castL_append (a b : List Nat) : castL (a ++ b) = castL a ++ castL b := by simp [castL]
theorem castL_len (a : List Nat) : (castL a).length = a.length := by simp [castL]
def RetAl (w : World) (x y : Sd) (rev : Bool) (e : Ending) (w' : World) : Prop := ∃ v, e = .returned v ∧ OwnI w' w.heap.size v (castL (alnL x y rev)) ∧ Ext w w'
set_option maxRecDepth 100000 in
set_option maxHeartbeats 3200000 in
theorem alone_any (a b : SdA) (x y : Sd) (rev : Bool) (w : World) (ha : SdAt w a x) (hb : SdAt w b y) (hl0 : 0 ≤ y.len) (hl1 : y.len ≤ 1000000000000) :
    Calls Tryz.prog 26 #[SdV a x, SdV b y, .bool rev] w (RetAl w x y rev) := by
  have HH := Lib.hid (fun z W (h : Ext w W) (h0 : -1000000000000 ≤ z) (h1 : z ≤ 1000000000000) => has_any b y z W (hb.ext h) h0 h1)
  have HA := Lib.hid ha; clear ha hb
  obtain ⟨AN, nN, cN, AP, cP⟩ := a
  obtain ⟨BN, mN, dN, BP, dP⟩ := b
  have HAL : Hid (∀ i, alnB x y rev i = (decide ((gS x.ns i).1 = x.edge) && (decide (partE x.len y.len (gI x.pl i) ≠ 0) || !hasB y.ns y.pl y.edge (partV x.len y.len rev (gI x.pl i))))) := fun i => rfl
  have HPB : Hid (∀ i, 0 ≤ partV x.len y.len rev (gI x.pl i) ∧ partV x.len y.len rev (gI x.pl i) ≤ 1000000000000) := fun i => partV_bd hl0 hl1
  have HLL : Hid (alnL x y rev = alnTo x y rev x.ns.length) := rfl
  have HN : Hid (SpotsAt w AN x.ns) := HA.out.n
  have HLN : Hid (x.ns.length = nN) := HA.out.ln
  have HP : Hid (IntsAt w AP x.pl) := HA.out.p
  have HLP : Hid (x.pl.length = nN) := HA.out.lp
  have hb16 : nN ≤ 16 := HA.out.b
  clear HA
  simp only [SdV] at HH ⊢
  obtain ⟨i0, hi0, hz0, hz1, hz2⟩ := info_parts int_info
  go_enter Tryz.func26, Tryz.ntmps26
  go_wp2_with fail
  refine wp_at fun W0 hW0 => ?_
  have HB0 : Hid (Blk 74 W0 w.heap.size [.slice AN nN cN, .slice AP nN cP, .int .i64 x.edge, .int .i64 x.len]) := by show Blk _ _ _ _; rw [hW0]; exact (Blk.new' rfl).ext ((Ext.refl _).alloc _)
  have HC0 : Hid (Blk 74 W0 (w.heap.size + 1) [.slice BN mN dN, .slice BP mN dP, .int .i64 y.edge, .int .i64 y.len]) := by show Blk _ _ _ _; rw [hW0]; exact Blk.new' (by simp)
  have HX0 : Hid (Ext w W0) := by show Ext _ _; rw [hW0]; exact ((Ext.refl _).alloc _).alloc _
  clear hW0
  go_loopw [7, 15] (fun v i wr => ∃ k : Nat, k ≤ nN ∧ i = .int .i64 k ∧ OwnI wr W0.heap.size v (castL (alnTo x y rev k)) ∧ Ext W0 wr) (fun _ i _ => nN - (intOf i).toNat)
  case atStart => exact ⟨0, Nat.zero_le _, rfl, OwnI.nil _ _, Ext.refl _⟩
  case round =>
    obtain ⟨k, hk, rfl, ho, hx⟩ := hrel
    have hlk : (castL (alnTo x y rev k)).length ≤ k := by rw [castL_len]; exact alnTo_len x y rev k
    obtain ⟨LK, hLK⟩ : ∃ LK, LK = castL (alnTo x y rev k) := ⟨_, rfl⟩
    rw [← hLK] at ho hlk
    have HLKE := Lib.hid hLK; have HO := Lib.hid ho; have HX := Lib.hid hx; clear hLK ho hx
    have HXw := Lib.hid (HX0.out.trans HX.out)
    by_cases hlt : k < nN
    · have hkl : k < x.ns.length := by rw [HLN.out]; exact hlt
      have HALk := Lib.hid (HAL.out k)
      obtain ⟨hp0, hp1⟩ := HPB.out k
      obtain ⟨bn, on, hAN, n0, n1⟩ := (HN.out.ext HXw.out).g (k := k) hkl
      subst hAN
      obtain ⟨bp, op, hAP, p0⟩ := (HP.out.ext HXw.out).g (k := k) (by rw [HLP.out]; exact hlt)
      subst hAP
      obtain ⟨PL, hPL⟩ : ∃ PL, PL = gI x.pl k := ⟨_, rfl⟩
      obtain ⟨ed, hed⟩ : ∃ ed, ed = (gS x.ns k).1 := ⟨_, rfl⟩
      rw [← hPL] at p0 hp0 hp1 HALk
      rw [← hed] at n0 HALk
      clear hPL hed
      have hnl := cell_lt n0
      have hpl := cell_lt p0
      have HB1 := Lib.hid (HB0.out.ext HX.out)
      have b2 := HB1.out.cell 2
      simp only [List.getElem?_cons_succ, List.getElem?_cons_zero] at b2
      have hbl : w.heap.size < wr.heap.size := HB1.out.lt
      by_cases he : ed = x.edge
      rotate_left
      · have hne : (ed != x.edge) = true := by simp [he]
        have HNO : Hid (alnB x y rev k = false) := by show _ = _; rw [HALk.out, decide_eq_false he]; rfl
        have HO2 := Lib.hid (own_ext HO.out (show Ext wr (wr.alloc (.cells #[.int .i64 ed, .int .i64 (gS x.ns k).2] 55)) from (Ext.refl _).alloc _))
        go_wp2_with fail
        go_roundw
        case rel => exact ⟨k + 1, by omega, by go_num, by rw [alnTo_no HNO.out, ← HLKE.out]; exact HO2.out, HX.out.alloc _⟩
        case measure => simp [intOf]; omega
      have hne : (ed != x.edge) = false := by simp [he]
      rw [decide_eq_true he, Bool.true_and] at HALk
      go_upto_region 6 with fail
      refine wp_at fun W1 hW1 => ?_
      have hx1 : Ext wr W1 := by rw [hW1]; exact (Ext.refl _).alloc _
      have p1 := hx1.cell p0
      have HX1 := Lib.hid (HX.out.trans hx1)
      have HXr1 := Lib.hid hx1
      clear hW1 hx1 n0 n1 p0 hnl hpl b2 hbl
      have HBb := Lib.hid (HB0.out.ext HX1.out); have HCb := Lib.hid (HC0.out.ext HX1.out)
      have b1 := HBb.out.cell 1
      have b3 := HBb.out.cell 3
      have c3 := HCb.out.cell 3
      simp only [List.getElem?_cons_succ, List.getElem?_cons_zero] at b1 b3 c3
      obtain ⟨PV, hPV⟩ : ∃ PV, PV = partV x.len y.len rev PL := ⟨_, rfl⟩
      obtain ⟨PE, hPE⟩ : ∃ PE, PE = partE x.len y.len PL := ⟨_, rfl⟩
      rw [← hPV] at hp0 hp1
      rw [← hPV, ← hPE] at HALk
      have HPt : Hid (∀ W : World, Calls Tryz.prog 31 #[.int .i64 x.len, .int .i64 y.len, .bool rev, .int .i64 PL] W fun e w' => e = .returned (.tuple #[.int .i64 PV, .int .i64 PE]) ∧ Ext W w') := fun W => by rw [hPV, hPE]; exact partner_any x.len y.len PL rev W
      clear hPV hPE
      have z1 := fun z : After W1 => After.cell p1 z
      have z2 := fun z : After W1 => After.cell b1 z
      have z3 := fun z : After W1 => After.cell b3 z
      have z4 := fun z : After W1 => After.cell c3 z
      have hkk : (k : Int) < nN := by omega
      have hkk0 : (0 : Int) ≤ k := by omega
      refine region_ext (by kernel_rfl) (by kernel_rfl) ?_
      repeat (first | go_big_quiet_step ((go_at_call 31; exact after_call (HPt.out _))) | (go_big_quiet_want; go_simp; go_big_quiet_on))
      refine wpQuiet_nil ?_
      rintro w2 ⟨⟨_, he2⟩, rfl⟩
      clear z1 z2 z3 z4 p1 b1 b3 c3 hne
      have HX2 := Lib.hid (HX1.out.trans he2); have HXr2 := Lib.hid (HXr1.out.trans he2)
      clear he2
      have H63 : Hid (LK.length + 1 ≤ maxLen) := by show _ ≤ _; unfold maxLen; omega
      have H64 : Hid ((LK.length + 1) * 8 ≤ 140737488355328) := by show _ ≤ _; omega
      by_cases hz : PE = 0
      · have hzb : (PE != 0) = false := by simp [hz]
        rw [decide_eq_false (show ¬ PE ≠ 0 from fun h => h hz), Bool.false_or] at HALk
        obtain ⟨d0, d1, d2, d3⟩ : w2.cell? ⟨w.heap.size + 1, 0, none⟩ = some (.slice BN mN dN) ∧ w2.cell? ⟨w.heap.size + 1, 1, none⟩ = some (.slice BP mN dP) ∧ w2.cell? ⟨w.heap.size + 1, 2, none⟩ = some (.int .i64 y.edge) ∧ w2.cell? ⟨w.heap.size + 1, 3, none⟩ = some (.int .i64 y.len) :=
          ⟨(HC0.out.ext HX2.out).cell 0, (HC0.out.ext HX2.out).cell 1, (HC0.out.ext HX2.out).cell 2, (HC0.out.ext HX2.out).cell 3⟩
        clear hz
        go_wp2_with fail
        refine (HH.out PV _ (HX0.out.trans HX2.out) (by omega) hp1).mono ?_
        rintro e w3 ⟨rfl, he3⟩
        clear d0 d1 d2 d3
        have HX3 := Lib.hid (HX2.out.trans he3); have HXr3 := Lib.hid (HXr2.out.trans he3)
        clear he3
        cases hh : hasB y.ns y.pl y.edge PV
        · rw [hh] at HALk
          have HYES : Hid (alnB x y rev k = true) := HALk.out
          have hbb : W0.heap.size ≤ w3.heap.size := HX3.out.size
          have HC6 : Hid (W0.heap.size ≤ (w3.alloc (.cells #[.int .i64 (k : Int)] 3)).heap.size) := by show _ ≤ _; simp; omega
          clear hh
          go_wp2_with (at_builtin; refine wpList_append_own _ rfl (.tmp 47) (.tmp 49) 25 rfl W0.heap.size 3 i0 (.int .i64 0) 1 8 Tryz.underlying25 hi0 hz0 hz1 hz2 rfl (by decide) _ _ _ rfl (World.ownsRow.alloc (own_ext HO.out HXr3.out) _) ⟨w3.heap.size, 0, none⟩ 1 1 [.int .i64 (k : Int)] rfl rfl (World.news_of_block (cs := #[.int .i64 (k : Int)]) (t := 3) (fr := (0, 0)) (heap_alloc_new w3 _)) (by simp [Value.oneCell']) H63.out H64.out HC6.out ?_)
          intro v' w4 hown' hgrow _
          have hO' : OwnI w4 W0.heap.size v' (castL (alnTo x y rev (k + 1))) := by
            rw [alnTo_yes HYES.out, castL_append, ← HLKE.out]
            unfold OwnI icells
            rw [List.length_append, List.map_append]
            exact hown'
          have hx' : Ext W0 w4 := (HX3.out.alloc _).grown hgrow (fun g hg => (World.ownsRow.lt HO.out g hg).1)
          have HO' := Lib.hid hO'; clear hO' hown' hgrow
          go_wp2_with fail
          go_roundw
          case rel => exact ⟨k + 1, by omega, by go_num, HO'.out, hx'⟩
          case measure => simp [intOf]; omega
        · rw [hh] at HALk
          have HNO : Hid (alnB x y rev k = false) := HALk.out
          have HO2 := Lib.hid (own_ext HO.out HXr3.out)
          clear hh
          go_wp2_with fail
          go_roundw
          case rel => exact ⟨k + 1, by omega, by go_num, by rw [alnTo_no HNO.out, ← HLKE.out]; exact HO2.out, HX3.out⟩
          case measure => simp [intOf]; omega
      · have hzb : (PE != 0) = true := by simp [hz]
        rw [decide_eq_true hz, Bool.true_or] at HALk
        have HYES : Hid (alnB x y rev k = true) := HALk.out
        have hbb : W0.heap.size ≤ w2.heap.size := HX2.out.size
        have HC6 : Hid (W0.heap.size ≤ (w2.alloc (.cells #[.int .i64 (k : Int)] 3)).heap.size) := by show _ ≤ _; simp; omega
        clear hz
        go_wp2_with (at_builtin; refine wpList_append_own _ rfl (.tmp 47) (.tmp 49) 25 rfl W0.heap.size 3 i0 (.int .i64 0) 1 8 Tryz.underlying25 hi0 hz0 hz1 hz2 rfl (by decide) _ _ _ rfl (World.ownsRow.alloc (own_ext HO.out HXr2.out) _) ⟨w2.heap.size, 0, none⟩ 1 1 [.int .i64 (k : Int)] rfl rfl (World.news_of_block (cs := #[.int .i64 (k : Int)]) (t := 3) (fr := (0, 0)) (heap_alloc_new w2 _)) (by simp [Value.oneCell']) H63.out H64.out HC6.out ?_)
        intro v' w4 hown' hgrow _
        have hO' : OwnI w4 W0.heap.size v' (castL (alnTo x y rev (k + 1))) := by
          rw [alnTo_yes HYES.out, castL_append, ← HLKE.out]
          unfold OwnI icells
          rw [List.length_append, List.map_append]
          exact hown'
        have hx' : Ext W0 w4 := (HX2.out.alloc _).grown hgrow (fun g hg => (World.ownsRow.lt HO.out g hg).1)
        have HO' := Lib.hid hO'; clear hO' hown' hgrow
        go_wp2_with fail
        go_roundw
        case rel => exact ⟨k + 1, by omega, by go_num, HO'.out, hx'⟩
        case measure => simp [intOf]; omega
    · obtain rfl : k = nN := by omega
      go_wp2_with fail
      go_ret
      refine ⟨_, rfl, ?_, HXw.out⟩
      rw [HLL.out, HLN.out, ← HLKE.out]
      exact own_base_le HO.out HX0.out.size
end Go.Proofs.YtliijigdbpmpaaaGreat
