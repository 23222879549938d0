/- The law NotchSelf: for every input it returns true and leaves its arguments as they were. No conditions. -/
import Derived.Test.YtliijigdbpmpaaaRows
import Derived.OpenShut
import Derived.Test.YtliijigdbpmpaaaKAwake
import Derived.Test.YtliijigdbpmpaaaKOpenS
/- plain: a seam of an edge with itself -/
namespace Go.Proofs.Ytliijigdbpmpaaa
open Go.RowKit
def slS (p : Pc) (edge m : Int) : Sty := ⟨[m], [p], [⟨0, edge, 0, edge, false, 0⟩]⟩
theorem slS_E (p : Pc) (edge m : Int) : unmE (slS p edge m) 0 = seamE (slS p edge m) 0 0 := by
  unfold unmE
  rw [if_neg (by simp [sizeB, slS])]
  show firstE _ 1 = _
  unfold firstE firstE
  simp
theorem slS_lens (p : Pc) (edge m : Int) : lensE (slS p edge m) 0 0 = if ¬ (0 ≤ edge ∧ edge < p.es.length) then 3 else gradedR p.es p.cs m := by
  have hg : gSm (slS p edge m).ss 0 = ⟨0, edge, 0, edge, false, 0⟩ := rfl
  have hp : gPc (slS p edge m).ps 0 = p := rfl
  have hm : gI (slS p edge m).ms 0 = m := rfl
  unfold lensE
  rw [if_neg (fun h => h ⟨by simp [sizeB, slS], by omega, by simp [slS]⟩)]
  simp only [Int.toNat_zero, hg, hp, hm]
  have he : edgeB (slS p edge m) 0 edge = decide (0 ≤ edge ∧ edge < p.es.length) := by
    unfold edgeB
    simp only [Int.toNat_zero, hp]
    simp [slS]
  rw [he]
  by_cases h : 0 ≤ edge ∧ edge < p.es.length
  · rw [if_neg (fun h' => h' ⟨decide_eq_true h, decide_eq_true h⟩), show (if ¬ (0 ≤ edge ∧ edge < p.es.length) then (3 : Int) else gradedR p.es p.cs m) = gradedR p.es p.cs m from if_neg (fun h' => h' h)]
    split
    · rfl
    · rfl
  · rw [if_pos (fun h' => h (of_decide_eq_true h'.1)), if_pos h]
theorem slS_out {p : Pc} {edge m : Int} (h : ¬ (0 ≤ edge ∧ edge < p.es.length)) : unmE (slS p edge m) 0 = 3 := by
  rw [slS_E]
  unfold seamE lensV
  have e := slS_lens p edge m
  rw [if_pos h] at e
  rw [show ((0 : Nat) : Int) = 0 from rfl, e]
  simp
theorem plE_graded {p : Pc} {m : Int} (h : gradedR p.es p.cs m ≠ 0) : plE p m = gradedR p.es p.cs m := by unfold plE; rw [if_pos h]
theorem slS_in {p : Pc} {edge m : Int} (h : 0 ≤ edge ∧ edge < p.es.length) : unmE (slS p edge m) 0 = plE p m := by
  rw [slS_E]
  have e := slS_lens p edge m
  rw [if_neg (fun h' => h' h)] at e
  have hg : gSm (slS p edge m).ss 0 = ⟨0, edge, 0, edge, false, 0⟩ := rfl
  have hp : gPc (slS p edge m).ps 0 = p := rfl
  have hm : gI (slS p edge m).ms 0 = m := rfl
  unfold seamE lensV
  rw [show ((0 : Nat) : Int) = 0 from rfl, e, hg]
  simp only [Int.toNat_zero, hp, hm]
  by_cases hz : gradedR p.es p.cs m = 0
  · simp [hz]
  · simp [hz, plE_graded hz]
theorem slS_L {p : Pc} {edge m : Int} (h : 0 ≤ edge ∧ edge < p.es.length) (hz : plE p m = 0) : unmL (slS p edge m) 0 = [] := by
  have hok := plE_zero.1 hz
  have e := slS_lens p edge m
  rw [if_neg (fun h' => h' h), hok.g] at e
  have hg : gSm (slS p edge m).ss 0 = ⟨0, edge, 0, edge, false, 0⟩ := rfl
  have hp : gPc (slS p edge m).ps 0 = p := rfl
  have hm : gI (slS p edge m).ms 0 = m := rfl
  have hn := self_none hok h.1 h.2
  have hl : lnN p m edge.toNat = grdN p m edge.toNat := by unfold lnN grdN; rw [if_neg (fun h' => h' hok.g)]
  have hv : lensV (slS p edge m) 0 0 = ((grdN p m edge.toNat : Int), (grdN p m edge.toNat : Int), 0) := by
    unfold lensV lensA lensB
    rw [if_neg (fun h' => h' e)]
    simp only [Int.toNat_zero, hg, hp, hm, hl]
  have hA : sdA (slS p edge m) 0 0 = ⟨p.ns, plL p m, edge, (grdN p m edge.toNat : Int)⟩ := by
    unfold sdA
    rw [show ((0 : Nat) : Int) = 0 from rfl, hv, hg]
    simp only [Int.toNat_zero, hp, hm]
  have hB : sdB (slS p edge m) 0 0 = ⟨p.ns, plL p m, edge, (grdN p m edge.toNat : Int)⟩ := by
    unfold sdB
    rw [show ((0 : Nat) : Int) = 0 from rfl, hv, hg]
    simp only [Int.toNat_zero, hp, hm]
  show unmTo _ _ (0 + 1) = []
  rw [unmTo_succ]
  unfold seamIss
  rw [hA, hB, hg, hn]
  rfl
end Go.Proofs.Ytliijigdbpmpaaa
/- R21.Light, said of a piece -/
namespace Go.Proofs.Ytliijigdbpmpaaa
open Go.RowKit
structure LtP (p : Pc) (most : Nat) : Prop where
  e : p.es.length ≤ 20
  c : p.cs.length ≤ 20
  w : p.ws.length ≤ 20
  n : p.ns.length ≤ 20
  l : ∀ k, k < p.es.length → (gE p.es k).2.length ≤ most ∧ (gE p.es k).1.size ≤ 100
theorem lightP_any (a : PcA) (p : Pc) (most : Nat) (hm : most ≤ 1000) (w : World) (hp : PcAt w a p) :
    Calls Try.prog 26 #[a.val, .int .i64 (most : Int)] w fun e w' => ∃ b, e = .returned (.bool b) ∧ Ext w w' ∧ (b = true → LtP p most) :=
  (light_any a.nm a.AE a.AN a.AC a.AW a.nE a.cE a.nN a.cN a.nC a.cC a.nW a.cW a.gr a.mt p.es w most hm hp.e hp.le).mono fun e w' ⟨b, h1, h2, h3⟩ => ⟨b, h1, h2, fun hb => by
    obtain ⟨g1, g2, g3, g4, g5⟩ := h3 hb
    exact ⟨g1, by rw [hp.lc]; exact g2, by rw [hp.li]; exact g3, by rw [hp.ln]; exact g4, g5⟩⟩
end Go.Proofs.Ytliijigdbpmpaaa
/- garmentref23.Light -/
namespace Go.Proofs.Ytliijigdbpmpaaa
open Go.RowKit
def RetL3 (w : World) (p : Pc) (e : Ending) (w' : World) : Prop := ∃ b, e = .returned (.bool b) ∧ Ext w w' ∧ (b = true → LtP p 60)
set_option maxRecDepth 100000 in
set_option maxHeartbeats 1600000 in
theorem light3_any (a : PcA) (p : Pc) (w : World) (hp : PcAt w a p) :
    Calls Try.prog 9 #[a.val] w (RetL3 w p) := by
  have HL := Lib.hid (fun W (h : Ext w W) => lightP_any a p 60 (by omega) W (hp.ext h))
  clear hp
  obtain ⟨nm, AE, nE, cE, gr, AN, nN, cN, AC, nC, cC, AW, nW, cW, mt⟩ := a
  simp only [PcA.val] at HL ⊢
  go_enter Try.func9, Try.ntmps9
  go_wp2_with fail
  refine (HL.out _ ((Ext.refl _).alloc _)).mono ?_
  rintro e w1 ⟨b, rfl, he, hb⟩
  have HX := Lib.hid (((Ext.refl w).alloc _).trans he); have HB := Lib.hid hb
  clear he hb
  go_wp2_with fail
  go_ret
  exact ⟨b, rfl, HX.out, HB.out⟩
end Go.Proofs.Ytliijigdbpmpaaa
/- NotchSelf returns true -/
namespace Go.Proofs.Ytliijigdbpmpaaa
open Go.RowKit
theorem sl_sty {W : World} {bM bP bK : Nat} {a : PcA} {p : Pc} {edge m : Int} (hM : Blk 3 W bM (icells [m])) (hp : PcAt W a p) (hP : Blk 27 W bP a.cells) (hK : Blk 53 W bK [.int .i64 0, .int .i64 edge, .int .i64 0, .int .i64 edge, .bool false, .int .i64 0]) :
    StyAt W ⟨⟨#[]⟩, none, 0, 0, some ⟨bM, 0, none⟩, 1, 1, some ⟨bP, 0, none⟩, 1, 1, none, 0, 0, some ⟨bK, 0, none⟩, 1, 1, none, 0, 0⟩ (slS p edge m) := by
  refine ⟨(OwnI.plain (own_of_int (base := 0) (L := [m]) hM (Nat.zero_le _) (Nat.le_of_ble_eq_true rfl))).2.1, fun k hk' => ?_, fun k hk' => ?_, rfl, rfl, rfl, by simp only; omega, by simp only; omega, by simp only; omega⟩
  · match k, hk' with
    | 0, _ => exact ⟨bP, 0, a, rfl, hp, hP.cell 0, hP.cell 1, hP.cell 2, hP.cell 3, hP.cell 4, hP.cell 5, hP.cell 6⟩
  · match k, hk' with
    | 0, _ => exact ⟨bK, 0, rfl, hK.cell 0, hK.cell 1, hK.cell 2, hK.cell 3, hK.cell 4, hK.cell 5⟩
set_option maxRecDepth 100000 in
set_option maxHeartbeats 3200000 in
theorem selfL_any (a : PcA) (p : Pc) (edge m : Int) (w : World) (hp : PcAt w a p) :
    Calls Try.prog 5 #[a.val, .int .i64 edge, .int .i64 m] w fun e w' => e = .returned (.bool true) ∧ Ext w w' := by
  have HP := Lib.hid hp; clear hp
  have H1 := Lib.hid (fun W (h : Ext w W) => light3_any a p W (HP.out.ext h))
  have H2 := Lib.hid (fun W (h : Ext w W) => placedS_any a p m W (HP.out.ext h))
  have H3 := Lib.hid (fun W (h : Ext w W) bM bP bK hM hP hK => unmatched_any _ _ 0 W (sl_sty (W := W) (bM := bM) (bP := bP) (bK := bK) (edge := edge) (m := m) hM (HP.out.ext h) hP hK) (Nat.le_of_ble_eq_true rfl))
  have HLE : Hid (p.es.length = a.nE) := HP.out.le
  obtain ⟨nm, AE, nE, cE, gr, AN, nN, cN, AC, nC, cC, AW, nW, cW, mt⟩ := a
  simp only [PcA.val, PcA.cells, StyA.val] at H1 H2 H3 HLE ⊢
  clear HP
  go_enter Try.func5, Try.ntmps5
  go_wp2_with fail
  refine (H1.out _ ((Ext.refl _).alloc _)).mono ?_
  rintro e w1 ⟨b, rfl, he1, hb⟩
  have HB1 : Hid (Blk 27 w1 w.heap.size [.string nm, .slice AE nE cE, .int .i64 gr, .slice AN nN cN, .slice AC nC cC, .slice AW nW cW, .bool mt]) := (Blk.new' rfl).ext he1
  have HX1 := Lib.hid (((Ext.refl w).alloc _).trans he1)
  clear he1
  cases b
  · clear hb
    go_wp2_with fail
    refine (awake_any _).mono ?_
    rintro e w2 ⟨rfl, he2⟩
    go_wp2_with fail
    go_ret
    exact ⟨rfl, HX1.out.trans he2⟩
  have HLT := Lib.hid (hb rfl); clear hb
  obtain ⟨c0, c1, c2, c3, c4, c5, c6⟩ := blk7 HB1.out
  have hlt := HB1.out.lt
  go_upto_region 4 with fail
  refine wp_at fun w2 hw2 => ?_
  have HX2 : Hid (Ext w1 w2) := by show Ext _ _; rw [hw2]; exact ((((Ext.refl _).alloc _).alloc _).alloc _).alloc _
  have HM2 : Hid (Blk 3 w2 w1.heap.size (icells [m])) := by show Blk _ _ _ _; rw [hw2]; exact (((Blk.new' rfl).ext (ext1 _ _)).ext (ext1 _ _)).ext (ext1 _ _)
  have HP2 : Hid (Blk 27 w2 (w1.heap.size + 1) [.string nm, .slice AE nE cE, .int .i64 gr, .slice AN nN cN, .slice AC nC cC, .slice AW nW cW, .bool mt]) := by show Blk _ _ _ _; rw [hw2]; exact ((Blk.new' (by simp)).ext (ext1 _ _)).ext (ext1 _ _)
  have HK2 : Hid (Blk 53 w2 (w1.heap.size + 1 + 1) [.int .i64 0, .int .i64 edge, .int .i64 0, .int .i64 edge, .bool false, .int .i64 0]) := by show Blk _ _ _ _; rw [hw2]; exact (Blk.new' (by simp)).ext (ext1 _ _)
  have HT2 : Hid (Blk 59 w2 (w1.heap.size + 1 + 1 + 1) [.string ⟨#[]⟩, .slice none 0 0, .slice (some ⟨w1.heap.size, 0, none⟩) 1 1, .slice (some ⟨w1.heap.size + 1, 0, none⟩) 1 1, .slice none 0 0, .slice (some ⟨w1.heap.size + 1 + 1, 0, none⟩) 1 1, .slice none 0 0]) := by show Blk _ _ _ _; rw [hw2]; exact Blk.new' (by simp)
  clear hw2 c0 c1 c2 c3 c4 c5 c6 hlt
  obtain ⟨t0, t1, t2, t3, t4, t5, t6⟩ := blk7 HT2.out
  go_wp2_with fail
  refine (H3.out _ (HX1.out.trans HX2.out) _ _ _ HM2.out HP2.out HK2.out).mono ?_
  rintro e w3 ⟨v, rfl, ho, ho', he3⟩
  have HX3 := Lib.hid ((HX1.out.trans HX2.out).trans he3)
  have HB3 := Lib.hid (HB1.out.ext (HX2.out.trans he3))
  clear t0 t1 t2 t3 t4 t5 t6 HM2 HP2 HK2 HT2 he3
  obtain ⟨c0, c1, c2, c3, c4, c5, c6⟩ := blk7 HB3.out
  have hv : ∃ A c, v = .slice A 0 c := by
    by_cases hz : unmE (slS p edge m) 0 = 0
    · by_cases hr : 0 ≤ edge ∧ edge < p.es.length
      · have h := ho hz
        rw [slS_L hr (by rw [← slS_in hr]; exact hz)] at h
        obtain ⟨A, c, h', _⟩ := OwnK.slice' (n := 0) h rfl
        exact ⟨A, c, h'⟩
      · rw [slS_out hr] at hz; cases hz
    · exact ⟨none, 0, ho' hz⟩
  obtain ⟨A4, c4', rfl⟩ := hv
  clear ho ho'
  have HOUT : Hid (¬ (0 ≤ edge ∧ edge < nE) → unmE (slS p edge m) 0 = 3) := fun h => slS_out (by rw [HLE.out]; exact h)
  have HIN : Hid (0 ≤ edge ∧ edge < nE → unmE (slS p edge m) 0 = plE p m) := fun h => slS_in (by rw [HLE.out]; exact h)
  generalize unmE (slS p edge m) 0 = E at HOUT HIN ⊢
  generalize plE p m = F at H2 HIN
  go_wp2_with fail
  refine (H2.out _ HX3.out).mono ?_
  rintro e w4 ⟨A1, n1, c1', rfl, _, he4⟩
  have HX4 := Lib.hid (HX3.out.trans he4)
  have b1 := he4.cell c1
  clear he4 c0 c1 c2 c3 c4 c5 c6
  by_cases g0 : edge < 0
  · obtain rfl : E = 3 := HOUT.out (by omega)
    go_wp2_with fail
    refine (awake_any _).mono ?_
    rintro e w5 ⟨rfl, he5⟩
    go_wp2_with fail
    go_ret
    exact ⟨rfl, HX4.out.trans he5⟩
  by_cases g1 : (nE : Int) ≤ edge
  · obtain rfl : E = 3 := HOUT.out (by omega)
    go_wp2_with fail
    refine (awake_any _).mono ?_
    rintro e w5 ⟨rfl, he5⟩
    go_wp2_with fail
    go_ret
    exact ⟨rfl, HX4.out.trans he5⟩
  obtain rfl : E = F := HIN.out (by omega)
  go_wp2_with fail
  refine (awake_any _).mono ?_
  rintro e w5 ⟨rfl, he5⟩
  go_wp2_with fail
  go_ret
  exact ⟨rfl, HX4.out.trans he5⟩
end Go.Proofs.Ytliijigdbpmpaaa
/- the arguments opened: a piece as PcAt -/
namespace Go.Proofs.Ytliijigdbpmpaaa
open Go.ChangeShapes Go.WideShapes Go.ChangeAt Go.RowKit Go.Deep Go.Joins
section
variable {H : Type} {enc : TypeId × Value → H} {w : World} {base : Nat} {spare : Nat → Bool} {held : Bool}
set_option maxRecDepth 100000 in
theorem pc_open {r : Reach} {b0 : Nat} {v : Value} {d : DataW H} {p : List MemPlace} (hv : Value.okWide Try.prog w r b0 27 v) (h : DataW.Trod enc Try.prog w base spare held 27 v d p) :
    ∃ a q, v = PcA.val a ∧ PcAt w a q ∧ WfP q := by
  obtain ⟨cs, rfl, hsz⟩ := okWide_struct Try.underlying27 hv
  obtain ⟨l⟩ := cs
  obtain ⟨fuel, hf⟩ := h
  obtain ⟨a, q, e, h1, h2⟩ := piece_trodW hf
  have e' : l = PcA.cells a := e
  subst e'
  exact ⟨a, q, rfl, h1, h2⟩
end
end Go.Proofs.Ytliijigdbpmpaaa
namespace Go.Proofs.Ytliijigdbpmpaaa
open Go.ChangeShapes Go.WideShapes Go.ChangeAt Go.RowKit Go.Deep Go.Joins
set_option maxRecDepth 100000 in
theorem notchSelf_lifted (os : Os) (started : os.Started) (H : Type) (enc : TypeId × Value → H) :
    ReturnsInHanded {} Try.checked os 5 .any (Rows.notchSelfSpec.pre6 enc Try.prog Try.f5 Rows.notchSelfRow.domain false) (Rows.notchSelfSpec.post enc Try.prog Try.f5 false true false false) := by
  refine returnsInHanded_of_change (C := Try.checked) Try.own started (by kernel_rfl) Try.func5
    (ChangeSpec.witness6 (enc := enc) (C := Try.checked) false ⟨#[], #[.agg #[.string ⟨#[]⟩, .slice none 0 0, .int .i64 0, .slice none 0 0, .slice none 0 0, .slice none 0 0, .bool false], .int .i64 0, .int .i64 0], []⟩ 8 (by kernel_rfl) (by kernel_rfl) (by kernel_rfl) (by kernel_rfl)) ?_
  intro W base args ds gs before hval0 hW hcnd _
  have hval : ∀ (j : Nat) t v, Try.f5.params[j]? = some t → args[j]? = some v → Value.okWide Try.prog W .any base t v := hval0
  have hW' := hW
  obtain ⟨p, q, hA0, hV, rfl, hfz, hnd⟩ := hW
  have hA : DataW.TrodAll enc Try.prog W 0 (fun _ => true) true Try.f5.params.toList args.toList ds p := hA0
  rw [Try.params5] at hA hval
  obtain ⟨v0, vs0, d0, ds0, p0, q0, hargs, rfl, rfl, h0, r0⟩ := trodAll_cons hA
  obtain ⟨v1, vs1, d1, ds1, p1, q1, rfl, rfl, rfl, h1, r1⟩ := trodAll_cons r0
  obtain ⟨v2, vs2, d2, ds2, p2, q2, rfl, rfl, rfl, h2, r2⟩ := trodAll_cons r1
  obtain ⟨rfl, rfl, rfl⟩ := trodAll_nil r2
  obtain rfl : args = #[v0, v1, v2] := by cases args; simp_all
  obtain ⟨rfl, rfl⟩ := trodVars_none hV
  have k0 := h0
  have lt0 : ∀ x ∈ p0, x.block < W.heap.size := by obtain ⟨m, hm⟩ := k0; exact DataW.trod_lt m _ _ _ hm
  obtain ⟨a0, s0, hv0, hS0, wS0⟩ := pc_open (hval 0 27 v0 rfl rfl) h0
  subst hv0
  have k1 := h1
  have lt1 : ∀ x ∈ p1, x.block < W.heap.size := by obtain ⟨m, hm⟩ := k1; exact DataW.trod_lt m _ _ _ hm
  obtain ⟨a1, hv1, wf1⟩ := int_open (hval 1 3 v1 rfl rfl) h1
  subst hv1
  have k2 := h2
  have lt2 : ∀ x ∈ p2, x.block < W.heap.size := by obtain ⟨m, hm⟩ := k2; exact DataW.trod_lt m _ _ _ hm
  obtain ⟨a2, hv2, wf2⟩ := int_open (hval 2 3 v2 rfl rfl) h2
  subst hv2
  clear hA0 hval0
  refine (selfL_any a0 s0 a1 a2 W hS0).mono fun e W' ⟨he, bel⟩ => ?_
  subst he
  exact ⟨_, rfl, _, _, _, [], _, [], hW', trodAll_mk1 (shut_bool Try.underlying4 _), (trodAll_cons_mk (Below.trod Try.laidOut (by kernel_rfl) (of_decide_eq_true (by kernel_rfl)) k0 bel lt0) (trodAll_cons_mk (Below.trod Try.laidOut (by kernel_rfl) (of_decide_eq_true (by kernel_rfl)) k1 bel lt1) (trodAll_cons_mk (Below.trod Try.laidOut (by kernel_rfl) (of_decide_eq_true (by kernel_rfl)) k2 bel lt2) trodAll_mk0))), rfl, Below.frame bel _, fun h => by cases h⟩
theorem notchSelf_holds : Rows.NotchSelfSaid :=
  OpenClaim.holds_of_wide 5 Try.f5 rfl rfl rfl rfl rfl rfl rfl ⟨rfl, rfl, rfl, rfl, rfl⟩ rfl rfl rfl rfl rfl (by kernel_rfl) Try.func5 (by kernel_rfl)
    (of_decide_eq_true (by kernel_rfl)) (by unfold Func.isWrapper; first | (rw [if_pos (by decide +kernel)]; kernel_rfl) | (rw [if_neg (by decide +kernel)]; exact ⟨rfl, rfl⟩))
    (fun os started H enc _ => notchSelf_lifted os started H enc)
end Go.Proofs.Ytliijigdbpmpaaa

