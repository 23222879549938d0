/- outline.Check: what it computes -/
import Derived.Test.YtkigmpholnfkbaaGreatKZero
import Derived.Test.YtkigmpholnfkbaaGreatKChk
import Derived.Test.YtkigmpholnfkbaaGreatKVert
/- outline.isName: what it computes -/
namespace Go.Proofs.YtkigmpholnfkbaaGreat
open Go.RowKit
def nameE (s : ByteArray) : Int := if nameB s = true then 0 else 1
theorem nameE_f {s : ByteArray} (h : nameB s = false) : nameE s = 1 := by simp [nameE, h]
theorem nameE_t {s : ByteArray} (h : nameB s = true) : nameE s = 0 := by simp [nameE, h]
theorem right_any (s : ByteArray) (w : World) :
    Calls Tryz.prog 117 #[.agg #[.int .i64 2, .bool false, .slice none 0 0, .slice none 0 0, .string s, .slice none 0 0]] w fun e w' => e = .returned (.bool (nameB s)) ∧ Ext w w' := by
  cases hn : nameB s
  · have HN := Lib.hid hn; clear hn
    go_enter Tryz.func117, Tryz.ntmps117
    go_wp2_with (first | (go_at_call 133; go_in))
    refine (fname_any s _).mono ?_
    rintro e w1 ⟨rfl, rfl⟩
    rw [HN.out]
    go_wp2_with fail
    go_ret
    exact ⟨rfl, (Ext.refl _).alloc _⟩
  · have HN := Lib.hid hn; clear hn
    go_enter Tryz.func117, Tryz.ntmps117
    go_wp2_with (first | (go_at_call 133; go_in))
    refine (fname_any s _).mono ?_
    rintro e w1 ⟨rfl, rfl⟩
    rw [HN.out]
    go_wp2_with fail
    refine (rcmp_zero _).mono ?_
    rintro e w2 ⟨rfl, hx⟩
    go_wp2_with fail
    go_ret
    exact ⟨rfl, ((Ext.refl _).alloc _).trans hx⟩
theorem fcheck_any (s : ByteArray) (w : World) :
    Calls Tryz.prog 101 #[.agg #[.int .i64 2, .bool false, .slice none 0 0, .slice none 0 0, .string s, .slice none 0 0], .int .i64 1] w fun e w' => e = .returned (.int .i64 (nameE s)) ∧ Ext w w' := by
  go_enter Tryz.func101, Tryz.ntmps101
  go_wp2_with fail
  refine (right_any s _).mono ?_
  rintro e w1 ⟨rfl, hx⟩
  have hc : ∀ k j, k < w.heap.size + 1 → w1.cell? ⟨k, j, none⟩ = _ := fun k j hk => ext_cells hx (by simp; omega)
  cases hn : nameB s
  · have HN := Lib.hid hn; clear hn
    go_wp2_with fail
    go_ret
    exact ⟨ret_int (nameE_f HN.out).symm, ((Ext.refl _).alloc _).trans hx⟩
  · have HN := Lib.hid hn; clear hn
    go_wp2_with fail
    go_loop [16] (fun n => n = .int .i64 0) (fun _ => 0)
    case atStart => rfl
    case round =>
      subst hrel
      go_wp2_with fail
      go_ret
      exact ⟨ret_int (nameE_t HN.out).symm, ((Ext.refl _).alloc _).trans hx⟩
theorem fCheck_any (s : ByteArray) (w : World) :
    Calls Tryz.prog 86 #[.agg #[.int .i64 2, .bool false, .slice none 0 0, .slice none 0 0, .string s, .slice none 0 0]] w fun e w' => e = .returned (.int .i64 (nameE s)) ∧ Ext w w' := by
  go_enter Tryz.func86, Tryz.ntmps86
  go_wp2_with fail
  refine (fcheck_any s _).mono ?_
  rintro e w1 ⟨rfl, hx⟩
  go_wp2_with fail
  go_ret
  exact ⟨rfl, ((Ext.refl _).alloc _).trans hx⟩
theorem isName_any (s : ByteArray) (w : World) :
    Calls Tryz.prog 70 #[.string s] w fun e w' => e = .returned (.bool (nameB s)) ∧ Ext w w' := by
  go_enter Tryz.func70, Tryz.ntmps70
  go_wp2_with fail
  refine (fCheck_any s _).mono ?_
  rintro e w1 ⟨rfl, hx⟩
  cases hn : nameB s
  · rw [nameE_f hn]
    have HN := Lib.hid hn; clear hn
    go_wp2_with fail
    go_ret
    exact ⟨ret_bool HN.out.symm, hx⟩
  · rw [nameE_t hn]
    have HN := Lib.hid hn; clear hn
    go_wp2_with fail
    go_ret
    exact ⟨ret_bool HN.out.symm, hx⟩
end Go.Proofs.YtkigmpholnfkbaaGreat
namespace Go.Proofs.YtkigmpholnfkbaaGreat
open Go.RowKit
def sameN (l : List Edge) (i j : Nat) : Bool := (gE l j).1.toList == (gE l i).1.toList
def edgeE (l : List Edge) (i : Nat) : Int := if nameB (gE l i).1 = false then 1 else if allB (fun j => !sameN l i j) i = false then 7 else lcheck (gE l i).2
def joinF (l : List Edge) (n i : Nat) : Bool := decide (gS (gE l i).2 ((gE l i).2.length - 1) = gS (gE l ((i + 1) % n)).2 0)
def ocheck (l : List Edge) : Int := if 16 < l.length then 5 else if l.length < 2 then 11 else if firstE (edgeE l) l.length ≠ 0 then firstE (edgeE l) l.length else if allB (joinF l l.length) l.length = false then 11 else pcheck (verts l)
theorem edge_ok {l : List Edge} {i : Nat} (h : edgeE l i = 0) : lcheck (gE l i).2 = 0 := by
  unfold edgeE at h
  split at h
  · cases h
  · split at h
    · cases h
    · exact h
theorem lcheck_len {l : List Spot} (h : lcheck l = 0) : 2 ≤ l.length ∧ l.length ≤ 40 := by
  unfold lcheck at h
  split at h
  · cases h
  · split at h
    · cases h
    · omega
theorem lens_of {l : List Edge} {n : Nat} (h : firstE (edgeE l) n = 0) {k : Nat} (hk : k < n) : 2 ≤ (gE l k).2.length ∧ (gE l k).2.length ≤ 40 := lcheck_len (edge_ok ((firstE_zero _ _).1 h k hk))

set_option maxRecDepth 100000 in
set_option maxHeartbeats 1600000 in
theorem ocheck_any (A : Option Addr) (n c : Nat) (l : List Edge) (w : World) (ha : EdgesAt w A l) (hl : l.length = n) (hn : n ≤ c) (_ : c ≤ 9223372036854775807) :
    Calls Tryz.prog 48 #[.slice A n c] w fun e w' => e = .returned (.int .i64 (ocheck l)) ∧ Ext w w' := by
  have HL := Lib.hid hl; clear hl
  have HA := Lib.hid ha; clear ha
  by_cases h16 : 16 < n
  · go_enter Tryz.func48, Tryz.ntmps48
    go_wp2_with fail
    go_ret
    exact ⟨ret_int (by unfold ocheck; rw [HL.out, if_pos h16]), Ext.refl _⟩
  by_cases h2 : n < 2
  · go_enter Tryz.func48, Tryz.ntmps48
    go_wp2_with fail
    go_ret
    exact ⟨ret_int (by unfold ocheck; rw [HL.out, if_neg (by omega), if_pos h2]), Ext.refl _⟩
  have hfail : ∀ k, k < n → firstE (edgeE l) k = 0 → ∀ e, edgeE l k = e → e ≠ 0 → e = ocheck l := fun k hk h0 e he hne => by
    have h := firstE_at (n := n) hk h0 (by rw [he]; exact hne)
    unfold ocheck
    rw [HL.out, if_neg (by omega), if_neg (by omega), h, he, if_pos hne]
  have HF := Lib.hid hfail; clear hfail
  go_enter Tryz.func48, Tryz.ntmps48
  go_wp2_with fail
  go_loopw [19] (fun i wr => ∃ k : Nat, k ≤ n ∧ i = .int .i64 k ∧ firstE (edgeE l) k = 0 ∧ Ext w wr) (fun i _ => n - (intOf i).toNat)
  case atStart => exact ⟨0, Nat.zero_le _, rfl, rfl, Ext.refl _⟩
  case round =>
    obtain ⟨k, hk, rfl, ht, hx⟩ := hrel
    have HT := Lib.hid ht; clear ht
    by_cases hlt : k < n
    · have hkl : k < l.length := by rw [HL.out]; exact hlt
      obtain ⟨b, off, L, cL, rfl, hc0, hc1, hs, hcl, hcm⟩ := (HA.out.ext hx).g hkl
      have HS := Lib.hid hs; clear hs
      go_wp2_with fail
      refine (isName_any (gE l k).1 _).mono ?_
      rintro e w1 ⟨rfl, he1⟩
      have hx1 : Ext w w1 := (hx.alloc _).trans he1
      have g0 := ext_cells he1 (k := wr.heap.size) (j := 0) (by simp)
      have g1 := ext_cells he1 (k := wr.heap.size) (j := 1) (by simp)
      simp [go_sem] at g0 g1
      have hS1 : SpotsAt w1 L (gE l k).2 := (HS.out.ext ((Ext.refl _).alloc _)).ext he1
      have HS1 := Lib.hid hS1; clear hS1
      clear HS hc0 hc1
      obtain ⟨sb, hsb⟩ : ∃ sb, sb = wr.heap.size := ⟨_, rfl⟩
      rw [← hsb] at g0 g1
      rw [← hsb]
      clear he1
      cases hp : nameB (gE l k).1
      · have HP := Lib.hid hp; clear hp
        clear hsb
        go_wp2_with fail
        go_ret
        exact ⟨ret_int (HF.out k hlt HT.out 1 (by unfold edgeE; rw [if_pos HP.out]) (by decide)), hx1⟩
      have HP := Lib.hid hp; clear hp
      clear hsb hx
      go_wp2_with fail
      go_loopw [32] (fun i wq => ∃ j : Nat, j ≤ k ∧ i = .int .i64 j ∧ allB (fun j => !sameN l k j) j = true ∧ Ext w1 wq) (fun i _ => k - (intOf i).toNat)
      case atStart => exact ⟨0, Nat.zero_le _, rfl, rfl, Ext.refl _⟩
      case round =>
        obtain ⟨wq, rfl⟩ : ∃ wq : World, wq = wr := ⟨_, rfl⟩
        obtain ⟨j, hj, rfl, hs, hy⟩ := hrel
        have HJ := Lib.hid hs; clear hs
        have e0 := hy.cell g0
        have e1 := hy.cell g1
        by_cases hjk : j < k
        · obtain ⟨Lj, cj, d0, d1, _, _, _⟩ := (HA.out.ext (hx1.trans hy)).at1 (k := j) (by rw [HL.out]; omega)
          have hbl : sb < wq.heap.size := cell_lt e0
          cases hp : ((gE l j).1.toList == (gE l k).1.toList)
          · go_wp2_with fail
            go_roundw
            case rel => exact ⟨j + 1, by omega, by go_num, allB_succ HJ.out (by unfold sameN; rw [hp]; rfl), hy.alloc _⟩
            case measure => simp [intOf]; omega
          · go_wp2_with fail
            go_ret
            exact ⟨ret_int (HF.out k hlt HT.out 7 (by
              unfold edgeE
              rw [if_neg (by rw [HP.out]; decide), if_pos]
              exact allB_false hjk (by unfold sameN; rw [hp]; rfl)) (by decide)), (hx1.trans hy).alloc _⟩
        · obtain rfl : j = k := by omega
          clear hj hjk
          go_wp2_with fail
          refine (lcheck_any L _ cL (gE l j).2 _ (HS1.out.ext hy) rfl).mono ?_
          rintro e w2 ⟨rfl, he2⟩
          have hE : edgeE l j = lcheck (gE l j).2 := by
            unfold edgeE
            rw [if_neg (by rw [HP.out]; decide), if_neg (by rw [HJ.out]; decide)]
          have HE := Lib.hid hE; clear hE
          by_cases hz : lcheck (gE l j).2 = 0
          · have hzb : (lcheck (gE l j).2 != 0) = false := by rw [hz]; rfl
            have HZ := Lib.hid hz; clear hz
            go_wp2_with fail
            go_roundw
            case rel => exact ⟨j + 1, by omega, by go_num, firstE_succ HT.out (by rw [HE.out, HZ.out]), (hx1.trans hy).trans he2⟩
            case measure => simp [intOf]; omega
          · have hzb : (lcheck (gE l j).2 != 0) = true := by simp [hz]
            have HZ := Lib.hid hz; clear hz
            go_wp2_with fail
            go_ret
            exact ⟨ret_int (HF.out j hlt HT.out _ HE.out HZ.out), (hx1.trans hy).trans he2⟩
    · obtain rfl : k = n := by omega
      clear hlt hk HF
      go_wp2_with fail
      go_loopw [51] (fun i wq => ∃ j : Nat, j ≤ k ∧ i = .int .i64 j ∧ allB (joinF l k) j = true ∧ Ext w wq) (fun i _ => k - (intOf i).toNat)
      case atStart => exact ⟨0, Nat.zero_le _, rfl, rfl, hx⟩
      case round =>
        clear hx
        obtain ⟨wq, rfl⟩ : ∃ wq : World, wq = wr := ⟨_, rfl⟩
        obtain ⟨j, hj, rfl, hs, hx⟩ := hrel
        have HJ := Lib.hid hs; clear hs
        by_cases hjk : j < k
        · have hm1 : (j + 1) % k < k := Nat.mod_lt _ (by omega)
          obtain ⟨b, off, L, cL, rfl, hc0, hc1, hs, hcl, hcm⟩ := (HA.out.ext hx).g (k := j) (by rw [HL.out]; exact hjk)
          obtain ⟨L', cL', hd0, hd1, hs', hcl', hcm'⟩ := (HA.out.ext hx).at1 (k := (j + 1) % k) (by rw [HL.out]; exact hm1)
          obtain ⟨hle, hle'⟩ := lens_of HT.out hjk
          obtain ⟨hre, hre'⟩ := lens_of HT.out hm1
          obtain ⟨m, hm⟩ : ∃ m, (gE l j).2.length = m + 1 := ⟨(gE l j).2.length - 1, by omega⟩
          obtain ⟨bl, ol, rfl, hl0, hl1⟩ := hs.g (k := m) (by omega)
          obtain ⟨br, or_, rfl, hr0, hr1⟩ := hs'.g (k := 0) (by omega)
          simp only [Nat.zero_mul, Nat.add_zero] at hr0 hr1
          have hbl : b < wq.heap.size := cell_lt hc0
          have hbl1 : b < wq.heap.size + 1 := by omega
          obtain ⟨hj0, hj1, hj2⟩ := mod_idx j k 1 1 rfl (by omega)
          rw [hm] at hc1 hcl hle hle'
          have HM := Lib.hid hm; clear hm hs hs'
          obtain ⟨mr, hmr⟩ : ∃ mr, (gE l ((j + 1) % k)).2.length = mr + 1 := ⟨(gE l ((j + 1) % k)).2.length - 1, by omega⟩
          rw [hmr] at hd1 hcl' hre hre'
          have HMR := Lib.hid hmr; clear hmr
          have hbl2 : bl < wq.heap.size := cell_lt hl0
          have hbl3 : bl < wq.heap.size + 1 := by omega
          have hbr2 : br < wq.heap.size := cell_lt hr0
          have hbr3 : br < wq.heap.size + 1 := by omega
          go_wp2
          clear hj0 hj1 hj2
          have hp0 := eqS_dec (gS (gE l j).2 m) (gS (gE l ((j + 1) % k)).2 0)
          have HQ : Hid (joinF l k j = eqS (gS (gE l j).2 m).1 (gS (gE l j).2 m).2 (gS (gE l ((j + 1) % k)).2 0).1 (gS (gE l ((j + 1) % k)).2 0).2) := by
            show joinF l k j = _
            unfold joinF
            rw [HM.out, hp0]; rfl
          clear hp0
          have hi0 : 0 ≤ (m : Int) := by omega
          have hi1 : (m : Int) < m + 1 := by omega
          have hi2 : (0 : Int) < (mr : Int) + 1 := by omega
          have hi3 : IntKind.i64.wrap (m : Int) = m := IntWalk.i64_in _ (by omega)
          cases hp : eqS (gS (gE l j).2 m).1 (gS (gE l j).2 m).2 (gS (gE l ((j + 1) % k)).2 0).1 (gS (gE l ((j + 1) % k)).2 0).2
          · refine wp_region_quiet_lit (by kernel_rfl) (by kernel_rfl) ?_
            repeat (first | go_big_quiet_step (fail) | (go_big_quiet_want; go_simp; go_big_quiet_on))
            refine wpQuiet_nil ?_
            rintro _ ⟨nq, rfl⟩
            go_wp2_with fail
            go_ret
            exact ⟨ret_int (by
              unfold ocheck
              rw [HL.out, if_neg (by omega), if_neg (by omega), if_neg (by rw [HT.out]; simp), if_pos]
              exact allB_false hjk (HQ.out.trans hp)), ((hx.alloc _).alloc _).drewN _⟩
          · refine wp_region_quiet_lit (by kernel_rfl) (by kernel_rfl) ?_
            repeat (first | go_big_quiet_step (fail) | (go_big_quiet_want; go_simp; go_big_quiet_on))
            refine wpQuiet_nil ?_
            rintro _ ⟨nq, rfl⟩
            go_wp2_with fail
            go_roundw
            case rel => exact ⟨j + 1, by omega, by go_num, allB_succ HJ.out (HQ.out.trans hp), ((hx.alloc _).alloc _).drewN _⟩
            case measure => simp [intOf]; omega
        · obtain rfl : j = k := by omega
          clear hj hjk
          go_wp2_with fail
          refine (vertices_any A _ c l _ (HA.out.ext hx) HL.out (by omega) (fun q hq => ⟨by have := lens_of HT.out hq; omega, (lens_of HT.out hq).2⟩)).mono ?_
          rintro e w2 ⟨v, rfl, hv, he2⟩
          obtain ⟨V, cv, rfl, hsv, hcv, hcv'⟩ := hv.slice
          have HV := Lib.hid hsv; clear hsv hv
          go_wp2_with fail
          refine (pcheck_any V _ cv (verts l) _ HV.out rfl hcv).mono ?_
          rintro e w3 ⟨rfl, he3⟩
          go_wp2_with fail
          go_ret
          exact ⟨ret_int (by
            unfold ocheck
            rw [HL.out, if_neg (by omega), if_neg (by omega), if_neg (by rw [HT.out]; simp), if_neg (by rw [HJ.out]; decide)]), (hx.trans he2).trans he3⟩
end Go.Proofs.YtkigmpholnfkbaaGreat
