/- grade.Graded: what it computes -/
import Derived.Deep.RegionHeld3
import Derived.Deep.AppendLies
import Derived.Test.YtkigmpholnfkbaaGreatKZero
import Derived.Test.YtkigmpholnfkbaaGreatKChk
import Derived.Test.YtkigmpholnfkbaaGreatKMov
import Derived.Test.YtkigmpholnfkbaaGreatKOwnE
/- outline.isName: what it computes -/
namespace Go.Proofs.YtkigmpholnfkbaaGreat
open Go.RowKit
def nameE (s : ByteArray) : Int := if nameB s = true then 0 else 1
theorem nameE_f {s : ByteArray} (h : nameB s = false) : nameE s = 1 := by simp [nameE, h]
theorem nameE_t {s : ByteArray} (h : nameB s = true) : nameE s = 0 := by simp [nameE, h]
theorem right_any (s : ByteArray) (w : World) :
    Calls Tryz.prog 117 #[.agg #[.int .i64 2, .bool false, .slice none 0 0, .slice none 0 0, .string s, .slice none 0 0]] w fun e w' => e = .returned (.bool (nameB s)) ∧ Ext w w' := by
  cases hn : nameB s
  · have HN := Lib.hid hn; clear hn
    go_enter Tryz.func117, Tryz.ntmps117
    go_wp2_with (first | (go_at_call 133; go_in))
    refine (fname_any s _).mono ?_
    rintro e w1 ⟨rfl, rfl⟩
    rw [HN.out]
    go_wp2_with fail
    go_ret
    exact ⟨rfl, (Ext.refl _).alloc _⟩
  · have HN := Lib.hid hn; clear hn
    go_enter Tryz.func117, Tryz.ntmps117
    go_wp2_with (first | (go_at_call 133; go_in))
    refine (fname_any s _).mono ?_
    rintro e w1 ⟨rfl, rfl⟩
    rw [HN.out]
    go_wp2_with fail
    refine (rcmp_zero _).mono ?_
    rintro e w2 ⟨rfl, hx⟩
    go_wp2_with fail
    go_ret
    exact ⟨rfl, ((Ext.refl _).alloc _).trans hx⟩
theorem fcheck_any (s : ByteArray) (w : World) :
    Calls Tryz.prog 101 #[.agg #[.int .i64 2, .bool false, .slice none 0 0, .slice none 0 0, .string s, .slice none 0 0], .int .i64 1] w fun e w' => e = .returned (.int .i64 (nameE s)) ∧ Ext w w' := by
  go_enter Tryz.func101, Tryz.ntmps101
  go_wp2_with fail
  refine (right_any s _).mono ?_
  rintro e w1 ⟨rfl, hx⟩
  have hc : ∀ k j, k < w.heap.size + 1 → w1.cell? ⟨k, j, none⟩ = _ := fun k j hk => ext_cells hx (by simp; omega)
  cases hn : nameB s
  · have HN := Lib.hid hn; clear hn
    go_wp2_with fail
    go_ret
    exact ⟨ret_int (nameE_f HN.out).symm, ((Ext.refl _).alloc _).trans hx⟩
  · have HN := Lib.hid hn; clear hn
    go_wp2_with fail
    go_loop [16] (fun n => n = .int .i64 0) (fun _ => 0)
    case atStart => rfl
    case round =>
      subst hrel
      go_wp2_with fail
      go_ret
      exact ⟨ret_int (nameE_t HN.out).symm, ((Ext.refl _).alloc _).trans hx⟩
theorem fCheck_any (s : ByteArray) (w : World) :
    Calls Tryz.prog 86 #[.agg #[.int .i64 2, .bool false, .slice none 0 0, .slice none 0 0, .string s, .slice none 0 0]] w fun e w' => e = .returned (.int .i64 (nameE s)) ∧ Ext w w' := by
  go_enter Tryz.func86, Tryz.ntmps86
  go_wp2_with fail
  refine (fcheck_any s _).mono ?_
  rintro e w1 ⟨rfl, hx⟩
  go_wp2_with fail
  go_ret
  exact ⟨rfl, ((Ext.refl _).alloc _).trans hx⟩
theorem isName_any (s : ByteArray) (w : World) :
    Calls Tryz.prog 70 #[.string s] w fun e w' => e = .returned (.bool (nameB s)) ∧ Ext w w' := by
  go_enter Tryz.func70, Tryz.ntmps70
  go_wp2_with fail
  refine (fCheck_any s _).mono ?_
  rintro e w1 ⟨rfl, hx⟩
  cases hn : nameB s
  · rw [nameE_f hn]
    have HN := Lib.hid hn; clear hn
    go_wp2_with fail
    go_ret
    exact ⟨ret_bool HN.out.symm, hx⟩
  · rw [nameE_t hn]
    have HN := Lib.hid hn; clear hn
    go_wp2_with fail
    go_ret
    exact ⟨ret_bool HN.out.symm, hx⟩
end Go.Proofs.YtkigmpholnfkbaaGreat
/- outline.Check: what it computes -/
namespace Go.Proofs.YtkigmpholnfkbaaGreat
open Go.RowKit
def sameN (l : List Edge) (i j : Nat) : Bool := (gE l j).1.toList == (gE l i).1.toList
def edgeE (l : List Edge) (i : Nat) : Int := if nameB (gE l i).1 = false then 1 else if allB (fun j => !sameN l i j) i = false then 7 else lcheck (gE l i).2
def joinF (l : List Edge) (n i : Nat) : Bool := decide (gS (gE l i).2 ((gE l i).2.length - 1) = gS (gE l ((i + 1) % n)).2 0)
def ocheck (l : List Edge) : Int := if 16 < l.length then 5 else if l.length < 2 then 11 else if firstE (edgeE l) l.length ≠ 0 then firstE (edgeE l) l.length else if allB (joinF l l.length) l.length = false then 11 else pcheck (verts l)
theorem edge_ok {l : List Edge} {i : Nat} (h : edgeE l i = 0) : lcheck (gE l i).2 = 0 := by
  unfold edgeE at h
  split at h
  · cases h
  · split at h
    · cases h
    · exact h
theorem lcheck_len {l : List Spot} (h : lcheck l = 0) : 2 ≤ l.length ∧ l.length ≤ 40 := by
  unfold lcheck at h
  split at h
  · cases h
  · split at h
    · cases h
    · omega
theorem lens_of {l : List Edge} {n : Nat} (h : firstE (edgeE l) n = 0) {k : Nat} (hk : k < n) : 2 ≤ (gE l k).2.length ∧ (gE l k).2.length ≤ 40 := lcheck_len (edge_ok ((firstE_zero _ _).1 h k hk))

set_option maxRecDepth 100000 in
set_option maxHeartbeats 1600000 in
theorem ocheck_any (A : Option Addr) (n c : Nat) (l : List Edge) (w : World) (ha : EdgesAt w A l) (hl : l.length = n) (hn : n ≤ c) (_ : c ≤ 9223372036854775807) :
    Calls Tryz.prog 48 #[.slice A n c] w fun e w' => e = .returned (.int .i64 (ocheck l)) ∧ Ext w w' := by
  have HL := Lib.hid hl; clear hl
  have HA := Lib.hid ha; clear ha
  by_cases h16 : 16 < n
  · go_enter Tryz.func48, Tryz.ntmps48
    go_wp2_with fail
    go_ret
    exact ⟨ret_int (by unfold ocheck; rw [HL.out, if_pos h16]), Ext.refl _⟩
  by_cases h2 : n < 2
  · go_enter Tryz.func48, Tryz.ntmps48
    go_wp2_with fail
    go_ret
    exact ⟨ret_int (by unfold ocheck; rw [HL.out, if_neg (by omega), if_pos h2]), Ext.refl _⟩
  have hfail : ∀ k, k < n → firstE (edgeE l) k = 0 → ∀ e, edgeE l k = e → e ≠ 0 → e = ocheck l := fun k hk h0 e he hne => by
    have h := firstE_at (n := n) hk h0 (by rw [he]; exact hne)
    unfold ocheck
    rw [HL.out, if_neg (by omega), if_neg (by omega), h, he, if_pos hne]
  have HF := Lib.hid hfail; clear hfail
  go_enter Tryz.func48, Tryz.ntmps48
  go_wp2_with fail
  go_loopw [19] (fun i wr => ∃ k : Nat, k ≤ n ∧ i = .int .i64 k ∧ firstE (edgeE l) k = 0 ∧ Ext w wr) (fun i _ => n - (intOf i).toNat)
  case atStart => exact ⟨0, Nat.zero_le _, rfl, rfl, Ext.refl _⟩
  case round =>
    obtain ⟨k, hk, rfl, ht, hx⟩ := hrel
    have HT := Lib.hid ht; clear ht
    by_cases hlt : k < n
    · have hkl : k < l.length := by rw [HL.out]; exact hlt
      obtain ⟨b, off, L, cL, rfl, hc0, hc1, hs, hcl, hcm⟩ := (HA.out.ext hx).g hkl
      have HS := Lib.hid hs; clear hs
      go_wp2_with fail
      refine (isName_any (gE l k).1 _).mono ?_
      rintro e w1 ⟨rfl, he1⟩
      have hx1 : Ext w w1 := (hx.alloc _).trans he1
      have g0 := ext_cells he1 (k := wr.heap.size) (j := 0) (by simp)
      have g1 := ext_cells he1 (k := wr.heap.size) (j := 1) (by simp)
      simp [go_sem] at g0 g1
      have hS1 : SpotsAt w1 L (gE l k).2 := (HS.out.ext ((Ext.refl _).alloc _)).ext he1
      have HS1 := Lib.hid hS1; clear hS1
      clear HS hc0 hc1
      obtain ⟨sb, hsb⟩ : ∃ sb, sb = wr.heap.size := ⟨_, rfl⟩
      rw [← hsb] at g0 g1
      rw [← hsb]
      clear he1
      cases hp : nameB (gE l k).1
      · have HP := Lib.hid hp; clear hp
        clear hsb
        go_wp2_with fail
        go_ret
        exact ⟨ret_int (HF.out k hlt HT.out 1 (by unfold edgeE; rw [if_pos HP.out]) (by decide)), hx1⟩
      have HP := Lib.hid hp; clear hp
      clear hsb hx
      go_wp2_with fail
      go_loopw [32] (fun i wq => ∃ j : Nat, j ≤ k ∧ i = .int .i64 j ∧ allB (fun j => !sameN l k j) j = true ∧ Ext w1 wq) (fun i _ => k - (intOf i).toNat)
      case atStart => exact ⟨0, Nat.zero_le _, rfl, rfl, Ext.refl _⟩
      case round =>
        obtain ⟨wq, rfl⟩ : ∃ wq : World, wq = wr := ⟨_, rfl⟩
        obtain ⟨j, hj, rfl, hs, hy⟩ := hrel
        have HJ := Lib.hid hs; clear hs
        have e0 := hy.cell g0
        have e1 := hy.cell g1
        by_cases hjk : j < k
        · obtain ⟨Lj, cj, d0, d1, _, _, _⟩ := (HA.out.ext (hx1.trans hy)).at1 (k := j) (by rw [HL.out]; omega)
          have hbl : sb < wq.heap.size := cell_lt e0
          cases hp : ((gE l j).1.toList == (gE l k).1.toList)
          · go_wp2_with fail
            go_roundw
            case rel => exact ⟨j + 1, by omega, by go_num, allB_succ HJ.out (by unfold sameN; rw [hp]; rfl), hy.alloc _⟩
            case measure => simp [intOf]; omega
          · go_wp2_with fail
            go_ret
            exact ⟨ret_int (HF.out k hlt HT.out 7 (by
              unfold edgeE
              rw [if_neg (by rw [HP.out]; decide), if_pos]
              exact allB_false hjk (by unfold sameN; rw [hp]; rfl)) (by decide)), (hx1.trans hy).alloc _⟩
        · obtain rfl : j = k := by omega
          clear hj hjk
          go_wp2_with fail
          refine (lcheck_any L _ cL (gE l j).2 _ (HS1.out.ext hy) rfl).mono ?_
          rintro e w2 ⟨rfl, he2⟩
          have hE : edgeE l j = lcheck (gE l j).2 := by
            unfold edgeE
            rw [if_neg (by rw [HP.out]; decide), if_neg (by rw [HJ.out]; decide)]
          have HE := Lib.hid hE; clear hE
          by_cases hz : lcheck (gE l j).2 = 0
          · have hzb : (lcheck (gE l j).2 != 0) = false := by rw [hz]; rfl
            have HZ := Lib.hid hz; clear hz
            go_wp2_with fail
            go_roundw
            case rel => exact ⟨j + 1, by omega, by go_num, firstE_succ HT.out (by rw [HE.out, HZ.out]), (hx1.trans hy).trans he2⟩
            case measure => simp [intOf]; omega
          · have hzb : (lcheck (gE l j).2 != 0) = true := by simp [hz]
            have HZ := Lib.hid hz; clear hz
            go_wp2_with fail
            go_ret
            exact ⟨ret_int (HF.out j hlt HT.out _ HE.out HZ.out), (hx1.trans hy).trans he2⟩
    · obtain rfl : k = n := by omega
      clear hlt hk HF
      go_wp2_with fail
      go_loopw [51] (fun i wq => ∃ j : Nat, j ≤ k ∧ i = .int .i64 j ∧ allB (joinF l k) j = true ∧ Ext w wq) (fun i _ => k - (intOf i).toNat)
      case atStart => exact ⟨0, Nat.zero_le _, rfl, rfl, hx⟩
      case round =>
        clear hx
        obtain ⟨wq, rfl⟩ : ∃ wq : World, wq = wr := ⟨_, rfl⟩
        obtain ⟨j, hj, rfl, hs, hx⟩ := hrel
        have HJ := Lib.hid hs; clear hs
        by_cases hjk : j < k
        · have hm1 : (j + 1) % k < k := Nat.mod_lt _ (by omega)
          obtain ⟨b, off, L, cL, rfl, hc0, hc1, hs, hcl, hcm⟩ := (HA.out.ext hx).g (k := j) (by rw [HL.out]; exact hjk)
          obtain ⟨L', cL', hd0, hd1, hs', hcl', hcm'⟩ := (HA.out.ext hx).at1 (k := (j + 1) % k) (by rw [HL.out]; exact hm1)
          obtain ⟨hle, hle'⟩ := lens_of HT.out hjk
          obtain ⟨hre, hre'⟩ := lens_of HT.out hm1
          obtain ⟨m, hm⟩ : ∃ m, (gE l j).2.length = m + 1 := ⟨(gE l j).2.length - 1, by omega⟩
          obtain ⟨bl, ol, rfl, hl0, hl1⟩ := hs.g (k := m) (by omega)
          obtain ⟨br, or_, rfl, hr0, hr1⟩ := hs'.g (k := 0) (by omega)
          simp only [Nat.zero_mul, Nat.add_zero] at hr0 hr1
          have hbl : b < wq.heap.size := cell_lt hc0
          have hbl1 : b < wq.heap.size + 1 := by omega
          obtain ⟨hj0, hj1, hj2⟩ := mod_idx j k 1 1 rfl (by omega)
          rw [hm] at hc1 hcl hle hle'
          have HM := Lib.hid hm; clear hm hs hs'
          obtain ⟨mr, hmr⟩ : ∃ mr, (gE l ((j + 1) % k)).2.length = mr + 1 := ⟨(gE l ((j + 1) % k)).2.length - 1, by omega⟩
          rw [hmr] at hd1 hcl' hre hre'
          have HMR := Lib.hid hmr; clear hmr
          have hbl2 : bl < wq.heap.size := cell_lt hl0
          have hbl3 : bl < wq.heap.size + 1 := by omega
          have hbr2 : br < wq.heap.size := cell_lt hr0
          have hbr3 : br < wq.heap.size + 1 := by omega
          go_wp2
          clear hj0 hj1 hj2
          have hp0 := eqS_dec (gS (gE l j).2 m) (gS (gE l ((j + 1) % k)).2 0)
          have HQ : Hid (joinF l k j = eqS (gS (gE l j).2 m).1 (gS (gE l j).2 m).2 (gS (gE l ((j + 1) % k)).2 0).1 (gS (gE l ((j + 1) % k)).2 0).2) := by
            show joinF l k j = _
            unfold joinF
            rw [HM.out, hp0]; rfl
          clear hp0
          have hi0 : 0 ≤ (m : Int) := by omega
          have hi1 : (m : Int) < m + 1 := by omega
          have hi2 : (0 : Int) < (mr : Int) + 1 := by omega
          have hi3 : IntKind.i64.wrap (m : Int) = m := IntWalk.i64_in _ (by omega)
          cases hp : eqS (gS (gE l j).2 m).1 (gS (gE l j).2 m).2 (gS (gE l ((j + 1) % k)).2 0).1 (gS (gE l ((j + 1) % k)).2 0).2
          · refine wp_region_quiet_lit (by kernel_rfl) (by kernel_rfl) ?_
            repeat (first | go_big_quiet_step (fail) | (go_big_quiet_want; go_simp; go_big_quiet_on))
            refine wpQuiet_nil ?_
            rintro _ ⟨nq, rfl⟩
            go_wp2_with fail
            go_ret
            exact ⟨ret_int (by
              unfold ocheck
              rw [HL.out, if_neg (by omega), if_neg (by omega), if_neg (by rw [HT.out]; simp), if_pos]
              exact allB_false hjk (HQ.out.trans hp)), ((hx.alloc _).alloc _).drewN _⟩
          · refine wp_region_quiet_lit (by kernel_rfl) (by kernel_rfl) ?_
            repeat (first | go_big_quiet_step (fail) | (go_big_quiet_want; go_simp; go_big_quiet_on))
            refine wpQuiet_nil ?_
            rintro _ ⟨nq, rfl⟩
            go_wp2_with fail
            go_roundw
            case rel => exact ⟨j + 1, by omega, by go_num, allB_succ HJ.out (HQ.out.trans hp), ((hx.alloc _).alloc _).drewN _⟩
            case measure => simp [intOf]; omega
        · obtain rfl : j = k := by omega
          clear hj hjk
          go_wp2_with fail
          refine (vertices_any A _ c l _ (HA.out.ext hx) HL.out (by omega) (fun q hq => ⟨by have := lens_of HT.out hq; omega, (lens_of HT.out hq).2⟩)).mono ?_
          rintro e w2 ⟨v, rfl, hv, he2⟩
          obtain ⟨V, cv, rfl, hsv, hcv, hcv'⟩ := hv.slice
          have HV := Lib.hid hsv; clear hsv hv
          go_wp2_with fail
          refine (pcheck_any V _ cv (verts l) _ HV.out rfl hcv).mono ?_
          rintro e w3 ⟨rfl, he3⟩
          go_wp2_with fail
          go_ret
          exact ⟨ret_int (by
            unfold ocheck
            rw [HL.out, if_neg (by omega), if_neg (by omega), if_neg (by rw [HT.out]; simp), if_neg (by rw [HJ.out]; decide)]), (hx.trans he2).trans he3⟩
end Go.Proofs.YtkigmpholnfkbaaGreat
/- grade.moved -/
namespace Go.Proofs.YtkigmpholnfkbaaGreat
open Go.RowKit
theorem mul_bd {x y B : Int} (h0 : 0 ≤ x) (h1 : x ≤ 39) (h2 : -B ≤ y) (h3 : y ≤ B) : -(39 * B) ≤ x * y ∧ x * y ≤ 39 * B := by
  have hB : 0 ≤ B := by omega
  constructor
  · have := Int.mul_le_mul_of_nonneg_left h2 h0
    have h4 : x * -B = -(x * B) := by rw [Int.mul_neg]
    have h5 : x * B ≤ 39 * B := Int.mul_le_mul_of_nonneg_right h1 hB
    omega
  · have := Int.mul_le_mul_of_nonneg_left h3 h0
    have h5 : x * B ≤ 39 * B := Int.mul_le_mul_of_nonneg_right h1 hB
    omega
theorem movedS_get {l : List Spot} {a b : Spot} {k : Nat} (h : k < l.length) : (movedS l a b)[k]'(by rw [movedS_len]; exact h) = mvS l a b k := by simp [movedS]
theorem filled_succ {l : List Spot} {a b : Spot} {n k : Nat} (hl : l.length = n) (h : k < n) :
    ((movedS l a b).take k ++ List.replicate (n - k) (0, 0)).set k (mvS l a b k) = (movedS l a b).take (k + 1) ++ List.replicate (n - (k + 1)) (0, 0) := by
  have hlen : ((movedS l a b).take k).length = k := by rw [List.length_take, movedS_len, hl]; omega
  rw [List.set_append, if_neg (by omega), hlen, Nat.sub_self, take_succ _ _ (by rw [movedS_len]; omega), movedS_get (by omega)]
  rw [show n - k = (n - (k + 1)) + 1 from by omega, List.replicate_succ]
  simp
set_option maxRecDepth 100000 in
set_option maxHeartbeats 1600000 in
theorem moved_any (A : Option Addr) (m c : Nat) (l : List Spot) (a b : Spot) (w : World) (hA : SpotsAt w A l) (hl : l.length = m + 1) (hm : 1 ≤ m) (hm' : m ≤ 39)
    (ha1 : -100000 ≤ a.1 ∧ a.1 ≤ 100000) (ha2 : -100000 ≤ a.2 ∧ a.2 ≤ 100000) (hb1 : -100000 ≤ b.1 ∧ b.1 ≤ 100000) (hb2 : -100000 ≤ b.2 ∧ b.2 ≤ 100000) :
    Calls Tryz.prog 50 #[.slice A (m + 1) c, SV a, SV b] w (RetS w (movedS l a b)) := by
  have HL := Lib.hid hl; clear hl
  have HA := Lib.hid hA; clear hA
  obtain ⟨ax, ay⟩ := a; obtain ⟨bx, b_y⟩ := b
  simp only at ha1 ha2 hb1 hb2
  obtain ⟨ha1, ha1'⟩ := ha1; obtain ⟨ha2, ha2'⟩ := ha2; obtain ⟨hb1, hb1'⟩ := hb1; obtain ⟨hb2, hb2'⟩ := hb2
  have hmk : ∀ W : World, (Instr.makeSlice 50 (.int .i64 ((m : Int) + 1)) (.int .i64 ((m : Int) + 1))).run Tryz.prog W = .ok (.slice (some ⟨W.heap.size, 0, none⟩) (m + 1) (m + 1)) (W.alloc (.cells (scells (List.replicate (m + 1) (0, 0))).toArray 62)) := fun W => by
    have h := make_spots (m + 1) (by omega) W
    rw [made_two] at h
    simpa using h
  go_enter Tryz.func50, Tryz.ntmps50
  obtain ⟨Z, hZ⟩ : ∃ Z, Z = (scells (List.replicate (m + 1) (0, 0))).toArray := ⟨_, rfl⟩
  rw [← hZ] at hmk
  have HZ := Lib.hid hZ; clear hZ
  go_wp2_with fail
  go_loopw [19] (fun i wr => ∃ k : Nat, k ≤ m + 1 ∧ i = .int .i64 k ∧ BlkS wr (w.heap.size + 1 + 1) ((movedS l (ax, ay) (bx, b_y)).take k ++ List.replicate (m + 1 - k) (0, 0)) ∧
      wr.cell? ⟨w.heap.size, 0, none⟩ = some (.int .i64 ax) ∧ wr.cell? ⟨w.heap.size, 1, none⟩ = some (.int .i64 ay) ∧ wr.cell? ⟨w.heap.size + 1, 0, none⟩ = some (.int .i64 bx) ∧ wr.cell? ⟨w.heap.size + 1, 1, none⟩ = some (.int .i64 b_y) ∧ Ext w wr) (fun i _ => m + 1 - (intOf i).toNat)
  case atStart =>
    refine ⟨0, Nat.zero_le _, rfl, ?_, ?_, ?_, ?_, ?_, ?_⟩
    · rw [HZ.out]
      have h := BlkS.new ((w.alloc (.cells #[.int .i64 ax, .int .i64 ay] 62)).alloc (.cells #[.int .i64 bx, .int .i64 b_y] 62)) (List.replicate (m + 1) (0, 0))
      simpa using h
    · simp [go_sem]
    · simp [go_sem]
    · simp [go_sem]
    · simp [go_sem]
    · exact (((Ext.refl w).alloc _).alloc _).alloc _
  case round =>
    obtain ⟨k, hk, rfl, hB, a0, a1, a2, a3, hx⟩ := hrel
    have HB := Lib.hid hB; clear hB
    have hsz : w.heap.size + 1 + 1 < wr.heap.size := HB.out.lt
    have hsz1 : w.heap.size + 1 < wr.heap.size := by omega
    have hsz0 : w.heap.size < wr.heap.size := by omega
    by_cases hlt : k < m + 1
    · have hkl : k < l.length := by rw [HL.out]; exact hlt
      obtain ⟨b, off, rfl, hc0, hc1⟩ := (HA.out.ext hx).g hkl
      have hlt' : (k : Int) < (m : Int) + 1 := by omega
      obtain ⟨p0, p0'⟩ := mul_bd (x := (m : Int) - k) (y := ax) (B := 100000) (by omega) (by omega) ha1 ha1'
      obtain ⟨p1, p1'⟩ := mul_bd (x := (k : Int)) (y := bx) (B := 100000) (by omega) (by omega) hb1 hb1'
      obtain ⟨p2, p2'⟩ := mul_bd (x := (m : Int) - k) (y := ay) (B := 100000) (by omega) (by omega) ha2 ha2'
      obtain ⟨p3, p3'⟩ := mul_bd (x := (k : Int)) (y := b_y) (B := 100000) (by omega) (by omega) hb2 hb2'
      simp only [Int.reduceMul, Int.reduceNeg] at p0 p0' p1 p1' p2 p2' p3 p3'
      go_wp2_with fail
      refine wp_at fun w0 hw0 => ?_
      have he0 : Ext wr w0 := by rw [hw0]; exact (Ext.refl _).alloc _
      have v0 : w0.cell? ⟨wr.heap.size, 0, none⟩ = some (.int .i64 (gS l k).1) := by rw [hw0]; simp [go_sem]
      have v1 : w0.cell? ⟨wr.heap.size, 1, none⟩ = some (.int .i64 (gS l k).2) := by rw [hw0]; simp [go_sem]
      clear hw0 hc0 hc1
      have d0 := fun z : After w0 => After.cell v0 z
      have d1 := fun z : After w0 => After.cell v1 z
      have d2 := fun z : After w0 => After.cell (he0.cell a0) z
      have d3 := fun z : After w0 => After.cell (he0.cell a1) z
      have d4 := fun z : After w0 => After.cell (he0.cell a2) z
      have d5 := fun z : After w0 => After.cell (he0.cell a3) z
      refine region_tail 36 (by kernel_rfl) (by kernel_rfl) ?_
      simp only [List.take_succ_cons, List.take_zero, List.drop_succ_cons, List.drop_zero]
      repeat (go_big_quiet_step ((go_at_call 73; exact after_same (rounded_any _ _ _ (by omega) (by omega) (by omega) (by omega)))))
      refine wpQuiet_nil ?_
      rintro w1 ⟨⟨_, he⟩, rfl⟩
      clear d0 d1 d2 d3 d4 d5
      have HB1 := Lib.hid ((HB.out.ext he0).ext he)
      have hlen : ((movedS l (ax, ay) (bx, b_y)).take k ++ List.replicate (m + 1 - k) (0, 0)).length = m + 1 := by
        rw [List.length_append, List.length_take, movedS_len, HL.out, List.length_replicate]; omega
      obtain ⟨t0, t1⟩ := HB1.out.at (k := k) (by rw [hlen]; exact hlt)
      have tf0 := HB1.out.frozen (k * 2)
      have tf1 := HB1.out.frozen (k * 2 + 1)
      have b0 := (he0.trans he).cell a0
      have b1 := (he0.trans he).cell a1
      have b2 := (he0.trans he).cell a2
      have b3 := (he0.trans he).cell a3
      have HLN := Lib.hid hlen; clear hlen
      clear a0 a1 a2 a3 v0 v1 p0 p0' p1 p1' p2 p2' p3 p3'
      go_wp2_with fail
      go_roundw
      case rel =>
        refine ⟨k + 1, by omega, by go_num, ?_, ?_, ?_, ?_, ?_, ?_⟩
        · have h := HB1.out.set k (mvS l (ax, ay) (bx, b_y) k)
          rw [filled_succ HL.out hlt] at h
          have e1 : (mvS l (ax, ay) (bx, b_y) k).1 = wrap64 ((gS l k).1 + rnd (((m : Int) - k) * ax + k * bx) m) := by
            unfold mvS mvx; rw [HL.out]; simp
          have e2 : (mvS l (ax, ay) (bx, b_y) k).2 = wrap64 ((gS l k).2 + rnd (((m : Int) - k) * ay + k * b_y) m) := by
            unfold mvS mvx; rw [HL.out]; simp
          rw [e1, e2] at h
          exact h
        · rw [World.cell?_setCell_other _ _ _ _ (fun e => by injection e with e; omega), World.cell?_setCell_other _ _ _ _ (fun e => by injection e with e; omega)]; exact b0
        · rw [World.cell?_setCell_other _ _ _ _ (fun e => by injection e with e; omega), World.cell?_setCell_other _ _ _ _ (fun e => by injection e with e; omega)]; exact b1
        · rw [World.cell?_setCell_other _ _ _ _ (fun e => by injection e with e; omega), World.cell?_setCell_other _ _ _ _ (fun e => by injection e with e; omega)]; exact b2
        · rw [World.cell?_setCell_other _ _ _ _ (fun e => by injection e with e; omega), World.cell?_setCell_other _ _ _ _ (fun e => by injection e with e; omega)]; exact b3
        · exact (((hx.trans he0).trans he).setCell (by simp; omega) _).setCell (by simp; omega) _
      case measure => simp [intOf]; omega
    · go_wp2_with fail
      go_ret
      refine ⟨_, rfl, ?_, hx⟩
      obtain rfl : k = m + 1 := by omega
      have h := HB.out
      rw [List.take_of_length_le (by rw [movedS_len, HL.out]; omega), Nat.sub_self, List.replicate_zero, List.append_nil] at h
      have h2 := h.own (base := w.heap.size) (by omega) (by rw [movedS_len, HL.out]; omega)
      rw [movedS_len, HL.out] at h2
      exact h2
end Go.Proofs.YtkigmpholnfkbaaGreat
namespace Go.Proofs.YtkigmpholnfkbaaGreat
open Go.RowKit
def cornF (cs : List Spot) (i : Nat) : Bool := decide (-1000 ≤ (gS cs i).1 ∧ (gS cs i).1 ≤ 1000) && decide (-1000 ≤ (gS cs i).2 ∧ (gS cs i).2 ≤ 1000)
def gradedAt (es : List Edge) (cs : List Spot) (m : Int) (i : Nat) : Edge := ((gE es i).1, movedS (gE es i).2 (mulS m (gS cs (i % cs.length))) (mulS m (gS cs ((i + 1) % cs.length))))
def gradedE (es : List Edge) (cs : List Spot) (m : Int) : List Edge := (List.range es.length).map (gradedAt es cs m)
def gradedR (es : List Edge) (cs : List Spot) (m : Int) : Int :=
  if decide (-100 ≤ m ∧ m ≤ 100) = false then 3 else if cs.length ≠ es.length then 1 else if allB (cornF cs) cs.length = false then 3 else if ocheck es ≠ 0 then ocheck es else ocheck (gradedE es cs m)
def RetG (w : World) (es : List Edge) (cs : List Spot) (m : Int) (e : Ending) (w' : World) : Prop :=
  ∃ v, e = .returned (.tuple #[v, .int .i64 (gradedR es cs m)]) ∧ (gradedR es cs m = 0 → OwnE w' w.heap.size v (gradedE es cs m)) ∧ (gradedR es cs m ≠ 0 → v = .slice none 0 0) ∧ Ext w w'
theorem retG_bad {w w' : World} {es : List Edge} {cs : List Spot} {m x : Int} (h : gradedR es cs m = x) (hx : x ≠ 0) (he : Ext w w') : RetG w es cs m (.returned (.tuple #[.slice none 0 0, .int .i64 x])) w' :=
  ⟨_, by rw [h], fun h0 => absurd (h.symm.trans h0) hx, fun _ => rfl, he⟩
theorem gradedE_len (es : List Edge) (cs : List Spot) (m : Int) : (gradedE es cs m).length = es.length := by simp [gradedE]
theorem gradedE_take {es : List Edge} {cs : List Spot} {m : Int} {k : Nat} (h : k < es.length) : (gradedE es cs m).take (k + 1) = (gradedE es cs m).take k ++ [gradedAt es cs m k] := by
  rw [take_succ _ _ (by rw [gradedE_len]; exact h)]; simp [gradedE]
theorem mulS_bd {cs : List Spot} {m : Int} {n j : Nat} (hm : -100 ≤ m ∧ m ≤ 100) (h : allB (cornF cs) n = true) (hj : j < n) :
    (-100000 ≤ (mulS m (gS cs j)).1 ∧ (mulS m (gS cs j)).1 ≤ 100000) ∧ (-100000 ≤ (mulS m (gS cs j)).2 ∧ (mulS m (gS cs j)).2 ≤ 100000) := by
  have h1 := (allB_iff _ _).1 h j hj
  simp only [cornF, Bool.and_eq_true, decide_eq_true_eq] at h1
  have key : ∀ y : Int, -1000 ≤ y ∧ y ≤ 1000 → -100000 ≤ wrap64 (m * y) ∧ wrap64 (m * y) ≤ 100000 := fun y hy => by
    have hb : -100000 ≤ m * y ∧ m * y ≤ 100000 := by
      rcases Int.le_total 0 m with h0 | h0
      · have a1 := Int.mul_le_mul_of_nonneg_left hy.2 h0
        have a2 := Int.mul_le_mul_of_nonneg_left hy.1 h0
        omega
      · have a1 := Int.mul_le_mul_of_nonpos_left h0 hy.2
        have a2 := Int.mul_le_mul_of_nonpos_left h0 hy.1
        omega
    rw [IntWalk.wrap64_in _ ⟨by omega, by omega⟩]
    exact hb
  exact ⟨key _ h1.1, key _ h1.2⟩

theorem ocheck_ok {l : List Edge} (h : ocheck l = 0) : 2 ≤ l.length ∧ l.length ≤ 16 ∧ firstE (edgeE l) l.length = 0 := by
  unfold ocheck at h
  split at h
  · cases h
  · split at h
    · cases h
    · split at h
      · rename_i h1; exact absurd h h1
      · rename_i h1; exact ⟨by omega, by omega, by simpa using h1⟩
set_option maxRecDepth 100000 in
set_option maxHeartbeats 3200000 in
theorem graded_any (nm : ByteArray) (AE AN AC AW : Option Addr) (nE cE nN cN nC cC nW cW : Nat) (gr m : Int) (mt : Bool) (es : List Edge) (cs : List Spot) (w : World)
    (hE : EdgesAt w AE es) (hlE : es.length = nE) (hcE : nE ≤ cE) (hcE' : cE ≤ 9223372036854775807) (hC : SpotsAt w AC cs) (hlC : cs.length = nC) (hnC : nC ≤ 9223372036854775807) :
    Calls Tryz.prog 25 #[.agg #[.string nm, .slice AE nE cE, .int .i64 gr, .slice AN nN cN, .slice AC nC cC, .slice AW nW cW, .bool mt], .int .i64 m] w (RetG w es cs m) := by
  have HLE := Lib.hid hlE; clear hlE
  have HLC := Lib.hid hlC; clear hlC
  have HE := Lib.hid hE; clear hE
  have HC := Lib.hid hC; clear hC
  cases hmb : decide (-100 ≤ m ∧ m ≤ 100)
  · have HR : Hid (gradedR es cs m = 3) := by show gradedR es cs m = 3; unfold gradedR; rw [if_pos hmb]
    go_enter Tryz.func25, Tryz.ntmps25
    go_wp2_with fail
    refine (within_any m 100 _ (by omega) (by omega)).mono ?_
    rintro e w1 ⟨rfl, rfl⟩
    rw [hmb]
    go_wp2_with fail
    go_ret2
    exact retG_bad HR.out (by decide) ((Ext.refl _).alloc _)
  have HM := Lib.hid hmb
  by_cases hnn : nC = nE
  rotate_left
  · have HR : Hid (gradedR es cs m = 1) := by show gradedR es cs m = 1; unfold gradedR; rw [if_neg (by rw [hmb]; decide), if_pos (by rw [HLE.out, HLC.out]; exact hnn)]
    have hnb : ((nC : Int) != nE) = true := by simp; omega
    go_enter Tryz.func25, Tryz.ntmps25
    go_wp2_with fail
    refine (within_any m 100 _ (by omega) (by omega)).mono ?_
    rintro e w1 ⟨rfl, rfl⟩
    rw [hmb]
    go_wp2_with fail
    go_ret2
    exact retG_bad HR.out (by decide) ((Ext.refl _).alloc _)
  subst hnn
  go_enter Tryz.func25, Tryz.ntmps25
  go_wp2_with fail
  refine (within_any m 100 _ (by omega) (by omega)).mono ?_
  rintro e w1 ⟨rfl, rfl⟩
  rw [hmb]
  clear hmb
  go_wp2_with fail
  refine wp_at fun W0 hW0 => ?_
  have hx0 : Ext w W0 := by rw [hW0]; exact (Ext.refl _).alloc _
  have b1 : W0.cell? ⟨w.heap.size, 1, none⟩ = some (.slice AE nC cE) := by rw [hW0]; simp [go_sem]
  have b4 : W0.cell? ⟨w.heap.size, 4, none⟩ = some (.slice AC nC cC) := by rw [hW0]; simp [go_sem]
  clear hW0
  go_loopw [27] (fun i wr => ∃ k : Nat, k ≤ nC ∧ i = .int .i64 k ∧ allB (cornF cs) k = true ∧ Ext W0 wr) (fun i _ => nC - (intOf i).toNat)
  case atStart => exact ⟨0, Nat.zero_le _, rfl, rfl, Ext.refl _⟩
  case round =>
    obtain ⟨k, hk, rfl, ht, hx⟩ := hrel
    have HT := Lib.hid ht; clear ht
    by_cases hlt : k < nC
    · have hkl : k < cs.length := by rw [HLC.out]; exact hlt
      obtain ⟨b, off, rfl, hc0, hc1⟩ := (HC.out.ext (hx0.trans hx)).g hkl
      have hR : cornF cs k = false → gradedR es cs m = 3 := fun hf => by
        unfold gradedR
        rw [if_neg (by rw [HM.out]; decide), if_neg (by rw [HLE.out, HLC.out]; simp), if_pos]
        exact allB_false hkl hf
      have HR := Lib.hid hR; clear hR
      go_wp2_with fail
      refine (within_any _ 1000 _ (by omega) (by omega)).mono ?_
      rintro e w1 ⟨rfl, rfl⟩
      cases hp : decide (-1000 ≤ (gS cs k).1 ∧ (gS cs k).1 ≤ 1000)
      · have HP := Lib.hid hp; clear hp
        go_wp2_with fail
        go_ret2
        exact retG_bad (HR.out (by unfold cornF; rw [HP.out]; rfl)) (by decide) ((hx0.trans hx).alloc _)
      have HP := Lib.hid hp; clear hp
      go_wp2_with fail
      refine (within_any _ 1000 _ (by omega) (by omega)).mono ?_
      rintro e w1 ⟨rfl, rfl⟩
      cases hp : decide (-1000 ≤ (gS cs k).2 ∧ (gS cs k).2 ≤ 1000)
      · have HQ := Lib.hid hp; clear hp
        go_wp2_with fail
        go_ret2
        exact retG_bad (HR.out (by unfold cornF; rw [HP.out, HQ.out]; rfl)) (by decide) ((hx0.trans hx).alloc _)
      have HQ := Lib.hid hp; clear hp
      go_wp2_with fail
      go_roundw
      case rel => exact ⟨k + 1, by omega, by go_num, allB_succ HT.out (by unfold cornF; rw [HP.out, HQ.out]; rfl), hx.alloc _⟩
      case measure => simp [intOf]; omega
    · obtain rfl : k = nC := by omega
      clear hlt hk
      have c1 := hx.cell b1
      have c4 := hx.cell b4
      clear b1 b4
      obtain ⟨sb, hsb⟩ : ∃ sb, sb = w.heap.size := ⟨_, rfl⟩
      rw [← hsb] at c1 c4
      rw [← hsb]
      have HSB := Lib.hid hsb; clear hsb
      have hxw : Ext w wr := hx0.trans hx
      clear hx hx0
      go_wp2_with fail
      refine (ocheck_any AE k cE es _ (HE.out.ext hxw) HLE.out hcE hcE').mono ?_
      rintro e w2 ⟨rfl, he2⟩
      have d1 := he2.cell c1
      have d4 := he2.cell c4
      clear c1 c4
      have hxw2 : Ext w w2 := hxw.trans he2
      clear hxw he2
      by_cases hz : ocheck es = 0
      rotate_left
      · have hzb : (ocheck es != 0) = true := by simp [hz]
        have HZ := Lib.hid hz; clear hz
        go_wp2_with fail
        go_ret2
        exact retG_bad (by unfold gradedR; rw [if_neg (by rw [HM.out]; decide), if_neg (by rw [HLE.out, HLC.out]; simp), if_neg (by rw [HLC.out, HT.out]; decide), if_pos HZ.out]) HZ.out hxw2
      have hzb : (ocheck es != 0) = false := by rw [hz]; rfl
      rw [hz]
      have HZ := Lib.hid hz; clear hz hzb
      have HRr : Hid (gradedR es cs m = ocheck (gradedE es cs m)) := by
        show gradedR es cs m = _
        unfold gradedR; rw [if_neg (by rw [HM.out]; decide), if_neg (by rw [HLE.out, HLC.out]; simp), if_neg (by rw [HLC.out, HT.out]; decide), if_neg (by rw [HZ.out]; simp)]
      obtain ⟨hk2, hk16, hfe⟩ := ocheck_ok HZ.out
      rw [HLE.out] at hk2 hk16 hfe
      have HFE := Lib.hid hfe; clear hfe
      obtain ⟨i0, hi0, hz0, hz1, hz2⟩ := info_parts edge_info
      go_wp2_with fail
      go_loopw [10, 56] (fun v i wr => ∃ j : Nat, j ≤ k ∧ i = .int .i64 j ∧ OwnE wr w.heap.size v ((gradedE es cs m).take j) ∧ Ext w wr) (fun _ i _ => k - (intOf i).toNat)
      case atStart => exact ⟨0, Nat.zero_le _, rfl, OwnE.nil _ _, hxw2⟩
      case round =>
        obtain ⟨wq, rfl⟩ : ∃ wq : World, wq = wr := ⟨_, rfl⟩
        obtain ⟨j, hj, rfl, ho, hxq⟩ := hrel
        by_cases hjk : j < k
        · have hjl : j < es.length := by rw [HLE.out]; exact hjk
          obtain ⟨b, off, L, cL, rfl, hc0, hc1, hs, hcl, hcm⟩ := (HE.out.ext hxq).g hjl
          obtain ⟨hle, hle'⟩ := lens_of HFE.out hjk
          obtain ⟨mm, hmm⟩ : ∃ mm, (gE es j).2.length = mm + 1 := ⟨(gE es j).2.length - 1, by omega⟩
          rw [hmm] at hc1 hcl hle hle'
          have HMM := Lib.hid hmm; clear hmm
          have HS := Lib.hid hs; clear hs
          obtain ⟨ps, hps, hor⟩ := ho
          have HPS := Lib.hid hps; clear hps
          have HOR := Lib.hid hor; clear hor
          have hlen : ((gradedE es cs m).take j).length = j := by rw [List.length_take, gradedE_len, HLE.out]; omega
          have HLN := Lib.hid hlen; clear hlen
          go_wp2_with fail
          refine wp_at fun w0 hw0 => ?_
          have he0 : Ext wq w0 := by rw [hw0]; exact (Ext.refl _).alloc _
          have v0 : w0.cell? ⟨wq.heap.size, 0, none⟩ = some (.string (gE es j).1) := by rw [hw0]; simp [go_sem]
          have v1 : w0.cell? ⟨wq.heap.size, 1, none⟩ = some (.slice L (mm + 1) cL) := by rw [hw0]; simp [go_sem]
          clear hw0 hc0 hc1
          have keep : ∀ W W1 : World, (Ext w W ∧ W.cell? ⟨wq.heap.size, 0, none⟩ = some (.string (gE es j).1) ∧ W.cell? ⟨wq.heap.size, 1, none⟩ = some (.slice L (mm + 1) cL)) → Ext W W1 → (Ext w W1 ∧ W1.cell? ⟨wq.heap.size, 0, none⟩ = some (.string (gE es j).1) ∧ W1.cell? ⟨wq.heap.size, 1, none⟩ = some (.slice L (mm + 1) cL)) := fun W W1 ⟨h0, h1, h2⟩ hx => ⟨h0.trans hx, hx.cell h1, hx.cell h2⟩
          have KEEP := Lib.hid keep; clear keep
          have keepg : ∀ W W1 : World, (Ext w W ∧ W.cell? ⟨wq.heap.size, 0, none⟩ = some (.string (gE es j).1) ∧ W.cell? ⟨wq.heap.size, 1, none⟩ = some (.slice L (mm + 1) cL)) → W.grownBy W1 u10.ownBlock → (Ext w W1 ∧ W1.cell? ⟨wq.heap.size, 0, none⟩ = some (.string (gE es j).1) ∧ W1.cell? ⟨wq.heap.size, 1, none⟩ = some (.slice L (mm + 1) cL)) := fun W W1 ⟨h0, h1, h2⟩ hg => by
            have hlt := World.ownsRow.lt HOR.out
            have hbw : wq.heap.size < W.heap.size := cell_lt h1
            have hne : some wq.heap.size ≠ u10.ownBlock := fun e => by have := (hlt _ e.symm).2; omega
            exact ⟨h0.grown hg (fun g hg' => (hlt g hg').1), (World.cell?_of_block (hg.block _ hbw hne)).trans h1, (World.cell?_of_block (hg.block _ hbw hne)).trans h2⟩
          have KEEPG := Lib.hid keepg; clear keepg
          have h63 : ((gradedE es cs m).take j).length + 1 ≤ maxLen := by rw [HLN.out]; unfold maxLen; omega
          have h64 : (((gradedE es cs m).take j).length + 1) * 40 ≤ 140737488355328 := by rw [HLN.out]; omega
          have H63 := Lib.hid h63; have H64 := Lib.hid h64; clear h63 h64
          have getw : ∀ W : World, (Ext w W ∧ W.cell? ⟨wq.heap.size, 0, none⟩ = some (.string (gE es j).1) ∧ W.cell? ⟨wq.heap.size, 1, none⟩ = some (.slice L (mm + 1) cL)) → Ext w W := fun W h => h.1
          have GETW := Lib.hid getw; clear getw
          have hbd : ∀ q, q < k → (-100000 ≤ (mulS m (gS cs q)).1 ∧ (mulS m (gS cs q)).1 ≤ 100000) ∧ (-100000 ≤ (mulS m (gS cs q)).2 ∧ (mulS m (gS cs q)).2 ≤ 100000) := fun q hq => mulS_bd (by simpa using HM.out) HT.out hq
          have HBD := Lib.hid hbd; clear hbd
          have HV0 := Lib.hid v0; have HV1 := Lib.hid v1; clear v0 v1
          have hj0 : 0 ≤ (j : Int) := by omega
          have hj0' : (j : Int) ≤ 1000 := by omega
          have hj1 : 0 ≤ (j : Int) + 1 := by omega
          have hj1' : (j : Int) + 1 ≤ 1000 := by omega
          have hq1 : 1 ≤ k := by omega
          have hq2 : k ≤ 1000 := by omega
          have hmm1 : 1 ≤ mm := by omega
          have hmm2 : mm ≤ 39 := by omega
          have hjn1 : ((j : Int) + 1).toNat = j + 1 := by omega
          have hmod0 : j % k < k := Nat.mod_lt _ (by omega)
          have hmod1 : (j + 1) % k < k := Nat.mod_lt _ (by omega)
          have hwr : IntKind.i64.wrap ((j : Int) + 1) = j + 1 := IntWalk.i64_in _ (by omega)
          go_region_held3 (fun W => Ext w W ∧ W.cell? ⟨wq.heap.size, 0, none⟩ = some (.string (gE es j).1) ∧ W.cell? ⟨wq.heap.size, 1, none⟩ = some (.slice L (mm + 1) cL))
            (first | exact KEEP.out w0 _ ⟨hxq.trans he0, HV0.out, HV1.out⟩ (Ext.drew (Ext.refl _)) | exact KEEP.out _ _ ‹_› ‹_› | exact KEEP.out _ _ ‹_› (Ext.alloc (Ext.refl _) _) | exact KEEPG.out _ _ ‹_› hgrow | fail)
            (first
              | (refine step_append_lies _ (by rfl) (.tmp 61) (.tmp 75) 48 (by rfl) w.heap.size 57 i0 (.agg #[.string ⟨#[]⟩, .slice none 0 0]) 2 40 Tryz.underlying48 hi0 hz0 hz1 hz2 rfl (by decide) u10 _ (ecells ps) (by rfl)
                   (own_ext HOR.out (Ext.alloc (Ext.trans (Ext.trans (Ext.trans (Ext.drew he0) hxa) hxb) hxm) _)) ⟨wm.heap.size, 0, none⟩ 1 1 [.string (gE es j).1, .slice Am (movedS (gE es j).2 (mulS m (gS cs (j % k))) (mulS m (gS cs ((j + 1) % k)))).length cm] (by rfl) (by rfl)
                   (World.news_of_block (cs := #[.string (gE es j).1, .slice Am (movedS (gE es j).2 (mulS m (gS cs (j % k))) (mulS m (gS cs ((j + 1) % k)))).length cm]) (t := 57) (fr := (0, 0)) (heap_alloc_new wm _)) (by simp [Value.oneCell']) (by decide) H63.out H64.out
                   (Ext.size (Ext.alloc (Ext.trans hxq (Ext.trans (Ext.trans (Ext.trans (Ext.drew he0) hxa) hxb) hxm)) _)) (wm.heap.size + 1) (by simp) ?_
                 intro gg cap wn hown1 hgrow hat hltn)
              | (go_at_call 49; have _t := hxa; refine (corner_int AC k cC _ m cs _ (HC.out.ext (GETW.out _ ‹_›)) HLC.out hq1 hq2 hj1 hj1').mono ?_; rintro e wb ⟨rfl, hxb⟩)
              | (go_at_call 49; refine (corner_int AC k cC _ m cs _ (HC.out.ext (GETW.out _ ‹_›)) HLC.out hq1 hq2 hj0 hj0').mono ?_; rintro e wa ⟨rfl, hxa⟩)
              | (go_at_call 50; refine (moved_any L mm cL (gE es j).2 _ _ _ ((((HS.out.ext he0).ext (Ext.drew (Ext.refl _))).ext hxa).ext hxb) HMM.out hmm1 hmm2 ?q1 ?q2 ?q3 ?q4).mono ?_
                 case q1 => exact (HBD.out _ hmod0).1
                 case q2 => exact (HBD.out _ hmod0).2
                 case q3 => exact (HBD.out _ hmod1).1
                 case q4 => exact (HBD.out _ hmod1).2
                 rintro e wm ⟨vm, rfl, hvm, hxm⟩
                 obtain ⟨Am, cm, rfl, _, _, _⟩ := hvm.slice)
              | fail)
          have hO' : OwnE wn w.heap.size (.slice (some ⟨gg, 0, none⟩) (min j (gradedE es cs m).length + 1) cap) ((gradedE es cs m).take (j + 1)) := by
            have hch : Ext wq (wm.alloc (.cells #[.string (gE es j).1, .slice Am (movedS (gE es j).2 (mulS m (gS cs (j % k))) (mulS m (gS cs ((j + 1) % k)))).length cm] 57)) := Ext.alloc (Ext.trans (Ext.trans (Ext.trans (Ext.drew he0) hxa) hxb) hxm) _
            have hor1 := own_ext HOR.out hch
            have hp1 := (HPS.out.ext hch).grown hor1 (by decide) hgrow
            have hvm1 := ((hvm.ext ((Ext.refl _).alloc _)).grown hor1 (by decide) hgrow).base_le (base' := w.heap.size) (Ext.size (Ext.trans hxq (Ext.trans (Ext.trans (Ext.drew he0) hxa) hxb)))
            rw [gradedE_take hjl]
            refine ⟨ps ++ [((gE es j).1, .slice Am (movedS (gE es j).2 (mulS m (gS cs (j % k))) (mulS m (gS cs ((j + 1) % k)))).length cm)], hp1.snoc (e := gradedAt es cs m j) ⟨rfl, ?_⟩, ?_⟩
            · have e : (gradedAt es cs m j).2 = movedS (gE es j).2 (mulS m (gS cs (j % k))) (mulS m (gS cs ((j + 1) % k))) := by unfold gradedAt; rw [HLC.out]
              rw [e]; exact hvm1
            · rw [ecells_append]
              have e2 : ((gradedE es cs m).take j ++ [gradedAt es cs m j]).length = ((gradedE es cs m).take j).length + 1 := by simp
              have e3 : min j (gradedE es cs m).length + 1 = ((gradedE es cs m).take j).length + 1 := by rw [List.length_take]
              rw [e2, e3]
              exact hown1
          have HO' := Lib.hid hO'; clear hO' hown1 hgrow hat hltn hvm hwr
          have hxn : Ext w wn := And.left ‹Ext w wn ∧ _›
          go_wp2_with fail
          exact ⟨⟨j + 1, by omega, by go_num, HO'.out, hxn⟩, by simp [intOf]; omega⟩
        · have hO : OwnE wq w.heap.size u10 (gradedE es cs m) := by
            rw [List.take_of_length_le (by rw [gradedE_len, HLE.out]; omega)] at ho
            exact ho
          clear ho
          have HO := Lib.hid hO
          obtain ⟨A', cap, rfl, hEA, hcap, hcap'⟩ := hO.slice
          have HEA := Lib.hid hEA; clear hEA hO
          go_wp2_with fail
          refine (ocheck_any A' _ cap (gradedE es cs m) _ HEA.out rfl hcap hcap').mono ?_
          rintro e w3 ⟨rfl, he3⟩
          by_cases hz : ocheck (gradedE es cs m) = 0
          rotate_left
          · have hzb : (ocheck (gradedE es cs m) != 0) = true := by simp [hz]
            have HZ2 := Lib.hid hz; clear hz
            go_wp2_with fail
            go_ret2
            exact retG_bad HRr.out HZ2.out (hxq.trans he3)
          · rw [hz]
            have HZ2 := Lib.hid hz; clear hz
            go_wp2_with fail
            go_ret2
            exact ⟨_, by rw [HRr.out, HZ2.out]; rfl, fun _ => HO.out.ext he3, fun h => absurd (HRr.out.trans HZ2.out) h, hxq.trans he3⟩
end Go.Proofs.YtkigmpholnfkbaaGreat
