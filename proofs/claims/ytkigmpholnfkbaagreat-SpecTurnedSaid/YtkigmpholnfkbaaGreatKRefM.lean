/- the reference: garmentref21.round, within, graded -/
import Derived.Deep.RegionLaw
import Derived.Test.YtkigmpholnfkbaaGreatKRefK
import Derived.Test.YtkigmpholnfkbaaGreatKFld
import Derived.Test.YtkigmpholnfkbaaGreatKUpto
/- the reference: garmentref10.far, Far, Check -/
namespace Go.Proofs.YtkigmpholnfkbaaGreat
open Go.RowKit
def farB (n : Int) : Bool := decide (1048576 < n) || decide (n < -1048576)
theorem far_any (n : Int) (w : World) : Calls Tryz.prog 115 #[.int .i64 n] w fun e w' => e = .returned (.bool (farB n)) ∧ w = w' := by
  by_cases h1 : 1048576 < n
  · go_enter Tryz.func115, Tryz.ntmps115
    go_wp2
    go_ret
    exact ⟨ret_bool (by simp [farB, h1]), rfl⟩
  · by_cases h2 : n < -1048576
    · go_enter Tryz.func115, Tryz.ntmps115
      go_wp2
      go_ret
      exact ⟨ret_bool (by simp [farB, h2]), rfl⟩
    · go_enter Tryz.func115, Tryz.ntmps115
      go_wp2
      go_ret
      exact ⟨ret_bool (by simp [farB, h1, h2]), rfl⟩
theorem outB_far (s : Spot) : outB s = (farB s.1 || farB s.2) := by
  unfold outB farB
  rw [Bool.eq_iff_iff]
  simp only [decide_eq_true_eq, Bool.or_eq_true]
  omega
theorem any_take_succ2 {l : List Spot} {k : Nat} (h : k < l.length) : (l.take (k + 1)).any outB = ((l.take k).any outB || outB (gS l k)) := by
  rw [take_succ _ _ h, List.any_append, gS_eq h]; simp
theorem any_of_get {l : List Spot} {k : Nat} (h : k < l.length) (ho : outB (gS l k) = true) : l.any outB = true := by
  rw [gS_eq h] at ho
  exact List.any_eq_true.2 ⟨_, List.getElem_mem h, ho⟩
set_option maxHeartbeats 800000 in
theorem farl_any (A : Option Addr) (n c : Nat) (l : List Spot) (w : World) (ha : SpotsAt w A l) (hl : l.length = n) (hn : n ≤ 1000000) :
    Calls Tryz.prog 98 #[.slice A n c] w fun e w' => e = .returned (.bool (l.any outB)) ∧ w = w' := by
  have HL := Lib.hid hl; clear hl
  have HA := Lib.hid ha; clear ha
  go_enter Tryz.func98, Tryz.ntmps98
  go_wp2_with fail
  go_loopw [3] (fun i wr => ∃ k : Nat, k ≤ n ∧ i = .int .i64 k ∧ (l.take k).any outB = false ∧ wr = w) (fun i _ => n - (intOf i).toNat)
  case atStart => exact ⟨0, Nat.zero_le _, rfl, rfl, rfl⟩
  case round =>
    obtain ⟨k, hk, rfl, ht, rfl⟩ := hrel
    have HT := Lib.hid ht; clear ht
    by_cases hlt : k < n
    · have hkl : k < l.length := by rw [HL.out]; exact hlt
      obtain ⟨b, off, rfl, hc0, hc1⟩ := HA.out.g hkl
      have HO := Lib.hid (outB_far (gS l k))
      go_wp2_with fail
      refine (far_any _ _).mono ?_
      rintro e w1 ⟨rfl, rfl⟩
      cases hp : farB (gS l k).1
      · have HP := Lib.hid hp; clear hp
        go_wp2_with fail
        refine (far_any _ _).mono ?_
        rintro e w1 ⟨rfl, rfl⟩
        cases hq : farB (gS l k).2
        · have HQ := Lib.hid hq; clear hq
          go_wp2_with fail
          go_roundw
          case rel => exact ⟨k + 1, by omega, by go_num, by rw [any_take_succ2 hkl, HT.out, HO.out, HP.out, HQ.out]; rfl, trivial⟩
          case measure => simp [intOf]; omega
        · have HQ := Lib.hid hq; clear hq
          go_wp2_with fail
          go_ret
          exact ⟨ret_bool (by rw [any_of_get hkl (by rw [HO.out, HP.out, HQ.out]; rfl)]), rfl⟩
      · have HP := Lib.hid hp; clear hp
        go_wp2_with fail
        go_ret
        exact ⟨ret_bool (by rw [any_of_get hkl (by rw [HO.out, HP.out]; rfl)]), rfl⟩
    · go_wp2_with fail
      go_ret
      refine ⟨ret_bool ?_, rfl⟩
      have h := HT.out
      rw [List.take_of_length_le (by rw [HL.out]; omega)] at h
      exact h.symm
set_option maxHeartbeats 1600000 in
theorem rcheck_any (A : Option Addr) (n c : Nat) (l : List Spot) (w : World) (ha : SpotsAt w A l) (hl : l.length = n) :
    Calls Tryz.prog 83 #[.slice A n c] w fun e w' => e = .returned (.int .i64 (lcheck l)) ∧ Ext w w' := by
  have HL := Lib.hid hl; clear hl
  have HA := Lib.hid ha; clear ha
  by_cases h40 : 40 < n
  · go_enter Tryz.func83, Tryz.ntmps83
    go_wp2_with fail
    go_ret
    exact ⟨ret_int (by unfold lcheck; rw [HL.out, if_pos h40]), Ext.refl _⟩
  by_cases h2 : n < 2
  · go_enter Tryz.func83, Tryz.ntmps83
    go_wp2_with fail
    go_ret
    exact ⟨ret_int (by unfold lcheck; rw [HL.out, if_neg h40, if_pos h2]), Ext.refl _⟩
  go_enter Tryz.func83, Tryz.ntmps83
  go_wp2_with fail
  refine (farl_any A n c l w HA.out HL.out (by omega)).mono ?_
  rintro e w1 ⟨rfl, rfl⟩
  cases ho : l.any outB
  rotate_left
  · have HO := Lib.hid ho; clear ho
    go_wp2_with fail
    go_ret
    exact ⟨ret_int (by unfold lcheck; rw [HL.out, if_neg h40, if_neg h2, if_pos HO.out]), Ext.refl _⟩
  have HO := Lib.hid ho; clear ho
  go_wp2_with fail
  go_loopw [3] (fun i wr => ∃ k : Nat, 1 ≤ k ∧ k ≤ n ∧ i = .int .i64 k ∧ allB (stepF l) (k - 1) = true ∧ ∃ q, wr = w.drewN q) (fun i _ => n - (intOf i).toNat)
  case atStart => exact ⟨1, by omega, by omega, rfl, rfl, 0, rfl⟩
  case round =>
    obtain ⟨k, hk1, hk, rfl, ht, q, rfl⟩ := hrel
    have HT := Lib.hid ht; clear ht
    by_cases hlt : k < n
    · obtain ⟨b, off, rfl, hc0, hc1⟩ := HA.out.g (k := k) (by rw [HL.out]; exact hlt)
      obtain ⟨hd0, hd1⟩ := HA.out.at1 (k := k - 1) (by rw [HL.out]; omega)
      obtain ⟨j, rfl⟩ : ∃ j, k = j + 1 := ⟨k - 1, by omega⟩
      rw [Nat.add_sub_cancel] at hd0 hd1 HT
      have hw1 : IntKind.i64.wrap (((j + 1 : Nat) : Int) - 1) = j := IntWalk.i64_in _ (by omega) |>.trans (by omega)
      have hlt' : (j : Int) < n := by omega
      have hlt'' : (j : Int) + 1 < n := by omega
      by_cases heq : gS l (j + 1) = gS l j
      · have hq : eqS (gS l (j + 1)).1 (gS l (j + 1)).2 (gS l j).1 (gS l j).2 = true := (eqS_iff _ _).2 heq
        have HE := Lib.hid heq; clear heq
        go_wp2_with fail
        go_quiet (fail)
        go_wp2_with fail
        go_ret
        refine ⟨ret_int ?_, Ext.drewN (Ext.drewN (Ext.refl _) _) _⟩
        unfold lcheck
        rw [HL.out, if_neg h40, if_neg h2, if_neg (by rw [HO.out]; decide), if_neg]
        rw [allB_false (k := j) (by omega) (by unfold stepF; simp [HE.out])]; decide
      · have hq : eqS (gS l (j + 1)).1 (gS l (j + 1)).2 (gS l j).1 (gS l j).2 = false := by rw [Bool.eq_false_iff]; intro h; exact heq ((eqS_iff _ _).1 h)
        have HE := Lib.hid heq; clear heq
        go_wp2_with fail
        go_quiet (fail)
        go_wp2_with fail
        go_roundw
        case rel => exact ⟨j + 1 + 1, by omega, by omega, by go_num, by rw [Nat.add_sub_cancel]; exact allB_succ HT.out (by unfold stepF; rw [decide_eq_false (fun h => HE.out h.symm)]; rfl), _, rfl⟩
        case measure => simp [intOf]; omega
    · obtain rfl : k = n := by omega
      go_wp2_with fail
      go_ret
      refine ⟨ret_int ?_, Ext.drewN (Ext.refl _) _⟩
      unfold lcheck
      rw [HL.out, if_neg h40, if_neg h2, if_neg (by rw [HO.out]; decide), if_pos HT.out]
end Go.Proofs.YtkigmpholnfkbaaGreat
/- the reference: garmentref20.named, Vertices, Check -/
namespace Go.Proofs.YtkigmpholnfkbaaGreat
open Go.RowKit
set_option maxHeartbeats 800000 in
theorem named_any (A : Option Addr) (n c k : Nat) (l : List Edge) (nm : ByteArray) (w : World) (ha : EdgesAt w A l) (hl : l.length = n) (hk : k ≤ n) (hn : n ≤ 1000) :
    Calls Tryz.prog 94 #[.slice A n c, .int .i64 (k : Int), .string nm] w fun e w' => e = .returned (.bool (!allB (fun j => !((gE l j).1.toList == nm.toList)) k)) ∧ w = w' := by
  have HL := Lib.hid hl; clear hl
  have HA := Lib.hid ha; clear ha
  go_enter Tryz.func94, Tryz.ntmps94
  go_wp2_with fail
  go_loop [7] (fun i => ∃ j : Nat, j ≤ k ∧ i = .int .i64 j ∧ allB (fun j => !((gE l j).1.toList == nm.toList)) j = true) (fun i => k - (intOf i).toNat)
  case atStart => exact ⟨0, Nat.zero_le _, rfl, rfl⟩
  case round =>
    obtain ⟨j, hj, rfl, ht⟩ := hrel
    have HT := Lib.hid ht; clear ht
    by_cases hlt : j < k
    · obtain ⟨b, off, L, cL, hA, hc0, hc1, hs, hcl, hcm⟩ := HA.out.g (k := j) (by rw [HL.out]; omega)
      subst hA
      clear hs
      have hjn : j < n := by omega
      cases hp : ((gE l j).1.toList == nm.toList)
      · go_wp2_with fail
        go_round
        case rel => exact ⟨j + 1, by omega, by go_num, allB_succ HT.out (by rw [hp]; rfl)⟩
        case measure => simp [intOf]; omega
      · have HP := Lib.hid hp
        go_wp2_with fail
        go_ret
        exact ⟨ret_bool (by rw [allB_false (k := j) hlt (by rw [HP.out]; rfl)]; rfl), rfl⟩
    · obtain rfl : j = k := by omega
      go_wp2_with fail
      go_ret
      exact ⟨ret_bool (by rw [HT.out]; rfl), rfl⟩
set_option maxRecDepth 100000 in
set_option maxHeartbeats 800000 in
theorem rvertices_any (A : Option Addr) (n c : Nat) (l : List Edge) (w : World) (ha : EdgesAt w A l) (hl : l.length = n) (hn : n ≤ 1000) (hlen : ∀ k, k < n → 1 ≤ (gE l k).2.length ∧ (gE l k).2.length ≤ 40) :
    Calls Tryz.prog 96 #[.slice A n c] w (RetS w (verts l)) := by
  have HL := Lib.hid hl; clear hl
  have HA := Lib.hid ha; clear ha
  have HN := Lib.hid hlen; clear hlen
  obtain ⟨i0, hi0, hz0, hz1, hz2⟩ := info_parts spot_info
  go_enter Tryz.func96, Tryz.ntmps96
  go_wp2
  go_loopw [3, 4] (fun v i wr => ∃ k : Nat, k ≤ n ∧ i = .int .i64 k ∧ OwnS wr w.heap.size v (verts (l.take k)) ∧ Ext w wr) (fun _ i _ => n - (intOf i).toNat)
  case atStart => exact ⟨0, Nat.zero_le _, rfl, OwnS.nil _ _, Ext.refl _⟩
  case round =>
    obtain ⟨k, hk, rfl, ho, hx⟩ := hrel
    have HO := Lib.hid ho; clear ho
    by_cases hlt : k < n
    · have hkl : k < l.length := by rw [HL.out]; exact hlt
      obtain ⟨b, off, L, cL, rfl, hc0, hc1, hs, hcl, hcm⟩ := (HA.out.ext hx).g hkl
      obtain ⟨hm1, hm40⟩ := HN.out k hlt
      obtain ⟨m, hm⟩ : ∃ m, (gE l k).2.length = m + 1 := ⟨(gE l k).2.length - 1, by omega⟩
      have HD := Lib.hid (dropLast_take hm)
      have hs' := hs.take m
      obtain ⟨bl, ol, rfl, _⟩ := hs.g (k := 0) (by omega)
      rw [hm] at hc1 hcl hm40
      have HM := Lib.hid hm; clear hm
      have HS := Lib.hid hs'; clear hs' hs
      have hvl : (verts (l.take k)).length ≤ 40000 := by
        have h := verts_len (l := l.take k) (fun e he => by
          obtain ⟨j, hj, rfl⟩ := List.getElem_of_mem he
          have hjk : j < n := by have h2 : (l.take k).length ≤ k := List.length_take_le _ _; omega
          have := (HN.out j hjk).2
          rw [gE_eq (by rw [HL.out]; exact hjk)] at this
          simpa using this)
        have h2 : (l.take k).length ≤ k := List.length_take_le _ _
        omega
      have HV := Lib.hid hvl; clear hvl
      go_wp2_with (at_builtin; refine wpList_append_own _ rfl (.tmp 20) (.tmp 28) 50 rfl w.heap.size 62 i0 (.agg #[.int .i64 0, .int .i64 0]) 2 16 Tryz.underlying50 hi0 hz0 hz1 hz2 rfl (by decide) _ _ _ rfl HO.out ⟨bl, ol, none⟩ m cL (scells ((gE l k).2.take m)) rfl ?c1 ?c2 ?c3 ?c4 ?c5 ?c6 ?_)
      case c1 => rw [scells_length, List.length_take, HM.out]; omega
      case c2 => exact HS.out.cells
      case c3 => exact scells_one' _
      case c4 => have := HV.out; unfold maxLen; omega
      case c5 => have := HV.out; omega
      case c6 => exact hx.size
      intro v' w1 hown' hgrow _
      have hO' : OwnS w1 w.heap.size v' (verts (l.take (k + 1))) := by
        rw [verts_succ hkl, HD.out]
        unfold OwnS
        rw [scells_append, List.length_append, List.length_take, HM.out, show min m (m + 1) = m from by omega]
        exact hown'
      have hx' : Ext w w1 := hx.grown hgrow (fun g hg => (World.ownsRow.lt HO.out g hg).1)
      have HO' := Lib.hid hO'; clear hO' hown' hgrow
      go_wp2_with fail
      go_roundw
      case rel => exact ⟨k + 1, by omega, by go_num, HO'.out, hx'⟩
      case measure => simp [intOf]; omega
    · go_wp2_with fail
      go_ret
      exact ⟨_, rfl, by
        have h := HO.out
        rw [List.take_of_length_le (by rw [HL.out]; omega)] at h
        exact h, hx⟩
set_option maxRecDepth 100000 in
set_option maxHeartbeats 1600000 in
theorem rocheck_any (A : Option Addr) (n c : Nat) (l : List Edge) (w : World) (ha : EdgesAt w A l) (hl : l.length = n) :
    Calls Tryz.prog 81 #[.slice A n c] w fun e w' => e = .returned (.int .i64 (ocheck l)) ∧ Ext w w' := by
  have HL := Lib.hid hl; clear hl
  have HA := Lib.hid ha; clear ha
  by_cases h16 : 16 < n
  · go_enter Tryz.func81, Tryz.ntmps81
    go_wp2_with fail
    go_ret
    exact ⟨ret_int (by unfold ocheck; rw [HL.out, if_pos h16]), Ext.refl _⟩
  by_cases h2 : n < 2
  · go_enter Tryz.func81, Tryz.ntmps81
    go_wp2_with fail
    go_ret
    exact ⟨ret_int (by unfold ocheck; rw [HL.out, if_neg (by omega), if_pos h2]), Ext.refl _⟩
  have hfail : ∀ k, k < n → firstE (edgeE l) k = 0 → ∀ e, edgeE l k = e → e ≠ 0 → e = ocheck l := fun k hk h0 e he hne => by
    have h := firstE_at (n := n) hk h0 (by rw [he]; exact hne)
    unfold ocheck
    rw [HL.out, if_neg (by omega), if_neg (by omega), h, he, if_pos hne]
  have HF := Lib.hid hfail; clear hfail
  go_enter Tryz.func81, Tryz.ntmps81
  go_wp2_with fail
  go_loopw [3] (fun i wr => ∃ k : Nat, k ≤ n ∧ i = .int .i64 k ∧ firstE (edgeE l) k = 0 ∧ Ext w wr) (fun i _ => n - (intOf i).toNat)
  case atStart => exact ⟨0, Nat.zero_le _, rfl, rfl, Ext.refl _⟩
  case round =>
    obtain ⟨k, hk, rfl, ht, hx⟩ := hrel
    have HT := Lib.hid ht; have HX := Lib.hid hx; clear ht hx
    by_cases hlt : k < n
    · have hkl : k < l.length := by rw [HL.out]; exact hlt
      obtain ⟨b, off, L, cL, hA, hc0, hc1, hs, hcl, hcm⟩ := (HA.out.ext HX.out).g hkl
      subst hA
      have HS := Lib.hid hs; clear hs
      go_wp2_with fail
      refine (rname_any (gE l k).1 _).mono ?_
      rintro e w1 ⟨rfl, rfl⟩
      cases hp : nameB (gE l k).1
      · have HP := Lib.hid hp; clear hp
        go_wp2_with fail
        go_ret
        exact ⟨ret_int (HF.out k hlt HT.out 1 (by unfold edgeE; rw [if_pos HP.out]) (by decide)), HX.out⟩
      have HP := Lib.hid hp; clear hp
      go_wp2_with fail
      refine (named_any _ n c k l (gE l k).1 _ (HA.out.ext HX.out) HL.out (by omega) (by omega)).mono ?_
      rintro e w1 ⟨rfl, rfl⟩
      obtain ⟨NB, hNB⟩ : ∃ NB, NB = allB (fun j => !((gE l j).1.toList == (gE l k).1.toList)) k := ⟨_, rfl⟩
      rw [← hNB]
      have HNB := Lib.hid hNB; clear hNB
      cases NB
      · go_wp2_with fail
        go_ret
        exact ⟨ret_int (HF.out k hlt HT.out 7 (by
          unfold edgeE
          rw [if_neg (by rw [HP.out]; decide), if_pos]
          exact HNB.out.symm) (by decide)), HX.out⟩
      go_wp2_with fail
      refine (rcheck_any L _ cL (gE l k).2 _ HS.out rfl).mono ?_
      rintro e w2 ⟨rfl, he2⟩
      have HE : Hid (edgeE l k = lcheck (gE l k).2) := by
        show edgeE l k = _
        unfold edgeE
        rw [if_neg (by rw [HP.out]; decide), if_neg (by
          have h := HNB.out
          unfold sameN
          rw [← h]; decide)]
      have HX2 := Lib.hid (HX.out.trans he2); clear he2 hc0 hc1
      by_cases hz : lcheck (gE l k).2 = 0
      · have hzb : (lcheck (gE l k).2 != 0) = false := by rw [hz]; rfl
        have HZ := Lib.hid hz; clear hz
        go_wp2_with fail
        go_roundw
        case rel => exact ⟨k + 1, by omega, by go_num, firstE_succ HT.out (by rw [HE.out, HZ.out]), HX2.out⟩
        case measure => simp [intOf]; omega
      · have hzb : (lcheck (gE l k).2 != 0) = true := by simp [hz]
        have HZ := Lib.hid hz; clear hz
        go_wp2_with fail
        go_ret
        exact ⟨ret_int (HF.out k hlt HT.out _ HE.out HZ.out), HX2.out⟩
    · obtain rfl : k = n := by omega
      clear hlt hk HF
      go_wp2_with fail
      go_loopw [5] (fun i wq => ∃ j : Nat, j ≤ k ∧ i = .int .i64 j ∧ allB (joinF l k) j = true ∧ Ext w wq) (fun i _ => k - (intOf i).toNat)
      case atStart => exact ⟨0, Nat.zero_le _, rfl, rfl, HX.out⟩
      case round =>
        clear HX
        obtain ⟨wq, rfl⟩ : ∃ wq : World, wq = wr := ⟨_, rfl⟩
        obtain ⟨j, hj, rfl, hs, hx⟩ := hrel
        have HJ := Lib.hid hs; clear hs
        by_cases hjk : j < k
        · have hm1 : (j + 1) % k < k := Nat.mod_lt _ (by omega)
          obtain ⟨b, off, L, cL, rfl, hc0, hc1, hs, hcl, hcm⟩ := (HA.out.ext hx).g (k := j) (by rw [HL.out]; exact hjk)
          obtain ⟨L', cL', hd0, hd1, hs', hcl', hcm'⟩ := (HA.out.ext hx).at1 (k := (j + 1) % k) (by rw [HL.out]; exact hm1)
          obtain ⟨hle, hle'⟩ := lens_of HT.out hjk
          obtain ⟨hre, hre'⟩ := lens_of HT.out hm1
          obtain ⟨m, hm⟩ : ∃ m, (gE l j).2.length = m + 1 := ⟨(gE l j).2.length - 1, by omega⟩
          obtain ⟨bl, ol, rfl, hl0, hl1⟩ := hs.g (k := m) (by omega)
          obtain ⟨br, or_, rfl, hr0, hr1⟩ := hs'.g (k := 0) (by omega)
          simp only [Nat.zero_mul, Nat.add_zero] at hr0 hr1
          rw [hm] at hc1 hcl hle hle'
          have HM := Lib.hid hm; clear hm hs hs'
          obtain ⟨mr, hmr⟩ : ∃ mr, (gE l ((j + 1) % k)).2.length = mr + 1 := ⟨(gE l ((j + 1) % k)).2.length - 1, by omega⟩
          rw [hmr] at hd1 hcl' hre hre'
          have HMR := Lib.hid hmr; clear hmr
          have hp0 := eqS_dec (gS (gE l j).2 m) (gS (gE l ((j + 1) % k)).2 0)
          have HQ : Hid (joinF l k j = eqS (gS (gE l j).2 m).1 (gS (gE l j).2 m).2 (gS (gE l ((j + 1) % k)).2 0).1 (gS (gE l ((j + 1) % k)).2 0).2) := by
            show joinF l k j = _
            unfold joinF
            rw [HM.out, hp0]; rfl
          clear hp0
          have hi0 : 0 ≤ (m : Int) := by omega
          have hi1 : (m : Int) < m + 1 := by omega
          have hi2 : (0 : Int) < (mr : Int) + 1 := by omega
          have hnN : ¬ k = 0 := by omega
          have HX := Lib.hid hx
          obtain ⟨E0, hE0⟩ : ∃ E0, E0 = eqS (gS (gE l j).2 m).1 (gS (gE l j).2 m).2 (gS (gE l ((j + 1) % k)).2 0).1 (gS (gE l ((j + 1) % k)).2 0).2 := ⟨_, rfl⟩
          have HE0 := Lib.hid hE0; clear hE0
          clear hx hcl hcm hcl' hcm' hle hre hre' hc0 hd0
          have hnz : ((k : Int) == 0) = false := by simp; omega
          have hnp : 0 < k := by omega
          obtain ⟨hq0, hq1, hq2⟩ := mod_idx j k 1 1 rfl (by omega)
          go_upto_region 18 with fail
          refine wp_region_quiet_lit (by kernel_rfl) (by kernel_rfl) ?_
          repeat (first | go_big_quiet_step (fail) | (go_big_quiet_want; go_simp; go_big_quiet_on))
          refine wpQuiet_nil ?_
          rintro _ ⟨nq, rfl⟩
          clear hq0 hq1 hq2 hnN
          have hi3 : IntKind.i64.wrap (m : Int) = m := IntWalk.i64_in _ (by omega)
          go_wp2_with fail
          refine wp_region_quiet_lit (by kernel_rfl) (by kernel_rfl) ?_
          repeat (first | go_big_quiet_step (fail) | (go_big_quiet_want; go_simp; go_big_quiet_on))
          refine wpQuiet_nil ?_
          rintro _ ⟨nq2, rfl⟩
          rw [← HE0.out]
          clear hi3
          cases E0
          · go_wp2_with fail
            go_ret
            exact ⟨ret_int (by
              unfold ocheck
              rw [HL.out, if_neg (by omega), if_neg (by omega), if_neg (by rw [HT.out]; simp), if_pos]
              exact allB_false hjk (HQ.out.trans HE0.out.symm)), by first | exact HX.out.drewN _ | exact (HX.out.drewN _).drewN _⟩
          · go_wp2_with fail
            go_roundw
            case rel => exact ⟨j + 1, by omega, by go_num, allB_succ HJ.out (HQ.out.trans HE0.out.symm), by first | exact HX.out.drewN _ | exact (HX.out.drewN _).drewN _⟩
            case measure => simp [intOf]; omega
        · obtain rfl : j = k := by omega
          clear hj hjk
          go_wp2_with fail
          refine (rvertices_any A _ c l _ (HA.out.ext hx) HL.out (by omega) (fun q hq => ⟨by have := lens_of HT.out hq; omega, (lens_of HT.out hq).2⟩)).mono ?_
          rintro e w2 ⟨v, rfl, hv, he2⟩
          obtain ⟨V, cv, rfl, hsv, hcv, hcv'⟩ := hv.slice
          have HV := Lib.hid hsv; clear hsv hv
          go_wp2_with fail
          refine (rpcheck_any V _ cv (verts l) _ HV.out rfl).mono ?_
          rintro e w3 ⟨rfl, he3⟩
          go_wp2_with fail
          go_ret
          exact ⟨ret_int (by
            unfold ocheck
            rw [HL.out, if_neg (by omega), if_neg (by omega), if_neg (by rw [HT.out]; simp), if_neg (by rw [HJ.out]; decide)]), (hx.trans he2).trans he3⟩
end Go.Proofs.YtkigmpholnfkbaaGreat
namespace Go.Proofs.YtkigmpholnfkbaaGreat
open Go.RowKit
theorem rround_any (a b : Int) (w : World) (h0 : -1000000000000000 ≤ a) (h1 : a ≤ 1000000000000000) (hb : 1 ≤ b) (hb' : b ≤ 1000) :
    Calls Tryz.prog 97 #[.int .i64 a, .int .i64 b] w fun e w' => e = .returned (.int .i64 (rnd a b)) ∧ w = w' := by
  have hne : (2 * b == 0) = false := by simp; omega
  by_cases ha : a < 0
  · have hq0 : 0 ≤ (-2 * a + b) / (2 * b) := Int.ediv_nonneg (by omega) (by omega)
    have hq1 : (-2 * a + b) / (2 * b) ≤ -2 * a + b := Int.ediv_le_self _ (by omega)
    go_enter Tryz.func97, Tryz.ntmps97
    go_wp2_with fail
    go_ret
    exact ⟨ret_int (by unfold rnd; rw [if_pos ha, show 2 * (-a) + b = -2 * a + b from by omega]), rfl⟩
  · go_enter Tryz.func97, Tryz.ntmps97
    go_wp2_with fail
    go_ret
    exact ⟨ret_int (by unfold rnd; rw [if_neg (by omega)]), rfl⟩
theorem rwith_any (n b : Int) (w : World) (hb : 0 ≤ b) (hb' : b ≤ 9223372036854775807) :
    Calls Tryz.prog 80 #[.int .i64 n, .int .i64 b] w fun e w' => e = .returned (.bool (decide (-b ≤ n ∧ n ≤ b))) ∧ w = w' := by
  by_cases h1 : -b ≤ n
  · by_cases h2 : n ≤ b
    · go_enter Tryz.func80, Tryz.ntmps80
      go_wp2
      go_ret
      exact ⟨ret_bool (by simp [h1, h2]), rfl⟩
    · go_enter Tryz.func80, Tryz.ntmps80
      go_wp2
      go_ret
      exact ⟨ret_bool (by simp [h2]), rfl⟩
  · go_enter Tryz.func80, Tryz.ntmps80
    go_wp2
    go_ret
    exact ⟨ret_bool (by symm; simp; omega), rfl⟩
theorem mul_bd3 {m k y : Int} (h0 : 0 ≤ k) (h1 : k ≤ m) (hm : m ≤ 39) (hy : -100000 ≤ y ∧ y ≤ 100000) : -3900000 ≤ k * y ∧ k * y ≤ 3900000 := by
  have := mul_bd (x := k) (y := y) (B := 100000) h0 (by omega) hy.1 hy.2
  omega
def RetEd' (w : World) (nm : ByteArray) (l : List Spot) (e : Ending) (w' : World) : Prop := ∃ v, e = .returned (.agg #[.string nm, v]) ∧ OwnT 62 w' w.heap.size v l ∧ Ext w w'
set_option maxRecDepth 100000 in
set_option maxHeartbeats 3200000 in
theorem rgraded1_any (nm : ByteArray) (A : Option Addr) (m c : Nat) (l : List Spot) (a b : Spot) (w : World) (hA : SpotsAt w A l) (hl : l.length = m + 1) (hm : 1 ≤ m) (hm' : m ≤ 39)
    (ha : -100000 ≤ a.1 ∧ a.1 ≤ 100000 ∧ -100000 ≤ a.2 ∧ a.2 ≤ 100000) (hb : -100000 ≤ b.1 ∧ b.1 ≤ 100000 ∧ -100000 ≤ b.2 ∧ b.2 ≤ 100000) :
    Calls Tryz.prog 82 #[.agg #[.string nm, .slice A (m + 1) c], SV a, SV b] w (RetEd' w nm (movedS l a b)) := by
  obtain ⟨a1, a2⟩ := a
  obtain ⟨b1, b2⟩ := b
  obtain ⟨ha1, ha1', ha2, ha2'⟩ := ha
  obtain ⟨hb1, hb1', hb2, hb2'⟩ := hb
  simp only at ha1 ha1' ha2 ha2' hb1 hb1' hb2 hb2'
  have HA := Lib.hid hA; have HL := Lib.hid hl; clear hA hl
  obtain ⟨i0, hi0, hz0, hz1, hz2⟩ := info_parts spot_info
  go_enter Tryz.func82, Tryz.ntmps82
  go_wp2_with fail
  refine wp_at fun W0 hW0 => ?_
  have hX : Blk 57 W0 w.heap.size [.string nm, .slice A (m + 1) c] := by rw [hW0]; exact ((((Blk.new' rfl).ext ((Ext.refl _).alloc _)).ext ((Ext.refl _).alloc _)).ext ((Ext.refl _).alloc _)).ext ((Ext.refl _).alloc _)
  have hPA : Blk 62 W0 (w.heap.size + 1) [.int .i64 a1, .int .i64 a2] := by rw [hW0]; exact (((Blk.new' (by simp)).ext ((Ext.refl _).alloc _)).ext ((Ext.refl _).alloc _)).ext ((Ext.refl _).alloc _)
  have hPB : Blk 62 W0 (w.heap.size + 1 + 1) [.int .i64 b1, .int .i64 b2] := by rw [hW0]; exact ((Blk.new' (by simp)).ext ((Ext.refl _).alloc _)).ext ((Ext.refl _).alloc _)
  have hR : Blk 57 W0 (w.heap.size + 1 + 1 + 1) [.string ⟨#[]⟩, .slice none 0 0] := by rw [hW0]; exact (Blk.new' (by simp)).ext ((Ext.refl _).alloc _)
  have hQ : Blk 57 W0 (w.heap.size + 1 + 1 + 1 + 1) [.string nm, .slice none 0 0] := by rw [hW0]; exact Blk.new' (by simp)
  have hx0 : Ext w W0 := by rw [hW0]; exact (((((Ext.refl _).alloc _).alloc _).alloc _).alloc _).alloc _
  have hsz : W0.heap.size = w.heap.size + 5 := by rw [hW0]; simp
  have HX := Lib.hid hX; have HPA := Lib.hid hPA; have HPB := Lib.hid hPB; have HR := Lib.hid hR; have HQ0 := Lib.hid hQ; have HX0 := Lib.hid hx0; have HSZ := Lib.hid hsz
  clear hW0 hX hPA hPB hR hQ hx0 hsz
  obtain ⟨ob, hob⟩ : ∃ ob, ob = w.heap.size + 1 + 1 + 1 + 1 := ⟨_, rfl⟩
  rw [← hob] at HQ0 ⊢
  have hobl : w.heap.size + 4 = ob := by omega
  have HOB := Lib.hid hobl; clear hob hobl
  have HKX : Hid (∀ wr, Kept (fun k => k = ob) W0 wr → Ext w wr) := fun wr h => h.ext HX0.out (fun k hk => by have := HOB.out; omega)
  go_loopw [9] (fun i wr => ∃ (k : Nat) (v : Value), k ≤ m + 1 ∧ i = .int .i64 k ∧ Blk 57 wr ob [.string nm, v] ∧ OwnT 62 wr W0.heap.size v ((movedS l (a1, a2) (b1, b2)).take k) ∧ Kept (fun k => k = ob) W0 wr) (fun i _ => m + 1 - (intOf i).toNat)
  case atStart => exact ⟨0, _, Nat.zero_le _, rfl, HQ0.out, World.ownsRow_nil _ _ _ _, Kept.refl _ _⟩
  case round =>
    obtain ⟨k, v, hk, rfl, hQ, hO, hK⟩ := hrel
    obtain ⟨VA, vc, hvf⟩ := OwnT.form2 hO
    subst hvf
    have HXw := Lib.hid (HKX.out _ hK)
    have HQ := Lib.hid hQ; have HO := Lib.hid hO; have HK := Lib.hid hK; clear hQ hO hK
    have hobv := HOB.out
    have HXr := Lib.hid (HK.out.blk HX.out (by omega)); have HAr := Lib.hid (HK.out.blk HPA.out (by omega)); have HBr := Lib.hid (HK.out.blk HPB.out (by omega)); have HRr := Lib.hid (HK.out.blk HR.out (by omega))
    clear hobv
    by_cases hlt : k ≤ m
    · obtain ⟨LK, hLK⟩ : ∃ LK, LK = (movedS l (a1, a2) (b1, b2)).take k := ⟨_, rfl⟩
      rw [← hLK] at HO HQ
      have hLKl : LK.length ≤ 1000 := by rw [hLK, List.length_take]; omega
      have HLK := Lib.hid hLK; clear hLK
      obtain ⟨t0, t1⟩ := blk2 HAr.out
      obtain ⟨t2, t3⟩ := blk2 HBr.out
      obtain ⟨X1, hX1⟩ : ∃ X1 : Int, X1 = ((m : Int) - k) * a1 + k * b1 := ⟨_, rfl⟩
      obtain ⟨X2, hX2⟩ : ∃ X2 : Int, X2 = ((m : Int) - k) * a2 + k * b2 := ⟨_, rfl⟩
      have p1 := mul_bd3 (m := m) (k := (m : Int) - k) (y := a1) (by omega) (by omega) (by omega) ⟨ha1, ha1'⟩
      have p2 := mul_bd3 (m := m) (k := k) (y := b1) (by omega) (by omega) (by omega) ⟨hb1, hb1'⟩
      have p3 := mul_bd3 (m := m) (k := (m : Int) - k) (y := a2) (by omega) (by omega) (by omega) ⟨ha2, ha2'⟩
      have p4 := mul_bd3 (m := m) (k := k) (y := b2) (by omega) (by omega) (by omega) ⟨hb2, hb2'⟩
      have hX1b : -1000000000000000 ≤ X1 ∧ X1 ≤ 1000000000000000 := by rw [hX1]; omega
      have hX2b : -1000000000000000 ≤ X2 ∧ X2 ≤ 1000000000000000 := by rw [hX2]; omega
      obtain ⟨D1, hD1⟩ : ∃ D1, D1 = rnd X1 m := ⟨_, rfl⟩
      obtain ⟨D2, hD2⟩ : ∃ D2, D2 = rnd X2 m := ⟨_, rfl⟩
      have HR1 : Hid (∀ W : World, Calls Tryz.prog 97 #[.int .i64 X1, .int .i64 (m : Int)] W fun e w' => e = .returned (.int .i64 D1) ∧ W = w') := fun W => by rw [hD1]; exact rround_any X1 m W hX1b.1 hX1b.2 (by omega) (by omega)
      have HR2 : Hid (∀ W : World, Calls Tryz.prog 97 #[.int .i64 X2, .int .i64 (m : Int)] W fun e w' => e = .returned (.int .i64 D2) ∧ W = w') := fun W => by rw [hD2]; exact rround_any X2 m W hX2b.1 hX2b.2 (by omega) (by omega)
      have HD1 : Hid (D1 = rnd (((m : Int) - k) * a1 + k * b1) m) := by show D1 = _; rw [hD1, hX1]
      have HD2 : Hid (D2 = rnd (((m : Int) - k) * a2 + k * b2) m) := by show D2 = _; rw [hD2, hX2]
      have e1 : IntKind.i64.wrap ((m : Int) - k) = (m : Int) - k := IntWalk.i64_in _ (by omega)
      have e2 : IntKind.i64.wrap (((m : Int) - k) * a1) = ((m : Int) - k) * a1 := IntWalk.i64_in _ (by omega)
      have e3 : IntKind.i64.wrap ((k : Int) * b1) = (k : Int) * b1 := IntWalk.i64_in _ (by omega)
      have e4 : IntKind.i64.wrap (((m : Int) - k) * a2) = ((m : Int) - k) * a2 := IntWalk.i64_in _ (by omega)
      have e5 : IntKind.i64.wrap ((k : Int) * b2) = (k : Int) * b2 := IntWalk.i64_in _ (by omega)
      have e6 : IntKind.i64.wrap (((m : Int) - k) * a1 + (k : Int) * b1) = X1 := by rw [hX1]; exact IntWalk.i64_in _ (by omega)
      have e7 : IntKind.i64.wrap (((m : Int) - k) * a2 + (k : Int) * b2) = X2 := by rw [hX2]; exact IntWalk.i64_in _ (by omega)
      clear hX1 hX2 p1 p2 p3 p4 hX1b hX2b hD1 hD2
      have hpl : w.heap.size + 1 + 1 < wr.heap.size := HBr.out.lt
      have hlt' : (k : Int) ≤ m := by omega
      go_upto_region 6 with fail
      go_cut [10] from 18 to 73 (fun p wc => ∃ db, p = .pointer (some ⟨db, 0, none⟩) ∧ Blk 62 wc db [.int .i64 D1, .int .i64 D2] ∧ Ext wr wc)
      case first =>
        have keep : ∀ W1 : World, Ext wr W1 → (Ext wr W1 ∧ W1.cell? ⟨w.heap.size + 1, 0, none⟩ = some (.int .i64 a1) ∧ W1.cell? ⟨w.heap.size + 1, 1, none⟩ = some (.int .i64 a2) ∧ W1.cell? ⟨w.heap.size + 1 + 1, 0, none⟩ = some (.int .i64 b1) ∧ W1.cell? ⟨w.heap.size + 1 + 1, 1, none⟩ = some (.int .i64 b2)) := fun W1 hx => ⟨hx, hx.cell t0, hx.cell t1, hx.cell t2, hx.cell t3⟩
        have KEEP := Lib.hid keep; clear keep t0 t1 t2 t3
        go_region_held3 (fun W => Ext wr W ∧ W.cell? ⟨w.heap.size + 1, 0, none⟩ = some (.int .i64 a1) ∧ W.cell? ⟨w.heap.size + 1, 1, none⟩ = some (.int .i64 a2) ∧ W.cell? ⟨w.heap.size + 1 + 1, 0, none⟩ = some (.int .i64 b1) ∧ W.cell? ⟨w.heap.size + 1 + 1, 1, none⟩ = some (.int .i64 b2))
          (first | (with_reducible assumption) | (with_reducible exact KEEP.out _ (Ext.drew (Ext.refl _))) | (with_reducible exact KEEP.out _ (Ext.drew (Ext.alloc (Ext.refl _) _))) | fail)
          (first
            | (go_at_call 97; (with_reducible refine (HR1.out _).mono ?_); rintro e wa ⟨rfl, rfl⟩)
            | (go_at_call 97; (with_reducible refine (HR2.out _).mono ?_); rintro e wa ⟨rfl, rfl⟩)
            | fail)
        all_goals
          go_wp2_with fail
          go_meet
        all_goals exact ⟨_, rfl, (Blk.new' rfl).ext ((Ext.refl _).drew), ((Ext.refl _).alloc _).drew⟩
      case rest =>
        obtain ⟨db, hdb, hBd, hxc⟩ := hcut
        subst hdb
        clear t0 t1 t2 t3 e1 e2 e3 e4 e5 e6 e7 hpl HR1 HR2
        have HBD := Lib.hid hBd; have HXC := Lib.hid hxc; clear hBd hxc
        obtain ⟨wz, rfl⟩ : ∃ wz : World, wz = wc := ⟨_, rfl⟩
        have hkl : k < l.length := by rw [HL.out]; omega
        obtain ⟨b, off, hA, c0, c1⟩ := (HA.out.ext (HXw.out.trans HXC.out)).g hkl
        subst hA
        obtain ⟨_, x1⟩ := blk2 (HXr.out.ext HXC.out)
        obtain ⟨d0, d1⟩ := blk2 HBD.out
        have HQz := Lib.hid (HQ.out.ext HXC.out)
        obtain ⟨_, q1⟩ := blk2 HQz.out
        have fq1 := HQz.out.frozen 1
        have HKz := Lib.hid (HK.out.trans (HXC.out.kept _))
        have HOz := Lib.hid (own_ext HO.out HXC.out)
        have hxl : w.heap.size < wz.heap.size := cell_lt x1
        have hdl : db < wz.heap.size := HBD.out.lt
        have hbl : b < wz.heap.size := cell_lt c0
        have hol : ob < wz.heap.size := HQz.out.lt
        have hcl : W0.heap.size ≤ wz.heap.size := HKz.out.size
        have H63 : Hid (LK.length + 1 ≤ maxLen) := by show _ ≤ _; unfold maxLen; omega
        have H64 : Hid ((LK.length + 1) * 16 ≤ 140737488355328) := by show _ ≤ _; omega
        obtain ⟨Y1, hY1⟩ : ∃ Y1, IntKind.i64.wrap ((gS l k).1 + D1) = Y1 := ⟨_, rfl⟩
        obtain ⟨Y2, hY2⟩ : ∃ Y2, IntKind.i64.wrap ((gS l k).2 + D2) = Y2 := ⟨_, rfl⟩
        have HY : Hid (gS (movedS l (a1, a2) (b1, b2)) k = (Y1, Y2)) := by
          show gS _ _ = _
          rw [movedS_g hkl, ← hY1, ← hY2, HD1.out, HD2.out, IntWalk.i64_left, IntWalk.i64_left]
          unfold mvS mvx
          rw [HL.out]
          simp
        have hk1 : (k : Int) < (m : Int) + 1 := by omega
        have CH : Hid (Ext wz (wz.alloc (.cells #[.int .i64 Y1, .int .i64 Y2] 62)).drew) := Ext.drew (Ext.alloc (Ext.refl wz) _)
        have HNE : Hid (Value.ownBlock (.slice VA LK.length vc) ≠ some ob) := own_blk_ne HOz.out HQz.out (by decide)
        go_wp2_with fail
        have HCC : Hid (Ext wz wz.drew) := Ext.drew (Ext.refl _)
        have z0 : ∀ z : World, Ext wz z → z.cell? ⟨ob, 1, none⟩ = some (.slice VA LK.length vc) := fun z h => h.cell q1
        have z1 : ∀ z : World, Ext wz z → z.cell? ⟨w.heap.size, 1, none⟩ = some (.slice (some ⟨b, off, none⟩) (m + 1) c) := fun z h => h.cell x1
        have z2 : ∀ z : World, Ext wz z → z.cell? ⟨b, off + k * 2, none⟩ = some (.int .i64 (gS l k).1) := fun z h => h.cell c0
        have z3 : ∀ z : World, Ext wz z → z.cell? ⟨b, off + k * 2 + 1, none⟩ = some (.int .i64 (gS l k).2) := fun z h => h.cell c1
        have z4 : ∀ z : World, Ext wz z → z.cell? ⟨db, 0, none⟩ = some (.int .i64 D1) := fun z h => h.cell d0
        have z5 : ∀ z : World, Ext wz z → z.cell? ⟨db, 1, none⟩ = some (.int .i64 D2) := fun z h => h.cell d1
        refine region_U' (n := 25) 22 (fun z => Ext wz z) (by kernel_rfl) (by kernel_rfl) ?_
        refine U_take0 (i := 0) (v := ?_) rfl (by kernel_rfl) (fun _ _ _ h => h) (Or.inl ⟨by rfl, ?_⟩) HCC.out ?_
        rotate_left
        · (intro zz hzz; (try dsimp only at hzz); go_simp; try with_reducible rfl)
        ((try simp only [Act.put]); (try simp only [List.setIfInBounds_toArray]); (try simp only [List.set_cons_succ]); (try simp only [List.set_cons_zero]))
        refine U_take (i := 1) (k := 1) (r := []) (v := ?_) rfl (by kernel_rfl) (fun _ _ _ h => h) (Or.inl ⟨by rfl, ?_⟩) HCC.out ?_
        rotate_left
        · (intro zz hzz; (try dsimp only at hzz); go_simp; try with_reducible rfl)
        ((try simp only [Act.put]); (try simp only [List.setIfInBounds_toArray]); (try simp only [List.set_cons_succ]); (try simp only [List.set_cons_zero]))
        refine U_take0 (i := 2) (v := ?_) rfl (by kernel_rfl) (fun _ _ _ h => h) (Or.inl ⟨by rfl, ?_⟩) HCC.out ?_
        rotate_left
        · (intro zz hzz; (try dsimp only at hzz); go_simp; try with_reducible rfl)
        ((try simp only [Act.put]); (try simp only [List.setIfInBounds_toArray]); (try simp only [List.set_cons_succ]); (try simp only [List.set_cons_zero]))
        refine U_take (i := 3) (k := 21) (r := [20, 10, 7, 6, 5, 3]) (v := ?_) rfl (by kernel_rfl) (fun _ _ _ h => h) (Or.inl ⟨by rfl, ?_⟩) HCC.out ?_
        rotate_left
        · (intro zz hzz; (try dsimp only at hzz); go_simp; try with_reducible rfl)
        ((try simp only [Act.put]); (try simp only [List.setIfInBounds_toArray]); (try simp only [List.set_cons_succ]); (try simp only [List.set_cons_zero]))
        refine U_take0 (i := 4) (v := ?_) rfl (by kernel_rfl) (fun _ _ _ h => h) (Or.inl ⟨by rfl, ?_⟩) HCC.out ?_
        rotate_left
        · (intro zz hzz; (try dsimp only at hzz); go_simp; try with_reducible rfl)
        ((try simp only [Act.put]); (try simp only [List.setIfInBounds_toArray]); (try simp only [List.set_cons_succ]); (try simp only [List.set_cons_zero]))
        refine U_take0 (i := 5) (v := ?_) rfl (by kernel_rfl) (fun _ _ _ h => h) (Or.inl ⟨by rfl, ?_⟩) HCC.out ?_
        rotate_left
        · (intro zz hzz; (try dsimp only at hzz); go_simp; try with_reducible rfl)
        ((try simp only [Act.put]); (try simp only [List.setIfInBounds_toArray]); (try simp only [List.set_cons_succ]); (try simp only [List.set_cons_zero]))
        refine U_take0 (i := 6) (v := ?_) rfl (by kernel_rfl) (fun _ _ _ h => h) (Or.inl ⟨by rfl, ?_⟩) HCC.out ?_
        rotate_left
        · (intro zz hzz; (try dsimp only at hzz); go_simp; try with_reducible rfl)
        ((try simp only [Act.put]); (try simp only [List.setIfInBounds_toArray]); (try simp only [List.set_cons_succ]); (try simp only [List.set_cons_zero]))
        refine U_take (i := 7) (k := 21) (r := [20, 10, 7]) (v := ?_) rfl (by kernel_rfl) (fun _ _ _ h => h) (Or.inl ⟨by rfl, ?_⟩) HCC.out ?_
        rotate_left
        · (intro zz hzz; (try dsimp only at hzz); go_simp; try with_reducible rfl)
        ((try simp only [Act.put]); (try simp only [List.setIfInBounds_toArray]); (try simp only [List.set_cons_succ]); (try simp only [List.set_cons_zero]))
        refine U_take0 (i := 8) (v := ?_) rfl (by kernel_rfl) (fun _ _ _ h => h) (Or.inl ⟨by rfl, ?_⟩) HCC.out ?_
        rotate_left
        · (intro zz hzz; (try dsimp only at hzz); go_simp; try with_reducible rfl)
        ((try simp only [Act.put]); (try simp only [List.setIfInBounds_toArray]); (try simp only [List.set_cons_succ]); (try simp only [List.set_cons_zero]))
        refine U_take (i := 9) (k := 21) (r := [20, 10, 9]) (v := ?_) rfl (by kernel_rfl) (fun _ _ _ h => h) (Or.inl ⟨by rfl, ?_⟩) HCC.out ?_
        rotate_left
        · (intro zz hzz; (try dsimp only at hzz); go_simp; try with_reducible rfl)
        ((try simp only [Act.put]); (try simp only [List.setIfInBounds_toArray]); (try simp only [List.set_cons_succ]); (try simp only [List.set_cons_zero]))
        refine U_take0 (i := 10) (v := ?_) rfl (by kernel_rfl) (fun _ _ _ h => h) (Or.inl ⟨by rfl, ?_⟩) HCC.out ?_
        rotate_left
        · (intro zz hzz; (try dsimp only at hzz); go_simp; try with_reducible rfl)
        ((try simp only [Act.put]); (try simp only [List.setIfInBounds_toArray]); (try simp only [List.set_cons_succ]); (try simp only [List.set_cons_zero]))
        refine U_take0 (i := 11) (v := ?_) rfl (by kernel_rfl) (fun _ _ _ h => h) (Or.inl ⟨by rfl, ?_⟩) HCC.out ?_
        rotate_left
        · (intro zz hzz; (try dsimp only at hzz); go_simp; try with_reducible rfl)
        ((try simp only [Act.put]); (try simp only [List.setIfInBounds_toArray]); (try simp only [List.set_cons_succ]); (try simp only [List.set_cons_zero]))
        refine U_take (i := 12) (k := 21) (r := [20, 19, 16, 15, 14, 12]) (v := ?_) rfl (by kernel_rfl) (fun _ _ _ h => h) (Or.inl ⟨by rfl, ?_⟩) HCC.out ?_
        rotate_left
        · (intro zz hzz; (try dsimp only at hzz); go_simp; try with_reducible rfl)
        ((try simp only [Act.put]); (try simp only [List.setIfInBounds_toArray]); (try simp only [List.set_cons_succ]); (try simp only [List.set_cons_zero]))
        refine U_take0 (i := 13) (v := ?_) rfl (by kernel_rfl) (fun _ _ _ h => h) (Or.inl ⟨by rfl, ?_⟩) HCC.out ?_
        rotate_left
        · (intro zz hzz; (try dsimp only at hzz); go_simp; try with_reducible rfl)
        ((try simp only [Act.put]); (try simp only [List.setIfInBounds_toArray]); (try simp only [List.set_cons_succ]); (try simp only [List.set_cons_zero]))
        refine U_take0 (i := 14) (v := ?_) rfl (by kernel_rfl) (fun _ _ _ h => h) (Or.inl ⟨by rfl, ?_⟩) HCC.out ?_
        rotate_left
        · (intro zz hzz; (try dsimp only at hzz); go_simp; try with_reducible rfl)
        ((try simp only [Act.put]); (try simp only [List.setIfInBounds_toArray]); (try simp only [List.set_cons_succ]); (try simp only [List.set_cons_zero]))
        refine U_take0 (i := 15) (v := ?_) rfl (by kernel_rfl) (fun _ _ _ h => h) (Or.inl ⟨by rfl, ?_⟩) HCC.out ?_
        rotate_left
        · (intro zz hzz; (try dsimp only at hzz); go_simp; try with_reducible rfl)
        ((try simp only [Act.put]); (try simp only [List.setIfInBounds_toArray]); (try simp only [List.set_cons_succ]); (try simp only [List.set_cons_zero]))
        refine U_take (i := 16) (k := 21) (r := [20, 19, 16]) (v := ?_) rfl (by kernel_rfl) (fun _ _ _ h => h) (Or.inl ⟨by rfl, ?_⟩) HCC.out ?_
        rotate_left
        · (intro zz hzz; (try dsimp only at hzz); go_simp; try with_reducible rfl)
        ((try simp only [Act.put]); (try simp only [List.setIfInBounds_toArray]); (try simp only [List.set_cons_succ]); (try simp only [List.set_cons_zero]))
        refine U_take0 (i := 17) (v := ?_) rfl (by kernel_rfl) (fun _ _ _ h => h) (Or.inl ⟨by rfl, ?_⟩) HCC.out ?_
        rotate_left
        · (intro zz hzz; (try dsimp only at hzz); go_simp; try with_reducible rfl)
        ((try simp only [Act.put]); (try simp only [List.setIfInBounds_toArray]); (try simp only [List.set_cons_succ]); (try simp only [List.set_cons_zero]))
        refine U_take (i := 18) (k := 21) (r := [20, 19, 18]) (v := ?_) rfl (by kernel_rfl) (fun _ _ _ h => h) (Or.inl ⟨by rfl, ?_⟩) HCC.out ?_
        rotate_left
        · (intro zz hzz; (try dsimp only at hzz); go_simp; try with_reducible rfl)
        ((try simp only [Act.put]); (try simp only [List.setIfInBounds_toArray]); (try simp only [List.set_cons_succ]); (try simp only [List.set_cons_zero]))
        refine U_take0 (i := 19) (v := ?_) rfl (by kernel_rfl) (fun _ _ _ h => h) (Or.inl ⟨by rfl, ?_⟩) HCC.out ?_
        rotate_left
        · (intro zz hzz; (try dsimp only at hzz); go_simp; try with_reducible rfl)
        ((try simp only [Act.put]); (try simp only [List.setIfInBounds_toArray]); (try simp only [List.set_cons_succ]); (try simp only [List.set_cons_zero]))
        refine U_take0 (i := 20) (v := ?_) rfl (by kernel_rfl) (fun _ _ _ h => h) (Or.inl ⟨by rfl, ?_⟩) HCC.out ?_
        rotate_left
        · (intro zz hzz; (try dsimp only at hzz); go_simp; try with_reducible rfl)
        ((try simp only [Act.put]); (try simp only [List.setIfInBounds_toArray]); (try simp only [List.set_cons_succ]); (try simp only [List.set_cons_zero]))
        refine U_one (i := 21) rfl (by kernel_rfl) ?_
        intro K hK
        go_simp
        refine hK _ _ (fun _ => CH.out) ?_
        clear hK K
        ((try simp only [Act.put]); (try simp only [List.setIfInBounds_toArray]); (try simp only [List.set_cons_succ]); (try simp only [List.set_cons_zero]))
        refine U_one (i := 22) rfl (by kernel_rfl) ?_
        intro K hK
        refine step_append_lies _ (by rfl) (.tmp 51) (.tmp 71) 50 (by rfl) W0.heap.size 62 i0 (.agg #[.int .i64 0, .int .i64 0]) 2 16 Tryz.underlying50 hi0 hz0 hz1 hz2 rfl (by decide) (.slice VA LK.length vc) LK.length (scells LK) (by rfl)
               (own_ext HOz.out CH.out) ⟨wz.heap.size, 0, none⟩ 1 1 [.int .i64 Y1, .int .i64 Y2] (by rfl) (by rfl)
               (World.news_of_block (cs := #[.int .i64 Y1, .int .i64 Y2]) (t := 62) (fr := (0, 0)) (heap_alloc_new wz _)) (by simp [Value.oneCell']) (by decide) H63.out H64.out
               (Nat.le_trans hcl (Ext.size CH.out)) (wz.heap.size + 1) (by simp) ?_
        intro gg cap wn hown1 hgrow hat hltn
        have HQn := Lib.hid ((hgrow.block _ (HQz.out.ext CH.out).lt (Ne.symm HNE.out)).trans (HQz.out.ext CH.out))
        have y1 := Blk.cell HQn.out 1
        have yf := Blk.frozen HQn.out 1
        simp only [List.getElem?_cons_succ, List.getElem?_cons_zero] at y1
        refine hK _ _ (fun h => absurd (h.symm.trans (by kernel_rfl)) Bool.false_ne_true) ?_
        clear hK K
        ((try simp only [Act.put]); (try simp only [List.setIfInBounds_toArray]); (try simp only [List.set_cons_succ]); (try simp only [List.set_cons_zero]))
        refine U_one (i := 23) rfl (by kernel_rfl) ?_
        intro K hK
        go_simp
        refine hK _ _ (fun h => absurd (h.symm.trans (by kernel_rfl)) Bool.false_ne_true) ?_
        clear hK K
        ((try simp only [Act.put]); (try simp only [List.setIfInBounds_toArray]); (try simp only [List.set_cons_succ]); (try simp only [List.set_cons_zero]))
        refine U_one (i := 24) rfl (by kernel_rfl) ?_
        intro K hK
        go_simp
        refine hK _ _ (fun h => absurd (h.symm.trans (by kernel_rfl)) Bool.false_ne_true) ?_
        clear hK K
        refine U_done (by kernel_rfl) ?_
        have HFIN := Lib.hid (field_fin (wc := W0) (j := 1) (by decide) (HQz.out.ext CH.out) ⟨_, _, _, own_ext HOz.out CH.out⟩ hgrow hown1 (HKz.out.trans (CH.out.kept _)))
        clear hown1 hgrow hat hltn y1 yf hY1 hY2 z0 z1 z2 z3 z4 z5
        go_wp2_with fail
        refine ⟨⟨k + 1, .slice (some ⟨gg, 0, none⟩) (LK.length + 1) cap, by omega, by go_num, HFIN.out.1, ?_, HFIN.out.2.2⟩, by simp [intOf]; omega⟩
        rw [gS_take_succ (by rw [movedS_len]; exact hkl), HY.out, ← HLK.out]
        unfold OwnT
        rw [List.length_append, scells_append]
        exact HFIN.out.2.1
    · obtain rfl : k = m + 1 := by omega
      have hT : (movedS l (a1, a2) (b1, b2)).take (m + 1) = movedS l (a1, a2) (b1, b2) := List.take_of_length_le (by rw [movedS_len, HL.out]; omega)
      have hLn : (movedS l (a1, a2) (b1, b2)).length = m + 1 := by rw [movedS_len, HL.out]
      have hO1 := HO.out
      have hQ1 := HQ.out
      rw [hT, hLn] at hQ1 hO1
      have HO1 := Lib.hid hO1; have HQ1 := Lib.hid hQ1; clear hO1 hQ1 hT hLn HO HQ
      obtain ⟨q0, q1⟩ := blk2 HQ1.out
      obtain ⟨r0, r1⟩ := blk2 HRr.out
      have e0 := HRr.out.frozen 0
      have e1 := HRr.out.frozen 1
      have hlt' : ¬ ((m : Int) + 1) ≤ m := by omega
      go_wp2_with fail
      refine bodyPost_ret (v := .agg #[.string nm, .slice VA (m + 1) vc]) (by simp [results, Tryz.results82, go_sem, r0, r1]) rfl ⟨_, rfl, ?_, ?_⟩
      · exact own_base_le (own_set (own_set HO1.out (own_blk_ne HO1.out HRr.out (by decide)) _) (own_blk_ne HO1.out HRr.out (by decide)) _) HX0.out.size
      · exact (HXw.out.setCell (by simp; omega) _).setCell (by simp; omega) _
end Go.Proofs.YtkigmpholnfkbaaGreat
