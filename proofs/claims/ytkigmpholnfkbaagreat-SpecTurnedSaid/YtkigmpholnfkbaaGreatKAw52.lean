/- garmentlaw52.awake -/
import Derived.Test.YtkigmpholnfkbaaGreatKSh52
/- garmentref21: SameInts, Light -/
namespace Go.Proofs.YtkigmpholnfkbaaGreat
open Go.RowKit
set_option maxHeartbeats 800000 in
theorem sameInts_eq (A B : Option Addr) (n c d : Nat) (l : List Int) (w : World) (ha : IntsAt w A l) (hb : IntsAt w B l) (hl : l.length = n) (hn : n ≤ 1000000) :
    Calls Tryz.prog 21 #[.slice A n c, .slice B n d] w fun e w' => e = .returned (.bool true) ∧ Ext w w' := by
  have HL := Lib.hid hl; clear hl
  have HA := Lib.hid ha; clear ha
  have HB := Lib.hid hb; clear hb
  go_enter Tryz.func21, Tryz.ntmps21
  go_wp2
  go_loopw [5] (fun i wr => ∃ k : Nat, k ≤ n ∧ i = .int .i64 k ∧ ∃ q, wr = w.drewN q) (fun i _ => n - (intOf i).toNat)
  case atStart => exact ⟨0, Nat.zero_le _, rfl, 0, rfl⟩
  case round =>
    obtain ⟨k, hk, rfl, q, rfl⟩ := hrel
    by_cases hlt : k < n
    · have hkl : k < l.length := by rw [HL.out]; exact hlt
      obtain ⟨b, off, rfl, hc0⟩ := HA.out.g hkl
      obtain ⟨b', off', rfl, hd0⟩ := HB.out.g hkl
      go_wp2
      go_quiet (fail)
      go_wp2
      go_roundw
      case rel => exact ⟨k + 1, by omega, by go_num, _, rfl⟩
      case measure => simp [intOf]; omega
    · go_wp2
      go_ret
      exact ⟨rfl, Ext.drewN (Ext.refl _) _⟩
/- Light: what it means that it answers true -/
def RetL (w : World) (es : List Edge) (nC nN nW most : Nat) (e : Ending) (w' : World) : Prop :=
  ∃ b, e = .returned (.bool b) ∧ Ext w w' ∧ (b = true → es.length ≤ 20 ∧ nC ≤ 20 ∧ nW ≤ 20 ∧ nN ≤ 20 ∧ ∀ k, k < es.length → (gE es k).2.length ≤ most ∧ (gE es k).1.size ≤ 100)
def sumL (es : List Edge) : Nat → Nat
  | 0 => 0
  | k + 1 => sumL es k + (gE es k).2.length
theorem light_all {es : List Edge} {n most : Nat} (h : ∀ j, j < n → (gE es j).2.length ≤ most) (hn : n ≤ 20) : sumL es n ≤ n * most := by
  induction n with
  | zero => simp [sumL]
  | succ n ih =>
    have := ih (fun j hj => h j (by omega)) (by omega)
    have := h n (by omega)
    simp only [sumL]; rw [Nat.add_mul]; omega
set_option maxRecDepth 100000 in
set_option maxHeartbeats 3200000 in
theorem light_any (nm : ByteArray) (AE AN AC AW : Option Addr) (nE cE nN cN nC cC nW cW : Nat) (gr : Int) (mt : Bool) (es : List Edge) (w : World) (most : Nat) (hm : most ≤ 1000)
    (hE : EdgesAt w AE es) (hlE : es.length = nE) :
    Calls Tryz.prog 38 #[.agg #[.string nm, .slice AE nE cE, .int .i64 gr, .slice AN nN cN, .slice AC nC cC, .slice AW nW cW, .bool mt], .int .i64 (most : Int)] w (RetL w es nC nN nW most) := by
  have HLE := Lib.hid hlE; clear hlE
  have HE := Lib.hid hE; clear hE
  by_cases h1 : 20 < nE
  · go_enter Tryz.func38, Tryz.ntmps38
    go_wp2_with fail
    go_ret
    exact ⟨_, rfl, (Ext.refl _).alloc _, fun h => by cases h⟩
  by_cases h2 : 20 < nC
  · go_enter Tryz.func38, Tryz.ntmps38
    go_wp2_with fail
    go_ret
    exact ⟨_, rfl, (Ext.refl _).alloc _, fun h => by cases h⟩
  by_cases h3 : 20 < nW
  · go_enter Tryz.func38, Tryz.ntmps38
    go_wp2_with fail
    go_ret
    exact ⟨_, rfl, (Ext.refl _).alloc _, fun h => by cases h⟩
  by_cases h4 : 20 < nN
  · go_enter Tryz.func38, Tryz.ntmps38
    go_wp2_with fail
    go_ret
    exact ⟨_, rfl, (Ext.refl _).alloc _, fun h => by cases h⟩
  go_enter Tryz.func38, Tryz.ntmps38
  go_wp2_with fail
  refine wp_at fun W0 hW0 => ?_
  have hx0 : Ext w W0 := by rw [hW0]; exact (Ext.refl _).alloc _
  have b1 : W0.cell? ⟨w.heap.size, 1, none⟩ = some (.slice AE nE cE) := by rw [hW0]; simp [go_sem]
  have HX0 := Lib.hid hx0; clear hW0 hx0
  go_loopw [5, 6] (fun s i wr => ∃ k : Nat, k ≤ nE ∧ i = .int .i64 k ∧ s = .int .i64 (sumL es k) ∧ (∀ j, j < k → (gE es j).2.length ≤ most ∧ (gE es j).1.size ≤ 100) ∧ wr = W0) (fun _ i _ => nE - (intOf i).toNat)
  case atStart => exact ⟨0, Nat.zero_le _, rfl, rfl, fun j hj => absurd hj (Nat.not_lt_zero _), rfl⟩
  case round =>
    obtain ⟨k, hk, rfl, rfl, hall, rfl⟩ := hrel
    have hsum := light_all (es := es) (n := k) (most := most) (fun j hj => (hall j hj).1) (by omega)
    have hsum' : sumL es k ≤ 20000 := Nat.le_trans hsum (by have := Nat.mul_le_mul (show k ≤ 20 by omega) hm; omega)
    have HALL := Lib.hid hall; clear hall hsum
    obtain ⟨S, hS⟩ : ∃ S, S = sumL es k := ⟨_, rfl⟩
    rw [← hS] at hsum' ⊢
    have HSS := Lib.hid hS; clear hS
    by_cases hlt : k < nE
    · have hkl : k < es.length := by rw [HLE.out]; exact hlt
      obtain ⟨b, off, L, cL, rfl, hc0, hc1, hS, hcL, hcL'⟩ := (HE.out.ext HX0.out).g hkl
      obtain ⟨sz, hsz⟩ : ∃ sz, sz = (gE es k).2.length := ⟨_, rfl⟩
      obtain ⟨nn, hnn⟩ : ∃ nn, nn = (gE es k).1 := ⟨_, rfl⟩
      rw [← hsz] at hc1 hcL
      rw [← hnn] at hc0
      have HSZ := Lib.hid hsz; have HNN := Lib.hid hnn; clear hsz hnn hS
      by_cases g1 : most < sz
      · go_wp2_with fail
        go_ret
        exact ⟨_, rfl, HX0.out, fun h => by cases h⟩
      by_cases g2 : 100 < nn.size
      · go_wp2_with fail
        go_ret
        exact ⟨_, rfl, HX0.out, fun h => by cases h⟩
      go_wp2_with fail
      go_roundw
      case rel =>
        refine ⟨k + 1, by omega, by go_num, ?_, fun j hj => ?_, trivial⟩
        · simp only [sumL, ← HSS.out, ← HSZ.out]; go_num
        · rcases Nat.lt_succ_iff_lt_or_eq.1 hj with h | h
          · exact HALL.out j h
          · subst h; rw [← HSZ.out, ← HNN.out]; omega
      case measure => simp [intOf]; omega
    · obtain rfl : k = nE := by omega
      go_wp2_with fail
      go_ret
      refine ⟨_, rfl, HX0.out, fun _ => ⟨by rw [HLE.out]; omega, by omega, by omega, by omega, fun j hj => HALL.out j (by rw [HLE.out] at hj; exact hj)⟩⟩
end Go.Proofs.YtkigmpholnfkbaaGreat
namespace Go.Proofs.YtkigmpholnfkbaaGreat
open Go.RowKit
def gthA (i0 i1 : Nat) : PomA := ⟨gthN, some ⟨i0, 0, none⟩, 2, 2, some ⟨i1, 0, none⟩, 2, 2, 500, 300⟩
theorem ints_blk {w : World} {g : Nat} {L : List Int} (h : Blk 3 w g (icells L)) (hl : L.length ≤ 1000) : IntsAt w (some ⟨g, 0, none⟩) L := (OwnI.plain (own_of_int (base := 0) h (Nat.zero_le _) (by omega))).2.1
theorem gth_at {w : World} {i0 i1 : Nat} (h0 : Blk 3 w i0 (icells [0, 0])) (h1 : Blk 3 w i1 (icells [0, 1])) (nm : ByteArray) : PomAt w ⟨nm, some ⟨i0, 0, none⟩, 2, 2, some ⟨i1, 0, none⟩, 2, 2, 500, 300⟩ ⟨nm, [0, 0], [0, 1], 500, 300⟩ :=
  ⟨rfl, ints_blk h0 (Nat.le_of_ble_eq_true rfl), rfl, ints_blk h1 (Nat.le_of_ble_eq_true rfl), rfl, rfl, rfl, Nat.le_of_ble_eq_true rfl, Nat.le_of_ble_eq_true rfl⟩
theorem gth_poms {w : World} {i0 i1 g : Nat} (h0 : Blk 3 w i0 (icells [0, 0])) (h1 : Blk 3 w i1 (icells [0, 1]))
    (hg : Blk 36 w g [.string gthN, .slice (some ⟨i0, 0, none⟩) 2 2, .slice (some ⟨i1, 0, none⟩) 2 2, .int .i64 500, .int .i64 300, .string ⟨#[98]⟩, .slice (some ⟨i0, 0, none⟩) 2 2, .slice (some ⟨i1, 0, none⟩) 2 2, .int .i64 500, .int .i64 300,
      .string ⟨#[99]⟩, .slice (some ⟨i0, 0, none⟩) 2 2, .slice (some ⟨i1, 0, none⟩) 2 2, .int .i64 500, .int .i64 300, .string ⟨#[100]⟩, .slice (some ⟨i0, 0, none⟩) 2 2, .slice (some ⟨i1, 0, none⟩) 2 2, .int .i64 500, .int .i64 300]) : PomsAt w (some ⟨g, 0, none⟩) gthL := fun k hk => by
  match k, hk with
  | 0, _ => exact ⟨g, 0, _, rfl, gth_at h0 h1 gthN, hg.cell 0, hg.cell 1, hg.cell 2, hg.cell 3, hg.cell 4⟩
  | 1, _ => exact ⟨g, 0, _, rfl, gth_at h0 h1 ⟨#[98]⟩, hg.cell 5, hg.cell 6, hg.cell 7, hg.cell 8, hg.cell 9⟩
  | 2, _ => exact ⟨g, 0, _, rfl, gth_at h0 h1 ⟨#[99]⟩, hg.cell 10, hg.cell 11, hg.cell 12, hg.cell 13, hg.cell 14⟩
  | 3, _ => exact ⟨g, 0, _, rfl, gth_at h0 h1 ⟨#[100]⟩, hg.cell 15, hg.cell 16, hg.cell 17, hg.cell 18, hg.cell 19⟩
def awT (val : Int) (i0 i1 : Nat) : Nat → Value → World → Prop
  | 0, v, w => ∃ a, v = StyA.val a ∧ StyXAt w a shX
  | 1, v, _ => v = PomA.val (gthA i0 i1)
  | 2, v, _ => v = .tuple #[.int .i64 val, .int .i64 0]
  | 3, v, _ => v = .tuple #[.int .i64 val, .int .i64 0]
  | 4, v, _ => v = .int .i64 val
  | 5, v, _ => v = .int .i64 0
  | 6, v, _ => v = .int .i64 val
  | _, _, _ => True
theorem awT_ext (val : Int) (i0 i1 : Nat) (i : Nat) (v : Value) (w w' : World) (hi : i < 7) (he : Ext w w') (h : awT val i0 i1 i v w) : awT val i0 i1 i v w' := by
  match i, hi with
  | 0, _ => obtain ⟨a, h1, h2⟩ := h; exact ⟨a, h1, h2.ext he⟩
  | 1, _ => exact h
  | 2, _ => exact h
  | 3, _ => exact h
  | 4, _ => exact h
  | 5, _ => exact h
  | 6, _ => exact h
  | n + 7, hn => exact absurd hn (by omega)
def badA (j0 j1 : Nat) : PomA := ⟨gthN, some ⟨j0, 0, none⟩, 1, 1, some ⟨j1, 0, none⟩, 1, 1, 0, 0⟩
theorem bad_at {w : World} {j0 j1 : Nat} (h0 : Blk 3 w j0 (icells [0])) (h1 : Blk 3 w j1 (icells [4])) : PomAt w (badA j0 j1) badP :=
  ⟨rfl, ints_blk h0 (Nat.le_of_ble_eq_true rfl), rfl, ints_blk h1 (Nat.le_of_ble_eq_true rfl), rfl, rfl, rfl, Nat.le_of_ble_eq_true rfl, Nat.le_of_ble_eq_true rfl⟩
def oneAA : PomA := ⟨⟨#[97]⟩, none, 0, 0, none, 0, 0, 0, 0⟩
theorem oneA_at (w : World) : PomAt w oneAA oneAP := ⟨rfl, IntsAt.nil, rfl, IntsAt.nil, rfl, rfl, rfl, Nat.le_of_ble_eq_true rfl, Nat.le_of_ble_eq_true rfl⟩
def awU (A7 : Option Addr) (c7 L j0 j1 : Nat) : Nat → Value → World → Prop
  | 0, v, _ => v = .slice A7 4 c7
  | 1, v, w => ∃ g, v = .slice (some ⟨g, 0, none⟩) 4 4 ∧ Blk 3 w g (icells [0, 0, 1, -700])
  | 4, v, w => ∃ a, v = StyA.val a ∧ StyXAt w a shX
  | 5, v, _ => v = PomA.val (badA j0 j1)
  | 6, v, w => ∃ g, v = .slice (some ⟨g, 0, none⟩) 1 1 ∧ Blk 36 w g (PomA.cells (badA j0 j1))
  | 7, v, _ => v = .int .i64 3
  | 11, v, w => ∃ a, v = StyA.val a ∧ StyXAt w a shX
  | 12, v, _ => v = PomA.val oneAA
  | 13, v, w => ∃ g, v = .slice (some ⟨g, 0, none⟩) 1 1 ∧ Blk 36 w g (PomA.cells oneAA)
  | 14, v, _ => v = .int .i64 1
  | 18, v, w => ∃ a, v = StyA.val a ∧ StyXAt w a shX
  | 19, v, _ => v = .slice (some ⟨L, 0, none⟩) 4 4
  | 20, v, _ => v = .int .i64 0
  | _, v, _ => v = .bool true
theorem awU_ext (A7 : Option Addr) (c7 L j0 j1 : Nat) (i : Nat) (v : Value) (w w' : World) (hi : i < 23) (he : Ext w w') (h : awU A7 c7 L j0 j1 i v w) : awU A7 c7 L j0 j1 i v w' := by
  match i, hi with
  | 0, _ => exact h
  | 1, _ => obtain ⟨g, h1, h2⟩ := h; exact ⟨g, h1, h2.ext he⟩
  | 2, _ => exact h
  | 3, _ => exact h
  | 4, _ => obtain ⟨a, h1, h2⟩ := h; exact ⟨a, h1, h2.ext he⟩
  | 5, _ => exact h
  | 6, _ => obtain ⟨g, h1, h2⟩ := h; exact ⟨g, h1, h2.ext he⟩
  | 7, _ => exact h
  | 8, _ => exact h
  | 9, _ => exact h
  | 10, _ => exact h
  | 11, _ => obtain ⟨a, h1, h2⟩ := h; exact ⟨a, h1, h2.ext he⟩
  | 12, _ => exact h
  | 13, _ => obtain ⟨g, h1, h2⟩ := h; exact ⟨g, h1, h2.ext he⟩
  | 14, _ => exact h
  | 15, _ => exact h
  | 16, _ => exact h
  | 17, _ => exact h
  | 18, _ => obtain ⟨a, h1, h2⟩ := h; exact ⟨a, h1, h2.ext he⟩
  | 19, _ => exact h
  | 20, _ => exact h
  | 21, _ => exact h
  | 22, _ => exact h
  | n + 23, hn => exact absurd hn (by omega)
set_option maxRecDepth 100000 in
set_option maxHeartbeats 6400000 in
theorem awake_any (w : World) : Calls Tryz.prog 12 #[] w fun e w' => e = .returned (.bool true) ∧ Ext w w' := by
  go_enter Tryz.func12, Tryz.ntmps12
  go_upto_region 2 with fail
  refine wp_at fun W0 hW0 => ?_
  have hI0 : Blk 3 W0 w.heap.size (icells [0, 0]) := by rw [hW0]; exact ((Blk.new' rfl).ext ((Ext.refl _).alloc _)).ext ((Ext.refl _).alloc _)
  have hI1 : Blk 3 W0 (w.heap.size + 1) (icells [0, 1]) := by rw [hW0]; exact (Blk.new' (by simp)).ext ((Ext.refl _).alloc _)
  have hNB : Blk 36 W0 (w.heap.size + 1 + 1) (gthA w.heap.size (w.heap.size + 1)).cells := by rw [hW0]; exact Blk.new' (by simp)
  have hx0 : Ext w W0 := by rw [hW0]; exact (((Ext.refl _).alloc _).alloc _).alloc _
  obtain ⟨nb, hnb⟩ : ∃ nb, nb = w.heap.size + 1 + 1 := ⟨_, rfl⟩
  obtain ⟨i1, hi1⟩ : ∃ i1, i1 = w.heap.size + 1 := ⟨_, rfl⟩
  obtain ⟨i0, hi0⟩ : ∃ i0, i0 = w.heap.size := ⟨_, rfl⟩
  rw [← hnb] at hNB ⊢
  rw [← hi1] at hI1 hNB ⊢
  rw [← hi0] at hI0 hNB ⊢
  have HI0 := Lib.hid hI0; have HI1 := Lib.hid hI1; have HX0 := Lib.hid hx0
  have HNB : Hid (Blk 36 W0 nb [.string gthN, .slice (some ⟨i0, 0, none⟩) 2 2, .slice (some ⟨i1, 0, none⟩) 2 2, .int .i64 500, .int .i64 300]) := hNB
  clear hW0 hI0 hI1 hNB hx0 hnb hi1 hi0
  have HPG : Hid (∀ W, Ext W0 W → PomAt W (gthA i0 i1) gthP) := fun W h => gth_at (HI0.out.ext h) (HI1.out.ext h) gthN
  refine region_slots' (l := 7) (N := 135) (W0 := W0) [20, 21, 22, 19, 23, 24, 2] (awT 20000 i0 i1) (by kernel_rfl) (by kernel_rfl) (by kernel_rfl) (by kernel_rfl) (Ext.refl _) (awT_ext _ _ _) (fun i hi => ?_) ?_
  · match i, hi with
    -- A begin
    | 0, _ =>
      intro o ho b w hx hb hd K hK
      simp only [List.getElem?_toArray, List.getElem?_cons_zero, List.getElem?_cons_succ, Option.some.injEq] at ho
      subst ho
      refine step_callW (wanted_all rfl) 31 [] #[] rfl _ Tryz.func31 rfl (by decide +kernel) [] rfl (shirt_any w) (fun e w' h => ?_)
      obtain ⟨a, rfl, hS, hx'⟩ := h
      exact ⟨_, rfl, hK _ _ hx' ⟨a, rfl, hS⟩⟩
    | 1, _ =>
      intro o ho b w hx hb hd K hK
      simp only [List.getElem?_toArray, List.getElem?_cons_zero, List.getElem?_cons_succ, Option.some.injEq] at ho
      subst ho
      have e1 : b.eval (.tmp 1) = .pointer (some ⟨nb, 0, none⟩) := hb 1 (by kernel_rfl)
      obtain ⟨c0, c1, c2, c3, c4⟩ := blk5 (HNB.out.ext hx)
      refine step_valR (wanted_all rfl) (v := PomA.val (gthA i0 i1)) (w' := w) (fun ρ hρ hc => ?_) (hK _ _ (Ext.refl _) rfl)
      have r1 := (hρ (.tmp 1)).trans e1
      simp [execOp, r1, go_sem, c0, c1, c2, c3, c4, PomA.val, gthA]
    | 2, _ =>
      intro o ho b w hx hb hd K hK
      simp only [List.getElem?_toArray, List.getElem?_cons_zero, List.getElem?_cons_succ, Option.some.injEq] at ho
      subst ho
      obtain ⟨a, x0, hS⟩ := hd 0 20 rfl (by kernel_rfl)
      have x1 : b.eval (.tmp 21) = PomA.val (gthA i0 i1) := hd 1 21 rfl (by kernel_rfl)
      refine step_callW (wanted_all rfl) 15 [.tmp 20, .tmp 21, .const (.int .i64 0)] #[29, 36, 3] rfl _ Tryz.func15 rfl (by decide +kernel) [StyA.val a, PomA.val (gthA i0 i1), .int .i64 0] (by simp only [List.map_cons, List.map_nil, eval_const, x0, x1]) (targX_any a shX (gthA i0 i1) gthP 0 w hS sh_sz sh_zz (HPG.out w hx)) (fun e w' h => ?_)
      obtain ⟨rfl, hx'⟩ := h
      exact ⟨_, rfl, hK _ _ hx' (by rw [sh_v0, sh_t0]; rfl)⟩
    | 3, _ =>
      intro o ho b w hx hb hd K hK
      simp only [List.getElem?_toArray, List.getElem?_cons_zero, List.getElem?_cons_succ, Option.some.injEq] at ho
      subst ho
      have x0 : b.eval (.tmp 22) = .tuple #[.int .i64 20000, .int .i64 0] := hd 2 22 rfl (by kernel_rfl)
      refine step_valR (wanted_all rfl) (v := .tuple #[.int .i64 20000, .int .i64 0]) (w' := w) (fun ρ hρ hc => ?_) (hK _ _ (Ext.refl _) rfl)
      have r1 := (hρ (.tmp 22)).trans x0
      simp [execOp, r1, go_sem]
    | 4, _ =>
      intro o ho b w hx hb hd K hK
      simp only [List.getElem?_toArray, List.getElem?_cons_zero, List.getElem?_cons_succ, Option.some.injEq] at ho
      subst ho
      have x0 : b.eval (.tmp 19) = .tuple #[.int .i64 20000, .int .i64 0] := hd 3 19 rfl (by kernel_rfl)
      refine step_valR (wanted_all rfl) (v := .int .i64 20000) (w' := w) (fun ρ hρ hc => ?_) (hK _ _ (Ext.refl _) rfl)
      have r1 := (hρ (.tmp 19)).trans x0
      simp [execOp, r1, go_sem]
    | 5, _ =>
      intro o ho b w hx hb hd K hK
      simp only [List.getElem?_toArray, List.getElem?_cons_zero, List.getElem?_cons_succ, Option.some.injEq] at ho
      subst ho
      have x0 : b.eval (.tmp 19) = .tuple #[.int .i64 20000, .int .i64 0] := hd 3 19 rfl (by kernel_rfl)
      refine step_valR (wanted_all rfl) (v := .int .i64 0) (w' := w) (fun ρ hρ hc => ?_) (hK _ _ (Ext.refl _) rfl)
      have r1 := (hρ (.tmp 19)).trans x0
      simp [execOp, r1, go_sem]
    | 6, _ =>
      intro o ho b w hx hb hd K hK
      simp only [List.getElem?_toArray, List.getElem?_cons_zero, List.getElem?_cons_succ, Option.some.injEq] at ho
      subst ho
      have x0 : b.eval (.tmp 23) = .int .i64 20000 := hd 4 23 rfl (by kernel_rfl)
      refine step_valR (wanted_all rfl) (v := .int .i64 20000) (w' := w) (fun ρ hρ hc => ?_) (hK _ _ (Ext.refl _) rfl)
      have r1 := (hρ (.tmp 23)).trans x0
      simp [execOp, r1, go_sem]
    -- A end
    | n + 7, hn => exact absurd hn (by omega)
  intro o ho xs w1 hx hT b hb1 hb hbd K hK
  simp only [List.getElem?_toArray, List.getElem?_cons_zero, List.getElem?_cons_succ, Option.some.injEq] at ho
  subst ho
  have q3 : xs 3 = .tuple #[.int .i64 20000, .int .i64 0] := hT 3 (by decide)
  have q4 : xs 4 = .int .i64 20000 := hT 4 (by decide)
  have q5 : xs 5 = .int .i64 0 := hT 5 (by decide)
  have q6 : xs 6 = .int .i64 20000 := hT 6 (by decide)
  have e24 := (hbd 5 24 rfl).trans q5
  refine step_valR (wanted_all rfl) (v := .int .i64 0) (w' := w1) (fun ρ hρ hc => ?_) ?_
  · have r1 := (hρ (.tmp 24)).trans e24
    simp [execOp, r1, go_sem]
  refine hK _ _ ?_
  subst hb1
  have HX1 := Lib.hid hx
  clear hK K hb hbd e24 hT hx
  simp only [Act.put, frOf, putAll, List.setIfInBounds_toArray, List.set_cons_succ, List.set_cons_zero, q3, q4, q5, q6]
  clear q3 q4 q5 q6
  generalize xs (0 + 1 + 1) = y2
  generalize xs (0 + 1) = y1
  generalize xs 0 = y0
  clear xs
  have HPG1 : Hid (∀ W, Ext w1 W → PomAt W (gthA i0 i1) gthP) := fun W h => HPG.out W (HX1.out.trans h)
  have HNB1 := Lib.hid (HNB.out.ext HX1.out)
  have HI01 := Lib.hid (HI0.out.ext HX1.out)
  have HI11 := Lib.hid (HI1.out.ext HX1.out)
  have HXw := Lib.hid (HX0.out.trans HX1.out)
  clear HPG HNB HI0 HI1 HX0 HX1
  have HPG := HPG1; have HNB := HNB1; have HI0 := HI01; have HI1 := HI11
  clear HPG1 HNB1 HI01 HI11
  go_wp2_with fail
  refine region_slots' (l := 7) (N := 135) (W0 := w1) [26, 27, 28, 25, 29, 30, 4] (awT 22000 i0 i1) (by kernel_rfl) (by kernel_rfl) (by kernel_rfl) (by kernel_rfl) (Ext.refl _) (awT_ext _ _ _) (fun i hi => ?_) ?_
  · match i, hi with
    -- B begin
    | 0, _ =>
      intro o ho b w hx hb hd K hK
      simp only [List.getElem?_toArray, List.getElem?_cons_zero, List.getElem?_cons_succ, Option.some.injEq] at ho
      subst ho
      refine step_callW (wanted_all rfl) 31 [] #[] rfl _ Tryz.func31 rfl (by decide +kernel) [] rfl (shirt_any w) (fun e w' h => ?_)
      obtain ⟨a, rfl, hS, hx'⟩ := h
      exact ⟨_, rfl, hK _ _ hx' ⟨a, rfl, hS⟩⟩
    | 1, _ =>
      intro o ho b w hx hb hd K hK
      simp only [List.getElem?_toArray, List.getElem?_cons_zero, List.getElem?_cons_succ, Option.some.injEq] at ho
      subst ho
      have e1 : b.eval (.tmp 1) = .pointer (some ⟨nb, 0, none⟩) := hb 1 (by kernel_rfl)
      obtain ⟨c0, c1, c2, c3, c4⟩ := blk5 (HNB.out.ext hx)
      refine step_valR (wanted_all rfl) (v := PomA.val (gthA i0 i1)) (w' := w) (fun ρ hρ hc => ?_) (hK _ _ (Ext.refl _) rfl)
      have r1 := (hρ (.tmp 1)).trans e1
      simp [execOp, r1, go_sem, c0, c1, c2, c3, c4, PomA.val, gthA]
    | 2, _ =>
      intro o ho b w hx hb hd K hK
      simp only [List.getElem?_toArray, List.getElem?_cons_zero, List.getElem?_cons_succ, Option.some.injEq] at ho
      subst ho
      obtain ⟨a, x0, hS⟩ := hd 0 26 rfl (by kernel_rfl)
      have x1 : b.eval (.tmp 27) = PomA.val (gthA i0 i1) := hd 1 27 rfl (by kernel_rfl)
      refine step_callW (wanted_all rfl) 15 [.tmp 26, .tmp 27, .const (.int .i64 1)] #[29, 36, 3] rfl _ Tryz.func15 rfl (by decide +kernel) [StyA.val a, PomA.val (gthA i0 i1), .int .i64 1] (by simp only [List.map_cons, List.map_nil, eval_const, x0, x1]) (targX_any a shX (gthA i0 i1) gthP 1 w hS sh_sz sh_zz (HPG.out w hx)) (fun e w' h => ?_)
      obtain ⟨rfl, hx'⟩ := h
      exact ⟨_, rfl, hK _ _ hx' (by rw [sh_v1, sh_t1]; rfl)⟩
    | 3, _ =>
      intro o ho b w hx hb hd K hK
      simp only [List.getElem?_toArray, List.getElem?_cons_zero, List.getElem?_cons_succ, Option.some.injEq] at ho
      subst ho
      have x0 : b.eval (.tmp 28) = .tuple #[.int .i64 22000, .int .i64 0] := hd 2 28 rfl (by kernel_rfl)
      refine step_valR (wanted_all rfl) (v := .tuple #[.int .i64 22000, .int .i64 0]) (w' := w) (fun ρ hρ hc => ?_) (hK _ _ (Ext.refl _) rfl)
      have r1 := (hρ (.tmp 28)).trans x0
      simp [execOp, r1, go_sem]
    | 4, _ =>
      intro o ho b w hx hb hd K hK
      simp only [List.getElem?_toArray, List.getElem?_cons_zero, List.getElem?_cons_succ, Option.some.injEq] at ho
      subst ho
      have x0 : b.eval (.tmp 25) = .tuple #[.int .i64 22000, .int .i64 0] := hd 3 25 rfl (by kernel_rfl)
      refine step_valR (wanted_all rfl) (v := .int .i64 22000) (w' := w) (fun ρ hρ hc => ?_) (hK _ _ (Ext.refl _) rfl)
      have r1 := (hρ (.tmp 25)).trans x0
      simp [execOp, r1, go_sem]
    | 5, _ =>
      intro o ho b w hx hb hd K hK
      simp only [List.getElem?_toArray, List.getElem?_cons_zero, List.getElem?_cons_succ, Option.some.injEq] at ho
      subst ho
      have x0 : b.eval (.tmp 25) = .tuple #[.int .i64 22000, .int .i64 0] := hd 3 25 rfl (by kernel_rfl)
      refine step_valR (wanted_all rfl) (v := .int .i64 0) (w' := w) (fun ρ hρ hc => ?_) (hK _ _ (Ext.refl _) rfl)
      have r1 := (hρ (.tmp 25)).trans x0
      simp [execOp, r1, go_sem]
    | 6, _ =>
      intro o ho b w hx hb hd K hK
      simp only [List.getElem?_toArray, List.getElem?_cons_zero, List.getElem?_cons_succ, Option.some.injEq] at ho
      subst ho
      have x0 : b.eval (.tmp 29) = .int .i64 22000 := hd 4 29 rfl (by kernel_rfl)
      refine step_valR (wanted_all rfl) (v := .int .i64 22000) (w' := w) (fun ρ hρ hc => ?_) (hK _ _ (Ext.refl _) rfl)
      have r1 := (hρ (.tmp 29)).trans x0
      simp [execOp, r1, go_sem]
    -- B end
    | n + 7, hn => exact absurd hn (by omega)
  intro o ho xs w2 hx hT b hb1 hb hbd K hK
  simp only [List.getElem?_toArray, List.getElem?_cons_zero, List.getElem?_cons_succ, Option.some.injEq] at ho
  subst ho
  have q3 : xs 3 = .tuple #[.int .i64 22000, .int .i64 0] := hT 3 (by decide)
  have q4 : xs 4 = .int .i64 22000 := hT 4 (by decide)
  have q5 : xs 5 = .int .i64 0 := hT 5 (by decide)
  have q6 : xs 6 = .int .i64 22000 := hT 6 (by decide)
  have e30 := (hbd 5 30 rfl).trans q5
  refine step_valR (wanted_all rfl) (v := .int .i64 0) (w' := w2) (fun ρ hρ hc => ?_) ?_
  · have r1 := (hρ (.tmp 30)).trans e30
    simp [execOp, r1, go_sem]
  refine hK _ _ ?_
  subst hb1
  have HX2 := Lib.hid hx
  clear hK K hb hbd e30 hT hx
  simp only [Act.put, frOf, putAll, List.setIfInBounds_toArray, List.set_cons_succ, List.set_cons_zero, q3, q4, q5, q6]
  clear q3 q4 q5 q6
  generalize xs (0 + 1 + 1) = y5
  generalize xs (0 + 1) = y4
  generalize xs 0 = y3
  clear xs
  have HI02 := Lib.hid (HI0.out.ext HX2.out)
  have HI12 := Lib.hid (HI1.out.ext HX2.out)
  have HXv := Lib.hid (HXw.out.trans HX2.out)
  obtain ⟨c0, c1, c2, c3, c4⟩ := blk5 (HNB.out.ext HX2.out)
  clear HPG HNB HI0 HI1 HXw HX2
  go_upto_region 6 with fail
  refine wp_at fun w3 hw3 => ?_
  have hx3 : Ext w2 w3 := by rw [hw3]; exact (Ext.refl _).alloc _
  have hL3 : Blk 36 w3 w2.heap.size [.string gthN, .slice (some ⟨i0, 0, none⟩) 2 2, .slice (some ⟨i1, 0, none⟩) 2 2, .int .i64 500, .int .i64 300, .string ⟨#[98]⟩, .slice (some ⟨i0, 0, none⟩) 2 2, .slice (some ⟨i1, 0, none⟩) 2 2, .int .i64 500, .int .i64 300,
      .string ⟨#[99]⟩, .slice (some ⟨i0, 0, none⟩) 2 2, .slice (some ⟨i1, 0, none⟩) 2 2, .int .i64 500, .int .i64 300, .string ⟨#[100]⟩, .slice (some ⟨i0, 0, none⟩) 2 2, .slice (some ⟨i1, 0, none⟩) 2 2, .int .i64 500, .int .i64 300] := by rw [hw3]; exact Blk.new' rfl
  obtain ⟨L, hL⟩ : ∃ L, L = w2.heap.size := ⟨_, rfl⟩
  rw [← hL] at hL3 ⊢
  have HPL : Hid (∀ W, Ext w3 W → PomsAt W (some ⟨L, 0, none⟩) gthL) := fun W h => gth_poms ((HI02.out.ext hx3).ext h) ((HI12.out.ext hx3).ext h) (hL3.ext h)
  have HX3 := Lib.hid (HXv.out.trans hx3)
  clear hw3 hx3 hL3 hL c0 c1 c2 c3 c4 HI02 HI12 HXv
  go_wp2_with fail
  refine (shirt_any _).mono ?_
  rintro e w4 ⟨a4, rfl, hS4, he4⟩
  have HS4 := Lib.hid hS4; have HX4 := Lib.hid he4; clear hS4 he4
  go_wp2_with fail
  refine (judge_any a4 shX (some ⟨L, 0, none⟩) 4 4 gthL 1 (some ⟨w4.heap.size, 0, none⟩) 4 4 [22500, 21700, 22501, 21000] _ (HS4.out.ext ((Ext.refl _).alloc _)) sh_sz sh_zz (HPL.out _ (HX4.out.alloc _)) rfl (Nat.le_refl _) (Nat.le_of_ble_eq_true rfl) (ints_blk (Blk.new' rfl) (Nat.le_of_ble_eq_true rfl)) rfl (Nat.le_of_ble_eq_true rfl)).mono ?_
  rintro e w5 ⟨v5, rfl, ho5, _, he5⟩
  have ho := ho5 sh_j0
  rw [sh_j0]
  rw [sh_l0] at ho
  obtain ⟨A7, c7, hv, hI, _⟩ := OwnI.slice' (n := 4) ho rfl
  subst hv
  have HI7 := Lib.hid hI; have HX5 := Lib.hid ((HX4.out.alloc _).trans he5)
  clear ho ho5 hI he5 HX4 HS4
  go_wp2_with fail
  refine (shirt_any _).mono ?_
  rintro e w6 ⟨a6, rfl, hS6, he6⟩
  have HS6 := Lib.hid hS6; have HX6 := Lib.hid he6; clear hS6 he6
  go_wp2_with fail
  refine (withinX_any a6 shX (some ⟨L, 0, none⟩) 4 4 gthL 1 (some ⟨w6.heap.size, 0, none⟩) 4 4 [22000, 22000, 22000, 22000] _ (HS6.out.ext ((Ext.refl _).alloc _)) sh_sz sh_zz (HPL.out _ ((HX5.out.trans HX6.out).alloc _)) rfl (Nat.le_refl _) (Nat.le_of_ble_eq_true rfl) (ints_blk (Blk.new' rfl) (Nat.le_of_ble_eq_true rfl)) rfl (Nat.le_of_ble_eq_true rfl)).mono ?_
  rintro e w7 ⟨rfl, he7⟩
  rw [sh_w1, sh_j1]
  have HX7 := Lib.hid ((HX6.out.alloc _).trans he7); clear he7 HX6 HS6
  go_wp2_with fail
  refine (shirt_any _).mono ?_
  rintro e w8 ⟨a8, rfl, hS8, he8⟩
  have HS8 := Lib.hid hS8; have HX8 := Lib.hid he8; clear hS8 he8
  go_wp2_with fail
  refine (withinX_any a8 shX (some ⟨L, 0, none⟩) 4 4 gthL 1 (some ⟨w8.heap.size, 0, none⟩) 4 4 [22000, 22000, 22000, 21699] _ (HS8.out.ext ((Ext.refl _).alloc _)) sh_sz sh_zz (HPL.out _ (((HX5.out.trans HX7.out).trans HX8.out).alloc _)) rfl (Nat.le_refl _) (Nat.le_of_ble_eq_true rfl) (ints_blk (Blk.new' rfl) (Nat.le_of_ble_eq_true rfl)) rfl (Nat.le_of_ble_eq_true rfl)).mono ?_
  rintro e w9 ⟨rfl, he9⟩
  rw [sh_w2, sh_j2]
  have HX9 := Lib.hid (HX7.out.trans ((HX8.out.alloc _).trans he9)); clear he9 HX8 HS8 HX7
  go_wp2_with fail
  refine (shirt_any _).mono ?_
  rintro e w10 ⟨a10, rfl, hS10, he10⟩
  have HS10 := Lib.hid hS10; have HX10 := Lib.hid (HX9.out.trans he10); clear hS10 he10 HX9
  go_wp2_with fail
  refine (judge_any a10 shX (some ⟨L, 0, none⟩) 4 4 gthL 1 none 0 0 [] _ HS10.out sh_sz sh_zz (HPL.out _ (HX5.out.trans HX10.out)) rfl (Nat.le_refl _) (Nat.le_of_ble_eq_true rfl) IntsAt.nil rfl (Nat.le_of_ble_eq_true rfl)).mono ?_
  rintro e w11 ⟨v11, rfl, _, hv11, he11⟩
  have hv := hv11 (by rw [sh_j3]; decide)
  subst hv
  rw [sh_j3]
  have HX11 := Lib.hid (HX10.out.trans he11); clear hv11 he11 HX10 HS10
  have HPL11 : Hid (∀ W, Ext w11 W → PomsAt W (some ⟨L, 0, none⟩) gthL) := fun W h => HPL.out W ((HX5.out.trans HX11.out).trans h)
  have HI11 := Lib.hid (HI7.out.ext HX11.out)
  have HXw := Lib.hid ((HX3.out.trans HX5.out).trans HX11.out)
  clear HPL HI7 HX3 HX5 HX11
  generalize (StyA.val a4) = y46
  generalize (StyA.val a6) = y53
  generalize (StyA.val a8) = y60
  generalize (StyA.val a10) = y67
  go_upto_region 13 with fail
  refine wp_at fun w12 hw12 => ?_
  have hJ0 : Blk 3 w12 w11.heap.size (icells [0]) := by rw [hw12]; exact ((Blk.new' rfl).ext ((Ext.refl _).alloc _)).ext ((Ext.refl _).alloc _)
  have hJ1 : Blk 3 w12 (w11.heap.size + 1) (icells [4]) := by rw [hw12]; exact (Blk.new' (by simp)).ext ((Ext.refl _).alloc _)
  have hBB : Blk 36 w12 (w11.heap.size + 1 + 1) (badA w11.heap.size (w11.heap.size + 1)).cells := by rw [hw12]; exact Blk.new' (by simp)
  have hx12 : Ext w11 w12 := by rw [hw12]; exact (((Ext.refl _).alloc _).alloc _).alloc _
  obtain ⟨bb, hbb⟩ : ∃ nb, nb = w11.heap.size + 1 + 1 := ⟨_, rfl⟩
  obtain ⟨j1, hj1⟩ : ∃ i1, i1 = w11.heap.size + 1 := ⟨_, rfl⟩
  obtain ⟨j0, hj0⟩ : ∃ i0, i0 = w11.heap.size := ⟨_, rfl⟩
  rw [← hbb] at hBB ⊢
  rw [← hj1] at hJ1 hBB
  rw [← hj0] at hJ0 hBB
  have HBB : Hid (Blk 36 w12 bb [.string gthN, .slice (some ⟨j0, 0, none⟩) 1 1, .slice (some ⟨j1, 0, none⟩) 1 1, .int .i64 0, .int .i64 0]) := hBB
  have HBP : Hid (∀ W, Ext w12 W → PomAt W (badA j0 j1) badP) := fun W h => bad_at (hJ0.ext h) (hJ1.ext h)
  have HPL12 : Hid (∀ W, Ext w12 W → PomsAt W (some ⟨L, 0, none⟩) gthL) := fun W h => HPL11.out W (hx12.trans h)
  have HI12 := Lib.hid (HI11.out.ext hx12)
  have HX12 := Lib.hid (HXw.out.trans hx12)
  clear hw12 hJ0 hJ1 hBB hx12 hbb hj1 hj0 HPL11 HI11 HXw
  refine region_slots' (l := 23) (N := 135) (W0 := w12) [112, 113, 114, 115, 116, 117, 118, 119, 120, 121, 122, 123, 124, 125, 126, 127, 128, 129, 130, 131, 132, 133, 134] (awU A7 c7 L j0 j1) (by kernel_rfl) (by kernel_rfl) (by kernel_rfl) (by kernel_rfl) (Ext.refl _) (awU_ext _ _ _ _ _) (fun i hi => ?_) ?_
  · match i, hi with
    -- C begin
    | 0, _ =>
      intro o ho b w hx hb hd K hK
      simp only [List.getElem?_toArray, List.getElem?_cons_zero, List.getElem?_cons_succ, Option.some.injEq] at ho
      subst ho
      have x0 : b.eval (.tmp 7) = .slice A7 4 c7 := hb 7 (by kernel_rfl)
      have r0 := fun (ρ : Operand → Value) (hρ : ∀ x, ρ x = b.eval x) => (hρ (.tmp 7)).trans x0
      refine step_valR (wanted_all rfl) (v := .slice A7 4 c7) (w' := w) (fun ρ hρ hc => ?_) (hK _ _ (Ext.refl _) rfl)
      simp [execOp, go_sem, hc, r0 ρ hρ]
    | 1, _ =>
      intro o ho b w hx hb hd K hK
      simp only [List.getElem?_toArray, List.getElem?_cons_zero, List.getElem?_cons_succ, Option.some.injEq] at ho
      subst ho
      refine step_valR (wanted_all rfl) (v := .slice (some ⟨w.heap.size, 0, none⟩) 4 4) (w' := w.alloc (.cells (icells [0, 0, 1, -700]).toArray 3)) (fun ρ hρ hc => ?_) (hK _ _ ((Ext.refl _).alloc _) ⟨w.heap.size, rfl, Blk.new' rfl⟩)
      simp [execOp, hc, go_sem, icells]
    | 2, _ =>
      intro o ho b w hx hb hd K hK
      simp only [List.getElem?_toArray, List.getElem?_cons_zero, List.getElem?_cons_succ, Option.some.injEq] at ho
      subst ho
      have x0 : b.eval (.tmp 112) = .slice A7 4 c7 := hd 0 112 rfl (by kernel_rfl)
      obtain ⟨g, x1, hB⟩ := hd 1 113 rfl (by kernel_rfl)
      refine step_callW (wanted_all rfl) 21 [.tmp 112, .tmp 113] #[23, 23] rfl _ Tryz.func21 rfl (by decide +kernel) [.slice A7 4 c7, .slice (some ⟨g, 0, none⟩) 4 4] (by simp only [List.map_cons, List.map_nil, x0, x1]) (sameInts_eq A7 (some ⟨g, 0, none⟩) 4 c7 4 [0, 0, 1, -700] w (HI12.out.ext hx) (ints_blk hB (Nat.le_of_ble_eq_true rfl)) rfl (by omega)) (fun e w' h => ?_)
      obtain ⟨rfl, hx'⟩ := h
      exact ⟨_, rfl, hK _ _ hx' rfl⟩
    | 3, _ =>
      intro o ho b w hx hb hd K hK
      simp only [List.getElem?_toArray, List.getElem?_cons_zero, List.getElem?_cons_succ, Option.some.injEq] at ho
      subst ho
      have x0 : b.eval (.tmp 114) = .bool true := hd 2 114 rfl (by kernel_rfl)
      have r0 := fun (ρ : Operand → Value) (hρ : ∀ x, ρ x = b.eval x) => (hρ (.tmp 114)).trans x0
      refine step_valR (wanted_all rfl) (v := .bool true) (w' := w) (fun ρ hρ hc => ?_) (hK _ _ (Ext.refl _) rfl)
      simp [execOp, go_sem, hc, r0 ρ hρ]
    | 4, _ =>
      intro o ho b w hx hb hd K hK
      simp only [List.getElem?_toArray, List.getElem?_cons_zero, List.getElem?_cons_succ, Option.some.injEq] at ho
      subst ho
      have g0 : b.eval (.tmp 115) = .bool true := hd 3 115 rfl (by kernel_rfl)
      refine step_callW (wanted_yes (j := 3) (d := 115) rfl (by kernel_rfl) g0) 31 [] #[] rfl _ Tryz.func31 rfl (by decide +kernel) [] rfl (shirt_any w) (fun e w' h => ?_)
      obtain ⟨a, rfl, hS, hx'⟩ := h
      exact ⟨_, rfl, hK _ _ hx' ⟨a, rfl, hS⟩⟩
    | 5, _ =>
      intro o ho b w hx hb hd K hK
      simp only [List.getElem?_toArray, List.getElem?_cons_zero, List.getElem?_cons_succ, Option.some.injEq] at ho
      subst ho
      have g0 : b.eval (.tmp 115) = .bool true := hd 3 115 rfl (by kernel_rfl)
      have e1 : b.eval (.tmp 15) = .pointer (some ⟨bb, 0, none⟩) := hb 15 (by kernel_rfl)
      obtain ⟨c0, c1, c2, c3, c4⟩ := blk5 (HBB.out.ext hx)
      refine step_valR (wanted_yes (j := 3) (d := 115) rfl (by kernel_rfl) g0) (v := PomA.val (badA j0 j1)) (w' := w) (fun ρ hρ hc => ?_) (hK _ _ (Ext.refl _) rfl)
      have r1 := (hρ (.tmp 15)).trans e1
      simp [execOp, r1, go_sem, c0, c1, c2, c3, c4, PomA.val, badA]
    | 6, _ =>
      intro o ho b w hx hb hd K hK
      simp only [List.getElem?_toArray, List.getElem?_cons_zero, List.getElem?_cons_succ, Option.some.injEq] at ho
      subst ho
      have g0 : b.eval (.tmp 115) = .bool true := hd 3 115 rfl (by kernel_rfl)
      have x0 : b.eval (.tmp 117) = PomA.val (badA j0 j1) := hd 5 117 rfl (by kernel_rfl)
      refine step_valR (wanted_yes (j := 3) (d := 115) rfl (by kernel_rfl) g0) (v := .slice (some ⟨w.heap.size, 0, none⟩) 1 1) (w' := w.alloc (.cells (PomA.cells (badA j0 j1)).toArray 36)) (fun ρ hρ hc => ?_) (hK _ _ ((Ext.refl _).alloc _) ⟨w.heap.size, rfl, Blk.new' rfl⟩)
      have r1 := (hρ (.tmp 117)).trans x0
      simp [execOp, hc, r1, go_sem, PomA.cells, badA]
    | 7, _ =>
      intro o ho b w hx hb hd K hK
      simp only [List.getElem?_toArray, List.getElem?_cons_zero, List.getElem?_cons_succ, Option.some.injEq] at ho
      subst ho
      have g0 : b.eval (.tmp 115) = .bool true := hd 3 115 rfl (by kernel_rfl)
      obtain ⟨a, x0, hS⟩ := hd 4 116 rfl (by kernel_rfl)
      obtain ⟨g, x1, hB⟩ := hd 6 118 rfl (by kernel_rfl)
      refine step_callW (wanted_yes (j := 3) (d := 115) rfl (by kernel_rfl) g0) 13 [.tmp 116, .tmp 118] #[29, 30] rfl _ Tryz.func13 rfl (by decide +kernel) [StyA.val a, .slice (some ⟨g, 0, none⟩) 1 1] (by simp only [List.map_cons, List.map_nil, x0, x1]) (spCheck_any a shX (some ⟨g, 0, none⟩) 1 1 [badP] w hS sh_sz sh_zz (poms_one hB (HBP.out w hx)) rfl (Nat.le_refl _) (Nat.le_of_ble_eq_true rfl)) (fun e w' h => ?_)
      obtain ⟨rfl, hx'⟩ := h
      exact ⟨_, rfl, hK _ _ hx' (by rw [sh_c0]; rfl)⟩
    | 8, _ =>
      intro o ho b w hx hb hd K hK
      simp only [List.getElem?_toArray, List.getElem?_cons_zero, List.getElem?_cons_succ, Option.some.injEq] at ho
      subst ho
      have g0 : b.eval (.tmp 115) = .bool true := hd 3 115 rfl (by kernel_rfl)
      have x0 : b.eval (.tmp 119) = .int .i64 3 := hd 7 119 rfl (by kernel_rfl)
      have r0 := fun (ρ : Operand → Value) (hρ : ∀ x, ρ x = b.eval x) => (hρ (.tmp 119)).trans x0
      refine step_valR (wanted_yes (j := 3) (d := 115) rfl (by kernel_rfl) g0) (v := .bool true) (w' := w) (fun ρ hρ hc => ?_) (hK _ _ (Ext.refl _) rfl)
      simp [execOp, go_sem, hc, r0 ρ hρ]
    | 9, _ =>
      intro o ho b w hx hb hd K hK
      simp only [List.getElem?_toArray, List.getElem?_cons_zero, List.getElem?_cons_succ, Option.some.injEq] at ho
      subst ho
      have x0 : b.eval (.tmp 115) = .bool true := hd 3 115 rfl (by kernel_rfl)
      have x1 : b.eval (.tmp 120) = .bool true := hd 8 120 rfl (by kernel_rfl)
      have r0 := fun (ρ : Operand → Value) (hρ : ∀ x, ρ x = b.eval x) => (hρ (.tmp 115)).trans x0
      have r1 := fun (ρ : Operand → Value) (hρ : ∀ x, ρ x = b.eval x) => (hρ (.tmp 120)).trans x1
      refine step_valR (wanted_all rfl) (v := .bool true) (w' := w) (fun ρ hρ hc => ?_) (hK _ _ (Ext.refl _) rfl)
      simp [execOp, go_sem, hc, r0 ρ hρ, r1 ρ hρ]
    | 10, _ =>
      intro o ho b w hx hb hd K hK
      simp only [List.getElem?_toArray, List.getElem?_cons_zero, List.getElem?_cons_succ, Option.some.injEq] at ho
      subst ho
      have x0 : b.eval (.tmp 121) = .bool true := hd 9 121 rfl (by kernel_rfl)
      have r0 := fun (ρ : Operand → Value) (hρ : ∀ x, ρ x = b.eval x) => (hρ (.tmp 121)).trans x0
      refine step_valR (wanted_all rfl) (v := .bool true) (w' := w) (fun ρ hρ hc => ?_) (hK _ _ (Ext.refl _) rfl)
      simp [execOp, go_sem, hc, r0 ρ hρ]
    | 11, _ =>
      intro o ho b w hx hb hd K hK
      simp only [List.getElem?_toArray, List.getElem?_cons_zero, List.getElem?_cons_succ, Option.some.injEq] at ho
      subst ho
      have g0 : b.eval (.tmp 122) = .bool true := hd 10 122 rfl (by kernel_rfl)
      refine step_callW (wanted_yes (j := 10) (d := 122) rfl (by kernel_rfl) g0) 31 [] #[] rfl _ Tryz.func31 rfl (by decide +kernel) [] rfl (shirt_any w) (fun e w' h => ?_)
      obtain ⟨a, rfl, hS, hx'⟩ := h
      exact ⟨_, rfl, hK _ _ hx' ⟨a, rfl, hS⟩⟩
    | 12, _ =>
      intro o ho b w hx hb hd K hK
      simp only [List.getElem?_toArray, List.getElem?_cons_zero, List.getElem?_cons_succ, Option.some.injEq] at ho
      subst ho
      have g0 : b.eval (.tmp 122) = .bool true := hd 10 122 rfl (by kernel_rfl)
      refine step_valR (wanted_yes (j := 10) (d := 122) rfl (by kernel_rfl) g0) (v := PomA.val oneAA) (w' := w) (fun ρ hρ hc => ?_) (hK _ _ (Ext.refl _) rfl)
      simp [execOp, hc, go_sem, PomA.val, oneAA]
    | 13, _ =>
      intro o ho b w hx hb hd K hK
      simp only [List.getElem?_toArray, List.getElem?_cons_zero, List.getElem?_cons_succ, Option.some.injEq] at ho
      subst ho
      have g0 : b.eval (.tmp 122) = .bool true := hd 10 122 rfl (by kernel_rfl)
      have x0 : b.eval (.tmp 124) = PomA.val oneAA := hd 12 124 rfl (by kernel_rfl)
      refine step_valR (wanted_yes (j := 10) (d := 122) rfl (by kernel_rfl) g0) (v := .slice (some ⟨w.heap.size, 0, none⟩) 1 1) (w' := w.alloc (.cells (PomA.cells oneAA).toArray 36)) (fun ρ hρ hc => ?_) (hK _ _ ((Ext.refl _).alloc _) ⟨w.heap.size, rfl, Blk.new' rfl⟩)
      have r1 := (hρ (.tmp 124)).trans x0
      simp [execOp, hc, r1, go_sem, PomA.cells, oneAA]
    | 14, _ =>
      intro o ho b w hx hb hd K hK
      simp only [List.getElem?_toArray, List.getElem?_cons_zero, List.getElem?_cons_succ, Option.some.injEq] at ho
      subst ho
      have g0 : b.eval (.tmp 122) = .bool true := hd 10 122 rfl (by kernel_rfl)
      obtain ⟨a, x0, hS⟩ := hd 11 123 rfl (by kernel_rfl)
      obtain ⟨g, x1, hB⟩ := hd 13 125 rfl (by kernel_rfl)
      refine step_callW (wanted_yes (j := 10) (d := 122) rfl (by kernel_rfl) g0) 13 [.tmp 123, .tmp 125] #[29, 30] rfl _ Tryz.func13 rfl (by decide +kernel) [StyA.val a, .slice (some ⟨g, 0, none⟩) 1 1] (by simp only [List.map_cons, List.map_nil, x0, x1]) (spCheck_any a shX (some ⟨g, 0, none⟩) 1 1 [oneAP] w hS sh_sz sh_zz (poms_one hB (oneA_at w)) rfl (Nat.le_refl _) (Nat.le_of_ble_eq_true rfl)) (fun e w' h => ?_)
      obtain ⟨rfl, hx'⟩ := h
      exact ⟨_, rfl, hK _ _ hx' (by rw [sh_c1]; rfl)⟩
    | 15, _ =>
      intro o ho b w hx hb hd K hK
      simp only [List.getElem?_toArray, List.getElem?_cons_zero, List.getElem?_cons_succ, Option.some.injEq] at ho
      subst ho
      have g0 : b.eval (.tmp 122) = .bool true := hd 10 122 rfl (by kernel_rfl)
      have x0 : b.eval (.tmp 126) = .int .i64 1 := hd 14 126 rfl (by kernel_rfl)
      have r0 := fun (ρ : Operand → Value) (hρ : ∀ x, ρ x = b.eval x) => (hρ (.tmp 126)).trans x0
      refine step_valR (wanted_yes (j := 10) (d := 122) rfl (by kernel_rfl) g0) (v := .bool true) (w' := w) (fun ρ hρ hc => ?_) (hK _ _ (Ext.refl _) rfl)
      simp [execOp, go_sem, hc, r0 ρ hρ]
    | 16, _ =>
      intro o ho b w hx hb hd K hK
      simp only [List.getElem?_toArray, List.getElem?_cons_zero, List.getElem?_cons_succ, Option.some.injEq] at ho
      subst ho
      have x0 : b.eval (.tmp 122) = .bool true := hd 10 122 rfl (by kernel_rfl)
      have x1 : b.eval (.tmp 127) = .bool true := hd 15 127 rfl (by kernel_rfl)
      have r0 := fun (ρ : Operand → Value) (hρ : ∀ x, ρ x = b.eval x) => (hρ (.tmp 122)).trans x0
      have r1 := fun (ρ : Operand → Value) (hρ : ∀ x, ρ x = b.eval x) => (hρ (.tmp 127)).trans x1
      refine step_valR (wanted_all rfl) (v := .bool true) (w' := w) (fun ρ hρ hc => ?_) (hK _ _ (Ext.refl _) rfl)
      simp [execOp, go_sem, hc, r0 ρ hρ, r1 ρ hρ]
    | 17, _ =>
      intro o ho b w hx hb hd K hK
      simp only [List.getElem?_toArray, List.getElem?_cons_zero, List.getElem?_cons_succ, Option.some.injEq] at ho
      subst ho
      have x0 : b.eval (.tmp 128) = .bool true := hd 16 128 rfl (by kernel_rfl)
      have r0 := fun (ρ : Operand → Value) (hρ : ∀ x, ρ x = b.eval x) => (hρ (.tmp 128)).trans x0
      refine step_valR (wanted_all rfl) (v := .bool true) (w' := w) (fun ρ hρ hc => ?_) (hK _ _ (Ext.refl _) rfl)
      simp [execOp, go_sem, hc, r0 ρ hρ]
    | 18, _ =>
      intro o ho b w hx hb hd K hK
      simp only [List.getElem?_toArray, List.getElem?_cons_zero, List.getElem?_cons_succ, Option.some.injEq] at ho
      subst ho
      have g0 : b.eval (.tmp 129) = .bool true := hd 17 129 rfl (by kernel_rfl)
      refine step_callW (wanted_yes (j := 17) (d := 129) rfl (by kernel_rfl) g0) 31 [] #[] rfl _ Tryz.func31 rfl (by decide +kernel) [] rfl (shirt_any w) (fun e w' h => ?_)
      obtain ⟨a, rfl, hS, hx'⟩ := h
      exact ⟨_, rfl, hK _ _ hx' ⟨a, rfl, hS⟩⟩
    | 19, _ =>
      intro o ho b w hx hb hd K hK
      simp only [List.getElem?_toArray, List.getElem?_cons_zero, List.getElem?_cons_succ, Option.some.injEq] at ho
      subst ho
      have g0 : b.eval (.tmp 129) = .bool true := hd 17 129 rfl (by kernel_rfl)
      have x0 : b.eval (.tmp 6) = .slice (some ⟨L, 0, none⟩) 4 4 := hb 6 (by kernel_rfl)
      have r0 := fun (ρ : Operand → Value) (hρ : ∀ x, ρ x = b.eval x) => (hρ (.tmp 6)).trans x0
      refine step_valR (wanted_yes (j := 17) (d := 129) rfl (by kernel_rfl) g0) (v := .slice (some ⟨L, 0, none⟩) 4 4) (w' := w) (fun ρ hρ hc => ?_) (hK _ _ (Ext.refl _) rfl)
      simp [execOp, go_sem, hc, r0 ρ hρ]
    | 20, _ =>
      intro o ho b w hx hb hd K hK
      simp only [List.getElem?_toArray, List.getElem?_cons_zero, List.getElem?_cons_succ, Option.some.injEq] at ho
      subst ho
      have g0 : b.eval (.tmp 129) = .bool true := hd 17 129 rfl (by kernel_rfl)
      obtain ⟨a, x0, hS⟩ := hd 18 130 rfl (by kernel_rfl)
      have x1 : b.eval (.tmp 131) = .slice (some ⟨L, 0, none⟩) 4 4 := hd 19 131 rfl (by kernel_rfl)
      refine step_callW (wanted_yes (j := 17) (d := 129) rfl (by kernel_rfl) g0) 13 [.tmp 130, .tmp 131] #[29, 30] rfl _ Tryz.func13 rfl (by decide +kernel) [StyA.val a, .slice (some ⟨L, 0, none⟩) 4 4] (by simp only [List.map_cons, List.map_nil, x0, x1]) (spCheck_any a shX (some ⟨L, 0, none⟩) 4 4 gthL w hS sh_sz sh_zz (HPL12.out w hx) rfl (Nat.le_refl _) (Nat.le_of_ble_eq_true rfl)) (fun e w' h => ?_)
      obtain ⟨rfl, hx'⟩ := h
      exact ⟨_, rfl, hK _ _ hx' (by rw [sh_c2]; rfl)⟩
    | 21, _ =>
      intro o ho b w hx hb hd K hK
      simp only [List.getElem?_toArray, List.getElem?_cons_zero, List.getElem?_cons_succ, Option.some.injEq] at ho
      subst ho
      have g0 : b.eval (.tmp 129) = .bool true := hd 17 129 rfl (by kernel_rfl)
      have x0 : b.eval (.tmp 132) = .int .i64 0 := hd 20 132 rfl (by kernel_rfl)
      have r0 := fun (ρ : Operand → Value) (hρ : ∀ x, ρ x = b.eval x) => (hρ (.tmp 132)).trans x0
      refine step_valR (wanted_yes (j := 17) (d := 129) rfl (by kernel_rfl) g0) (v := .bool true) (w' := w) (fun ρ hρ hc => ?_) (hK _ _ (Ext.refl _) rfl)
      simp [execOp, go_sem, hc, r0 ρ hρ]
    | 22, _ =>
      intro o ho b w hx hb hd K hK
      simp only [List.getElem?_toArray, List.getElem?_cons_zero, List.getElem?_cons_succ, Option.some.injEq] at ho
      subst ho
      have x0 : b.eval (.tmp 129) = .bool true := hd 17 129 rfl (by kernel_rfl)
      have x1 : b.eval (.tmp 133) = .bool true := hd 21 133 rfl (by kernel_rfl)
      have r0 := fun (ρ : Operand → Value) (hρ : ∀ x, ρ x = b.eval x) => (hρ (.tmp 129)).trans x0
      have r1 := fun (ρ : Operand → Value) (hρ : ∀ x, ρ x = b.eval x) => (hρ (.tmp 133)).trans x1
      refine step_valR (wanted_all rfl) (v := .bool true) (w' := w) (fun ρ hρ hc => ?_) (hK _ _ (Ext.refl _) rfl)
      simp [execOp, go_sem, hc, r0 ρ hρ, r1 ρ hρ]
    -- C end
    | n + 23, hn => exact absurd hn (by omega)
  intro o ho xs w13 hx hT b hb1 hb hbd K hK
  simp only [List.getElem?_toArray, List.getElem?_cons_zero, List.getElem?_cons_succ, Option.some.injEq] at ho
  subst ho
  have q22 : xs 22 = .bool true := hT 22 (by decide)
  have e134 := (hbd 22 134 rfl).trans q22
  refine step_valR (wanted_all rfl) (v := .bool true) (w' := w13) (fun ρ hρ hc => ?_) ?_
  · have r1 := (hρ (.tmp 134)).trans e134
    simp [execOp, r1, go_sem]
  refine hK _ _ ?_
  have HX13 := Lib.hid (HX12.out.trans hx)
  subst hb1
  clear hK K hb hbd e134 hT hx q22
  simp only [Act.put, frOf, putAll, List.setIfInBounds_toArray, List.set_cons_succ, List.set_cons_zero]
  go_wp2_with fail
  go_ret
  exact ⟨rfl, HX13.out⟩
end Go.Proofs.YtkigmpholnfkbaaGreat
