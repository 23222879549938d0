/- garmentlaw22.pair, alive -/
import Derived.Test.YtilkgocpkhionaaKSq22
import Derived.Test.YtilkgocpkhionaaKUnfit
import Derived.Test.YtilkgocpkhionaaKPart
import Derived.Test.YtilkgocpkhionaaKCong
/- garmentref21: SameInts, Light -/
namespace Go.Proofs.Ytilkgocpkhionaa
open Go.RowKit
set_option maxHeartbeats 800000 in
theorem sameInts_eq (A B : Option Addr) (n c d : Nat) (l : List Int) (w : World) (ha : IntsAt w A l) (hb : IntsAt w B l) (hl : l.length = n) (hn : n ≤ 1000000) :
    Calls Try.prog 18 #[.slice A n c, .slice B n d] w fun e w' => e = .returned (.bool true) ∧ Ext w w' := by
  have HL := Lib.hid hl; clear hl
  have HA := Lib.hid ha; clear ha
  have HB := Lib.hid hb; clear hb
  go_enter Try.func18, Try.ntmps18
  go_wp2
  go_loopw [5] (fun i wr => ∃ k : Nat, k ≤ n ∧ i = .int .i64 k ∧ ∃ q, wr = w.drewN q) (fun i _ => n - (intOf i).toNat)
  case atStart => exact ⟨0, Nat.zero_le _, rfl, 0, rfl⟩
  case round =>
    obtain ⟨k, hk, rfl, q, rfl⟩ := hrel
    by_cases hlt : k < n
    · have hkl : k < l.length := by rw [HL.out]; exact hlt
      obtain ⟨b, off, rfl, hc0⟩ := HA.out.g hkl
      obtain ⟨b', off', rfl, hd0⟩ := HB.out.g hkl
      go_wp2
      go_quiet (fail)
      go_wp2
      go_roundw
      case rel => exact ⟨k + 1, by omega, by go_num, _, rfl⟩
      case measure => simp [intOf]; omega
    · go_wp2
      go_ret
      exact ⟨rfl, Ext.drewN (Ext.refl _) _⟩
/- Light: what it means that it answers true -/
def RetL (w : World) (es : List Edge) (nC nN nW most : Nat) (e : Ending) (w' : World) : Prop :=
  ∃ b, e = .returned (.bool b) ∧ Ext w w' ∧ (b = true → es.length ≤ 20 ∧ nC ≤ 20 ∧ nW ≤ 20 ∧ nN ≤ 20 ∧ ∀ k, k < es.length → (gE es k).2.length ≤ most ∧ (gE es k).1.size ≤ 100)
def sumL (es : List Edge) : Nat → Nat
  | 0 => 0
  | k + 1 => sumL es k + (gE es k).2.length
theorem light_all {es : List Edge} {n most : Nat} (h : ∀ j, j < n → (gE es j).2.length ≤ most) (hn : n ≤ 20) : sumL es n ≤ n * most := by
  induction n with
  | zero => simp [sumL]
  | succ n ih =>
    have := ih (fun j hj => h j (by omega)) (by omega)
    have := h n (by omega)
    simp only [sumL]; rw [Nat.add_mul]; omega
set_option maxRecDepth 100000 in
set_option maxHeartbeats 3200000 in
theorem light_any (nm : ByteArray) (AE AN AC AW : Option Addr) (nE cE nN cN nC cC nW cW : Nat) (gr : Int) (mt : Bool) (es : List Edge) (w : World) (most : Nat) (hm : most ≤ 1000)
    (hE : EdgesAt w AE es) (hlE : es.length = nE) :
    Calls Try.prog 19 #[.agg #[.string nm, .slice AE nE cE, .int .i64 gr, .slice AN nN cN, .slice AC nC cC, .slice AW nW cW, .bool mt], .int .i64 (most : Int)] w (RetL w es nC nN nW most) := by
  have HLE := Lib.hid hlE; clear hlE
  have HE := Lib.hid hE; clear hE
  by_cases h1 : 20 < nE
  · go_enter Try.func19, Try.ntmps19
    go_wp2_with fail
    go_ret
    exact ⟨_, rfl, (Ext.refl _).alloc _, fun h => by cases h⟩
  by_cases h2 : 20 < nC
  · go_enter Try.func19, Try.ntmps19
    go_wp2_with fail
    go_ret
    exact ⟨_, rfl, (Ext.refl _).alloc _, fun h => by cases h⟩
  by_cases h3 : 20 < nW
  · go_enter Try.func19, Try.ntmps19
    go_wp2_with fail
    go_ret
    exact ⟨_, rfl, (Ext.refl _).alloc _, fun h => by cases h⟩
  by_cases h4 : 20 < nN
  · go_enter Try.func19, Try.ntmps19
    go_wp2_with fail
    go_ret
    exact ⟨_, rfl, (Ext.refl _).alloc _, fun h => by cases h⟩
  go_enter Try.func19, Try.ntmps19
  go_wp2_with fail
  refine wp_at fun W0 hW0 => ?_
  have hx0 : Ext w W0 := by rw [hW0]; exact (Ext.refl _).alloc _
  have b1 : W0.cell? ⟨w.heap.size, 1, none⟩ = some (.slice AE nE cE) := by rw [hW0]; simp [go_sem]
  have HX0 := Lib.hid hx0; clear hW0 hx0
  go_loopw [5, 6] (fun s i wr => ∃ k : Nat, k ≤ nE ∧ i = .int .i64 k ∧ s = .int .i64 (sumL es k) ∧ (∀ j, j < k → (gE es j).2.length ≤ most ∧ (gE es j).1.size ≤ 100) ∧ wr = W0) (fun _ i _ => nE - (intOf i).toNat)
  case atStart => exact ⟨0, Nat.zero_le _, rfl, rfl, fun j hj => absurd hj (Nat.not_lt_zero _), rfl⟩
  case round =>
    obtain ⟨k, hk, rfl, rfl, hall, rfl⟩ := hrel
    have hsum := light_all (es := es) (n := k) (most := most) (fun j hj => (hall j hj).1) (by omega)
    have hsum' : sumL es k ≤ 20000 := Nat.le_trans hsum (by have := Nat.mul_le_mul (show k ≤ 20 by omega) hm; omega)
    have HALL := Lib.hid hall; clear hall hsum
    obtain ⟨S, hS⟩ : ∃ S, S = sumL es k := ⟨_, rfl⟩
    rw [← hS] at hsum' ⊢
    have HSS := Lib.hid hS; clear hS
    by_cases hlt : k < nE
    · have hkl : k < es.length := by rw [HLE.out]; exact hlt
      obtain ⟨b, off, L, cL, rfl, hc0, hc1, hS, hcL, hcL'⟩ := (HE.out.ext HX0.out).g hkl
      obtain ⟨sz, hsz⟩ : ∃ sz, sz = (gE es k).2.length := ⟨_, rfl⟩
      obtain ⟨nn, hnn⟩ : ∃ nn, nn = (gE es k).1 := ⟨_, rfl⟩
      rw [← hsz] at hc1 hcL
      rw [← hnn] at hc0
      have HSZ := Lib.hid hsz; have HNN := Lib.hid hnn; clear hsz hnn hS
      by_cases g1 : most < sz
      · go_wp2_with fail
        go_ret
        exact ⟨_, rfl, HX0.out, fun h => by cases h⟩
      by_cases g2 : 100 < nn.size
      · go_wp2_with fail
        go_ret
        exact ⟨_, rfl, HX0.out, fun h => by cases h⟩
      go_wp2_with fail
      go_roundw
      case rel =>
        refine ⟨k + 1, by omega, by go_num, ?_, fun j hj => ?_, trivial⟩
        · simp only [sumL, ← HSS.out, ← HSZ.out]; go_num
        · rcases Nat.lt_succ_iff_lt_or_eq.1 hj with h | h
          · exact HALL.out j h
          · subst h; rw [← HSZ.out, ← HNN.out]; omega
      case measure => simp [intOf]; omega
    · obtain rfl : k = nE := by omega
      go_wp2_with fail
      go_ret
      refine ⟨_, rfl, HX0.out, fun _ => ⟨by rw [HLE.out]; omega, by omega, by omega, by omega, fun j hj => HALL.out j (by rw [HLE.out] at hj; exact hj)⟩⟩
end Go.Proofs.Ytilkgocpkhionaa
namespace Go.Proofs.Ytilkgocpkhionaa
open Go.RowKit
def pairS : Sty := ⟨[0, 3], [sqP], [⟨0, 0, 0, 1, false, 2999⟩]⟩
def RetSt (w : World) (s : Sty) (e : Ending) (w' : World) : Prop := ∃ a, e = .returned (StyA.val a) ∧ StyAt w' a s ∧ a.nK ≤ 1000 ∧ Ext w w'
theorem pair_len1 : lensV pairS 1 0 = (13000, 10000, 0) := by decide +kernel
theorem pair_unf1 : unfE pairS 1 = 0 := by decide +kernel
theorem pair_unf1L : unfL pairS 1 = [0] := by decide +kernel
theorem pair_unf0 : unfE pairS 0 = 0 := by decide +kernel
theorem pair_unf0L : unfL pairS 0 = [] := by decide +kernel
theorem pair_part : partV 10 25 true 3 = 17 ∧ partE 10 25 3 = 0 := by decide +kernel
theorem pair_cong : cgN [(0, 0), (2, 0)] [(5, 5), (5, 7)] = 1 ∧ cgD [(0, 0), (2, 0)] [(5, 5), (5, 7)] 1 = (5, 5) := by decide +kernel
theorem pair_fin {w w1 W5 : World} {a : PcA} (hk : Kept (fun k => k = w.heap.size) w1 W5) (hsz : W5.heap.size = w1.heap.size)
    (ha : ∀ W, Kept (fun k => k < w.heap.size + 1 + 1 + 1) w1 W → PcAt W a sqP) (hM : Blk 3 w1 (w.heap.size + 1 + 1) (icells [0, 3])) (S : Option Addr) (nS cS : Nat) :
    StyAt ((W5.alloc (.cells a.cells.toArray 59)).alloc (.cells #[.int .i64 0, .int .i64 0, .int .i64 0, .int .i64 1, .bool false, .int .i64 2999] 51)) ⟨⟨#[]⟩, S, nS, cS, some ⟨w.heap.size + 1 + 1, 0, none⟩, 2, 2, some ⟨w1.heap.size, 0, none⟩, 1, 1, none, 0, 0, some ⟨w1.heap.size + 1, 0, none⟩, 1, 1, none, 0, 0⟩ pairS := by
  have hl := hM.lt
  have hx : Ext W5 ((W5.alloc (.cells a.cells.toArray 59)).alloc (.cells #[.int .i64 0, .int .i64 0, .int .i64 0, .int .i64 1, .bool false, .int .i64 2999] 51)) := ((Ext.refl _).alloc _).alloc _
  have hM' := (hk.blk hM (by omega)).ext hx
  have hP := (Blk.new' (cs := a.cells) (t := 59) (w := W5) (g := w1.heap.size) hsz.symm).ext ((Ext.refl _).alloc (.cells #[.int .i64 0, .int .i64 0, .int .i64 0, .int .i64 1, .bool false, .int .i64 2999] 51))
  have hK := Blk.new' (cs := [.int .i64 0, .int .i64 0, .int .i64 0, .int .i64 1, .bool false, .int .i64 2999]) (t := 51) (w := W5.alloc (.cells a.cells.toArray 59)) (g := w1.heap.size + 1) (by simp [hsz])
  have hpc := ha _ ((hk.mono (fun k _ h => by omega)).trans (hx.kept _))
  refine ⟨(OwnI.plain (own_of_int (base := 0) (L := [0, 3]) hM' (Nat.zero_le _) (by decide))).2.1, fun k hk' => ?_, fun k hk' => ?_, rfl, rfl, rfl, by simp only; omega, by simp only; omega, by simp only; omega⟩
  · match k, hk' with
    | 0, _ => exact ⟨w1.heap.size, 0, a, rfl, hpc, hP.cell 0, hP.cell 1, hP.cell 2, hP.cell 3, hP.cell 4, hP.cell 5, hP.cell 6⟩
  · match k, hk' with
    | 0, _ => exact ⟨w1.heap.size + 1, 0, rfl, hK.cell 0, hK.cell 1, hK.cell 2, hK.cell 3, hK.cell 4, hK.cell 5⟩
set_option maxRecDepth 100000 in
set_option maxHeartbeats 1600000 in
theorem pair_any (w : World) : Calls Try.prog 27 #[] w (RetSt w pairS) := by
  go_enter Try.func27, Try.ntmps27
  go_wp2_with fail
  refine (sq22_any _).mono ?_
  rintro e w1 ⟨a, rfl, ha, he⟩
  have HR1 : Hid (Blk 46 w1 w.heap.size [.string ⟨#[]⟩, .slice none 0 0, .slice none 0 0, .slice none 0 0, .slice none 0 0, .slice none 0 0, .slice none 0 0]) := (((Blk.new' rfl).ext ((Ext.refl _).alloc _)).ext ((Ext.refl _).alloc _)).ext he
  have HM1 : Hid (Blk 3 w1 (w.heap.size + 1 + 1) (icells [0, 3])) := (Blk.new' (by simp)).ext he
  have HX1 : Hid (Ext w w1) := ((((Ext.refl w).alloc _).alloc _).alloc _).trans he
  have HA := Lib.hid ha; clear ha he
  simp only [Array.size_push, World.alloc] at HA
  have HFN := Lib.hid (fun W5 hk hsz => pair_fin (w := w) (w1 := w1) (W5 := W5) (a := a) hk hsz HA.out HM1.out (some ⟨w.heap.size + 1, 0, none⟩) 2 2)
  obtain ⟨nm, AE, nE, cE, gr, AN, nN, cN, AC, nC, cC, AW, nW, cW, mt⟩ := a
  simp only [PcA.val]
  simp only [PcA.cells] at HFN
  clear HA HM1
  obtain ⟨r0, r1, r2, r3, r4, r5, r6⟩ := blk7 HR1.out
  have f0 := HR1.out.frozen 0
  have f1 := HR1.out.frozen 1
  have f2 := HR1.out.frozen 2
  have f3 := HR1.out.frozen 3
  have f4 := HR1.out.frozen 4
  have f5 := HR1.out.frozen 5
  have f6 := HR1.out.frozen 6
  have hlt : w.heap.size < w1.heap.size := HR1.out.lt
  go_wp2_with fail
  refine bodyPost_ret (v := .agg #[.string ⟨#[]⟩, .slice (some ⟨w.heap.size + 1, 0, none⟩) 2 2, .slice (some ⟨w.heap.size + 1 + 1, 0, none⟩) 2 2, .slice (some ⟨w1.heap.size, 0, none⟩) 1 1, .slice none 0 0, .slice (some ⟨w1.heap.size + 1, 0, none⟩) 1 1, .slice none 0 0]) (by simp [results, Try.results27, go_sem, r0, r1, r2, r3, r4, r5, r6, hlt]) rfl ?_
  refine ⟨_, rfl, HFN.out _ (kset (kset (kset (kset (kset (kset (kset (Kept.refl _ _) _ _) _ _) _ _) _ _) _ _) _ _) _ _) (by simp [World.setCell]), Nat.le_of_ble_eq_true rfl, ?_⟩
  exact (((kset (kset (kset (kset (kset (kset (kset (Kept.refl (fun k => k = w.heap.size) w1) _ _) _ _) _ _) _ _) _ _) _ _) _ _).ext HX1.out (fun k hk => by omega)).alloc _).alloc _
set_option maxRecDepth 100000 in
set_option maxHeartbeats 1600000 in
theorem alive_any (w : World) : Calls Try.prog 12 #[] w fun e w' => e = .returned (.bool true) ∧ Ext w w' := by
  go_enter Try.func12, Try.ntmps12
  go_wp2_with fail
  refine (pair_any _).mono ?_
  rintro e w1 ⟨a, rfl, ha, hn, he1⟩
  go_wp2_with fail
  refine (lengths_any a pairS 1 0 _ ha).mono ?_
  rintro e w2 ⟨rfl, he2⟩
  rw [pair_len1]
  simp only [LenV]
  have HX2 := Lib.hid (he1.trans he2); clear he1 he2 ha hn
  go_wp2_with fail
  refine (pair_any _).mono ?_
  rintro e w3 ⟨b, rfl, hb, hn, he3⟩
  go_wp2_with fail
  refine (unfit_any b pairS 1 _ hb hn).mono ?_
  rintro e w4 ⟨v4, rfl, hv4, _, he4⟩
  have ho4 := hv4 pair_unf1
  rw [pair_unf1L] at ho4
  rw [pair_unf1]
  obtain ⟨A4, c4, hvf, hI4, _⟩ := OwnI.slice' (n := 1) ho4 rfl
  subst hvf
  have HI4 := Lib.hid hI4
  have HX4 := Lib.hid ((HX2.out.trans he3).trans he4); clear he3 he4 hb hn hv4 ho4 hI4
  go_wp2_with fail
  refine (pair_any _).mono ?_
  rintro e w5 ⟨c, rfl, hc, hn, he5⟩
  go_wp2_with fail
  refine (unfit_any c pairS 0 _ hc hn).mono ?_
  rintro e w6 ⟨v6, rfl, hv6, _, he6⟩
  have ho6 := hv6 pair_unf0
  rw [pair_unf0L] at ho6
  rw [pair_unf0]
  obtain ⟨A6, c6, hvf, hI6, _⟩ := OwnI.slice' (n := 0) ho6 rfl
  subst hvf
  have HX46 := Lib.hid (he5.trans he6)
  clear he5 he6 hc hn hv6 ho6 hI6
  go_wp2_with fail
  refine (partner_any 10 25 3 true _).mono ?_
  rintro e w7 ⟨rfl, he7⟩
  rw [pair_part.1, pair_part.2]
  have HX47 := Lib.hid (HX46.out.trans he7)
  clear he7
  go_wp2_with fail
  have hS1 : SpotsAt ((w7.alloc (.cells #[.int .i64 0, .int .i64 0, .int .i64 2, .int .i64 0] 33)).alloc (.cells #[.int .i64 5, .int .i64 5, .int .i64 5, .int .i64 7] 33)) (some ⟨w7.heap.size, 0, none⟩) [(0, 0), (2, 0)] :=
    (OwnT.plain (own_of_blk (t := 33) (base := 0) (L := [(0, 0), (2, 0)]) ((Blk.new' rfl).ext ((Ext.refl _).alloc _)) (Nat.zero_le _) (by decide))).2
  have hS2 : SpotsAt ((w7.alloc (.cells #[.int .i64 0, .int .i64 0, .int .i64 2, .int .i64 0] 33)).alloc (.cells #[.int .i64 5, .int .i64 5, .int .i64 5, .int .i64 7] 33)) (some ⟨w7.heap.size + 1, 0, none⟩) [(5, 5), (5, 7)] :=
    (OwnT.plain (own_of_blk (t := 33) (base := 0) (L := [(5, 5), (5, 7)]) (Blk.new' (by simp)) (Nat.zero_le _) (by decide))).2
  refine (congruent_any _ _ 2 2 2 2 [(0, 0), (2, 0)] [(5, 5), (5, 7)] _ hS1 hS2 rfl rfl (by omega)).mono ?_
  rintro e w8 ⟨rfl, he8⟩
  rw [if_pos ⟨rfl, by decide, by rw [pair_cong.1]; decide⟩, pair_cong.1, pair_cong.2, show cgF 1 = false from rfl, show cgQ 1 = 1 from rfl]
  have HX48 := Lib.hid (HX47.out.trans ((((Ext.refl _).alloc _).alloc _).trans he8))
  clear he8 hS1 hS2
  go_wp2_with fail
  have HX9 : Hid (Ext w8 (((w8.alloc (.cells #[.bool false, .int .i64 1] 31)).alloc (.cells #[.int .i64 5, .int .i64 5] 33)).alloc (.cells #[.int .i64 0] 3))) := (((Ext.refl _).alloc _).alloc _).alloc _
  refine (sameInts_eq A4 _ 1 c4 1 [0] _ (HI4.out.ext (HX48.out.trans HX9.out)) (OwnI.plain (own_of_int (base := 0) (L := [0]) (Blk.new' (by simp)) (Nat.zero_le _) (by decide))).2.1 rfl (by omega)).mono ?_
  rintro e w9 ⟨rfl, he9⟩
  have HT : Hid (Blk 31 w9 w8.heap.size [.bool false, .int .i64 1]) := (((Blk.new' rfl).ext ((Ext.refl _).alloc _)).ext ((Ext.refl _).alloc _)).ext he9
  have HD : Hid (Blk 33 w9 (w8.heap.size + 1) [.int .i64 5, .int .i64 5]) := ((Blk.new' (by simp)).ext ((Ext.refl _).alloc _)).ext he9
  obtain ⟨t0, t1⟩ := blk2 HT.out
  obtain ⟨d0, d1⟩ := blk2 HD.out
  have HXf := Lib.hid (HX4.out.trans ((HX48.out.trans HX9.out).trans he9))
  clear he9
  go_wp2_with fail
  go_ret
  exact ⟨rfl, HXf.out⟩
end Go.Proofs.Ytilkgocpkhionaa
