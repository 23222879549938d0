/- grade.moved -/
import Derived.Laws.MakeOwn
import Derived.RegionTactic
import Derived.Test.YtnfchkkokgmliaaKOwn
import Derived.Test.YtnfchkkokgmliaaKTail
/- grade.rounded, corner, moved -/
namespace Go.Proofs.Ytnfchkkokgmliaa
open Go.RowKit
def rnd (a b : Int) : Int := if a < 0 then -((2 * (-a) + b) / (2 * b)) else (2 * a + b) / (2 * b)
theorem rounded_pos (a b : Int) (w : World) (h0 : 0 ≤ a) (h1 : a ≤ 1000000000000000) (hb : 1 ≤ b) (hb' : b ≤ 1000) :
    Calls Try.prog 31 #[.int .i64 a, .int .i64 b] w fun e w' => e = .returned (.int .i64 ((2 * a + b) / (2 * b))) ∧ w = w' := by
  have hd : decide (a < 0) = false := by simp; omega
  have hne : (2 * b == 0) = false := by simp; omega
  go_enter Try.func31, Try.ntmps31
  go_wp2_with fail
  go_ret
  exact ⟨rfl, rfl⟩
theorem rounded_any (a b : Int) (w : World) (h0 : -1000000000000000 ≤ a) (h1 : a ≤ 1000000000000000) (hb : 1 ≤ b) (hb' : b ≤ 1000) :
    Calls Try.prog 31 #[.int .i64 a, .int .i64 b] w fun e w' => e = .returned (.int .i64 (rnd a b)) ∧ w = w' := by
  by_cases ha : a < 0
  · have hq0 : 0 ≤ (2 * (-a) + b) / (2 * b) := Int.ediv_nonneg (by omega) (by omega)
    have hq1 : (2 * (-a) + b) / (2 * b) ≤ 2 * (-a) + b := Int.ediv_le_self _ (by omega)
    go_enter Try.func31, Try.ntmps31
    go_wp2_with fail
    refine (rounded_pos (-a) b _ (by omega) (by omega) hb hb').mono ?_
    rintro e w1 ⟨rfl, rfl⟩
    go_wp2_with fail
    go_ret
    exact ⟨ret_int (by unfold rnd; rw [if_pos ha]), rfl⟩
  · exact (rounded_pos a b w (by omega) h1 hb hb').mono fun e w' ⟨he, hw⟩ => ⟨by rw [he]; exact ret_int (by unfold rnd; rw [if_neg ha]), hw⟩

def mulS (m : Int) (s : Spot) : Spot := (wrap64 (m * s.1), wrap64 (m * s.2))
set_option maxHeartbeats 800000 in
theorem corner_any (A : Option Addr) (n c i : Nat) (m : Int) (l : List Spot) (w : World) (ha : SpotsAt w A l) (hl : l.length = n) (hn : 1 ≤ n) (hn' : n ≤ 1000) (hi : i ≤ 1000) :
    Calls Try.prog 17 #[.agg #[.slice A n c, .int .i64 m], .int .i64 i] w fun e w' => e = .returned (SV (mulS m (gS l (i % n)))) ∧ Ext w w' := by
  have hm : i % n < n := Nat.mod_lt _ (by omega)
  obtain ⟨b, off, rfl, hc0, hc1⟩ := ha.g (k := i % n) (by rw [hl]; exact hm)
  clear ha hl
  have hbl : b < w.heap.size := cell_lt hc0
  have hm0 : 0 ≤ (i : Int) % n := by have : ((i : Int) % n) = ((i % n : Nat) : Int) := by simp
                                     omega
  have hm1 : (i : Int) % n < n := by have : ((i : Int) % n) = ((i % n : Nat) : Int) := by simp
                                     omega
  have hm2 : ((i : Int) % n).toNat = i % n := by have : ((i : Int) % n) = ((i % n : Nat) : Int) := by simp
                                                 omega
  have hnz : ((n : Int) == 0) = false := by simp; omega
  have hi0 : 0 ≤ (i : Int) := by omega
  go_enter Try.func17, Try.ntmps17
  go_wp2_with fail
  refine wp_at fun w0 hw0 => ?_
  have he0 : Ext w w0 := by rw [hw0]; exact ((Ext.refl _).alloc _).alloc _
  obtain ⟨c0, c1, c4, c5, f4, f5⟩ : w0.cell? ⟨w.heap.size, 0, none⟩ = some (.slice (some ⟨b, off, none⟩) n c) ∧ w0.cell? ⟨w.heap.size, 1, none⟩ = some (.int .i64 m) ∧ w0.cell? ⟨w.heap.size + 1, 0, none⟩ = some (.int .i64 0) ∧ w0.cell? ⟨w.heap.size + 1, 1, none⟩ = some (.int .i64 0) ∧ w0.frozen? ⟨w.heap.size + 1, 0, none⟩ = false ∧ w0.frozen? ⟨w.heap.size + 1, 1, none⟩ = false := by rw [hw0]; simp [go_sem]
  clear hw0
  have k2 := he0.cell hc0
  have k3 := he0.cell hc1
  have kz : w.heap.size + 1 < w0.heap.size := cell_lt c5
  have kz0 : w.heap.size < w0.heap.size := by omega
  have kb : b < w0.heap.size := cell_lt k2
  clear hc0 hc1 hbl
  go_region
  go_wp2_with fail
  refine bodyPost_ret (v := SV (mulS m (gS l (i % n)))) (by simp [results, Try.results17, go_sem, c4, c5, kz, mulS]) rfl ⟨rfl, ?_⟩
  repeat (first | exact he0 | refine Ext.drew ?_ | refine Ext.drewN ?_ _ | refine Ext.alloc ?_ _ | refine Ext.setCell ?_ (by simp <;> omega) _)

theorem corner_int (A : Option Addr) (n c : Nat) (i m : Int) (l : List Spot) (w : World) (ha : SpotsAt w A l) (hl : l.length = n) (hn : 1 ≤ n) (hn' : n ≤ 1000) (hi : 0 ≤ i) (hi' : i ≤ 1000) :
    Calls Try.prog 17 #[.agg #[.slice A n c, .int .i64 m], .int .i64 i] w fun e w' => e = .returned (SV (mulS m (gS l (i.toNat % n)))) ∧ Ext w w' := by
  obtain ⟨j, rfl⟩ := Int.eq_ofNat_of_zero_le hi
  exact corner_any A n c j m l w ha hl hn hn' (by omega)

/- moved -/
def mvx (a b v : Int) (s k : Int) : Int := wrap64 (v + rnd ((s - k) * a + k * b) s)
def mvS (l : List Spot) (a b : Spot) (k : Nat) : Spot := (mvx a.1 b.1 (gS l k).1 (l.length - 1) k, mvx a.2 b.2 (gS l k).2 (l.length - 1) k)
def movedS (l : List Spot) (a b : Spot) : List Spot := (List.range l.length).map (mvS l a b)
theorem movedS_len (l : List Spot) (a b : Spot) : (movedS l a b).length = l.length := by simp [movedS]
theorem make_spots (n : Nat) (hn : n ≤ 100000) (w : World) : (Instr.makeSlice 24 (.int .i64 n) (.int .i64 n)).run Try.prog w = .ok (.slice (some ⟨w.heap.size, 0, none⟩) n n) (w.alloc (.cells (madeCells #[.int .i64 0, .int .i64 0] (n * 2)) 38)) := by
  have h := run_make (P := Try.prog) w 24 38 (i := ((Try.prog.info? 38).getD default)) (z := .agg #[.int .i64 0, .int .i64 0]) Try.underlying24 (by kernel_rfl) (by kernel_rfl) .i64 .i64 n n (by omega) (by omega) (by
    rw [show ((Try.prog.info? 38).getD default).bytes = 16 from by kernel_rfl]; omega) (by omega)
  rw [show ((Try.prog.info? 38).getD default).size = 2 from by kernel_rfl] at h
  simpa [Value.cells] using h

/- a row of spots of the call's own, known whole -/
theorem made_two (n : Nat) : madeCells #[.int .i64 0, .int .i64 0] (n * 2) = (scells (List.replicate n (0, 0))).toArray := by
  apply Array.ext
  · simp [size_madeCells, scells_length]
  · intro i h1 h2
    have hi : i < n * 2 := by simpa [size_madeCells] using h1
    have key : (scells (List.replicate n (0, 0)))[i]? = some (.int .i64 0) := by
      obtain ⟨k, rfl | rfl⟩ : ∃ k, i = k * 2 ∨ i = k * 2 + 1 := ⟨i / 2, by omega⟩
      · rw [scells_even, List.getElem?_replicate, if_pos (by omega)]; rfl
      · rw [scells_odd, List.getElem?_replicate, if_pos (by omega)]; rfl
    have k2 := (List.getElem?_eq_some_iff.1 key).2
    have e : i % 2 = 0 ∨ i % 2 = 1 := Nat.mod_two_eq_zero_or_one i
    simp only [List.getElem_toArray, k2]
    simp only [madeCells, Array.getElem_map, Array.getElem_range]
    rcases e with e | e <;> simp [e]
end Go.Proofs.Ytnfchkkokgmliaa
namespace Go.Proofs.Ytnfchkkokgmliaa
open Go.RowKit
theorem mul_bd {x y B : Int} (h0 : 0 ≤ x) (h1 : x ≤ 39) (h2 : -B ≤ y) (h3 : y ≤ B) : -(39 * B) ≤ x * y ∧ x * y ≤ 39 * B := by
  have hB : 0 ≤ B := by omega
  constructor
  · have := Int.mul_le_mul_of_nonneg_left h2 h0
    have h4 : x * -B = -(x * B) := by rw [Int.mul_neg]
    have h5 : x * B ≤ 39 * B := Int.mul_le_mul_of_nonneg_right h1 hB
    omega
  · have := Int.mul_le_mul_of_nonneg_left h3 h0
    have h5 : x * B ≤ 39 * B := Int.mul_le_mul_of_nonneg_right h1 hB
    omega
theorem movedS_get {l : List Spot} {a b : Spot} {k : Nat} (h : k < l.length) : (movedS l a b)[k]'(by rw [movedS_len]; exact h) = mvS l a b k := by simp [movedS]
theorem filled_succ {l : List Spot} {a b : Spot} {n k : Nat} (hl : l.length = n) (h : k < n) :
    ((movedS l a b).take k ++ List.replicate (n - k) (0, 0)).set k (mvS l a b k) = (movedS l a b).take (k + 1) ++ List.replicate (n - (k + 1)) (0, 0) := by
  have hlen : ((movedS l a b).take k).length = k := by rw [List.length_take, movedS_len, hl]; omega
  rw [List.set_append, if_neg (by omega), hlen, Nat.sub_self, take_succ _ _ (by rw [movedS_len]; omega), movedS_get (by omega)]
  rw [show n - k = (n - (k + 1)) + 1 from by omega, List.replicate_succ]
  simp
set_option maxRecDepth 100000 in
set_option maxHeartbeats 1600000 in
theorem moved_any (A : Option Addr) (m c : Nat) (l : List Spot) (a b : Spot) (w : World) (hA : SpotsAt w A l) (hl : l.length = m + 1) (hm : 1 ≤ m) (hm' : m ≤ 39)
    (ha1 : -100000 ≤ a.1 ∧ a.1 ≤ 100000) (ha2 : -100000 ≤ a.2 ∧ a.2 ≤ 100000) (hb1 : -100000 ≤ b.1 ∧ b.1 ≤ 100000) (hb2 : -100000 ≤ b.2 ∧ b.2 ≤ 100000) :
    Calls Try.prog 18 #[.slice A (m + 1) c, SV a, SV b] w (RetS w (movedS l a b)) := by
  have HL := Lib.hid hl; clear hl
  have HA := Lib.hid hA; clear hA
  obtain ⟨ax, ay⟩ := a; obtain ⟨bx, b_y⟩ := b
  simp only at ha1 ha2 hb1 hb2
  obtain ⟨ha1, ha1'⟩ := ha1; obtain ⟨ha2, ha2'⟩ := ha2; obtain ⟨hb1, hb1'⟩ := hb1; obtain ⟨hb2, hb2'⟩ := hb2
  have hmk : ∀ W : World, (Instr.makeSlice 24 (.int .i64 ((m : Int) + 1)) (.int .i64 ((m : Int) + 1))).run Try.prog W = .ok (.slice (some ⟨W.heap.size, 0, none⟩) (m + 1) (m + 1)) (W.alloc (.cells (scells (List.replicate (m + 1) (0, 0))).toArray 38)) := fun W => by
    have h := make_spots (m + 1) (by omega) W
    rw [made_two] at h
    simpa using h
  go_enter Try.func18, Try.ntmps18
  obtain ⟨Z, hZ⟩ : ∃ Z, Z = (scells (List.replicate (m + 1) (0, 0))).toArray := ⟨_, rfl⟩
  rw [← hZ] at hmk
  have HZ := Lib.hid hZ; clear hZ
  go_wp2_with fail
  go_loopw [19] (fun i wr => ∃ k : Nat, k ≤ m + 1 ∧ i = .int .i64 k ∧ BlkS wr (w.heap.size + 1 + 1) ((movedS l (ax, ay) (bx, b_y)).take k ++ List.replicate (m + 1 - k) (0, 0)) ∧
      wr.cell? ⟨w.heap.size, 0, none⟩ = some (.int .i64 ax) ∧ wr.cell? ⟨w.heap.size, 1, none⟩ = some (.int .i64 ay) ∧ wr.cell? ⟨w.heap.size + 1, 0, none⟩ = some (.int .i64 bx) ∧ wr.cell? ⟨w.heap.size + 1, 1, none⟩ = some (.int .i64 b_y) ∧ Ext w wr) (fun i _ => m + 1 - (intOf i).toNat)
  case atStart =>
    refine ⟨0, Nat.zero_le _, rfl, ?_, ?_, ?_, ?_, ?_, ?_⟩
    · rw [HZ.out]
      have h := BlkS.new ((w.alloc (.cells #[.int .i64 ax, .int .i64 ay] 38)).alloc (.cells #[.int .i64 bx, .int .i64 b_y] 38)) (List.replicate (m + 1) (0, 0))
      simpa using h
    · simp [go_sem]
    · simp [go_sem]
    · simp [go_sem]
    · simp [go_sem]
    · exact (((Ext.refl w).alloc _).alloc _).alloc _
  case round =>
    obtain ⟨k, hk, rfl, hB, a0, a1, a2, a3, hx⟩ := hrel
    have HB := Lib.hid hB; clear hB
    have hsz : w.heap.size + 1 + 1 < wr.heap.size := HB.out.lt
    have hsz1 : w.heap.size + 1 < wr.heap.size := by omega
    have hsz0 : w.heap.size < wr.heap.size := by omega
    by_cases hlt : k < m + 1
    · have hkl : k < l.length := by rw [HL.out]; exact hlt
      obtain ⟨b, off, rfl, hc0, hc1⟩ := (HA.out.ext hx).g hkl
      have hlt' : (k : Int) < (m : Int) + 1 := by omega
      obtain ⟨p0, p0'⟩ := mul_bd (x := (m : Int) - k) (y := ax) (B := 100000) (by omega) (by omega) ha1 ha1'
      obtain ⟨p1, p1'⟩ := mul_bd (x := (k : Int)) (y := bx) (B := 100000) (by omega) (by omega) hb1 hb1'
      obtain ⟨p2, p2'⟩ := mul_bd (x := (m : Int) - k) (y := ay) (B := 100000) (by omega) (by omega) ha2 ha2'
      obtain ⟨p3, p3'⟩ := mul_bd (x := (k : Int)) (y := b_y) (B := 100000) (by omega) (by omega) hb2 hb2'
      simp only [Int.reduceMul, Int.reduceNeg] at p0 p0' p1 p1' p2 p2' p3 p3'
      go_wp2_with fail
      refine wp_at fun w0 hw0 => ?_
      have he0 : Ext wr w0 := by rw [hw0]; exact (Ext.refl _).alloc _
      have v0 : w0.cell? ⟨wr.heap.size, 0, none⟩ = some (.int .i64 (gS l k).1) := by rw [hw0]; simp [go_sem]
      have v1 : w0.cell? ⟨wr.heap.size, 1, none⟩ = some (.int .i64 (gS l k).2) := by rw [hw0]; simp [go_sem]
      clear hw0 hc0 hc1
      have d0 := fun z : After w0 => After.cell v0 z
      have d1 := fun z : After w0 => After.cell v1 z
      have d2 := fun z : After w0 => After.cell (he0.cell a0) z
      have d3 := fun z : After w0 => After.cell (he0.cell a1) z
      have d4 := fun z : After w0 => After.cell (he0.cell a2) z
      have d5 := fun z : After w0 => After.cell (he0.cell a3) z
      refine region_tail 36 (by kernel_rfl) (by kernel_rfl) ?_
      simp only [List.take_succ_cons, List.take_zero, List.drop_succ_cons, List.drop_zero]
      repeat (go_big_quiet_step ((go_at_call 31; exact after_same (rounded_any _ _ _ (by omega) (by omega) (by omega) (by omega)))))
      refine wpQuiet_nil ?_
      rintro w1 ⟨⟨_, he⟩, rfl⟩
      clear d0 d1 d2 d3 d4 d5
      have HB1 := Lib.hid ((HB.out.ext he0).ext he)
      have hlen : ((movedS l (ax, ay) (bx, b_y)).take k ++ List.replicate (m + 1 - k) (0, 0)).length = m + 1 := by
        rw [List.length_append, List.length_take, movedS_len, HL.out, List.length_replicate]; omega
      obtain ⟨t0, t1⟩ := HB1.out.at (k := k) (by rw [hlen]; exact hlt)
      have tf0 := HB1.out.frozen (k * 2)
      have tf1 := HB1.out.frozen (k * 2 + 1)
      have b0 := (he0.trans he).cell a0
      have b1 := (he0.trans he).cell a1
      have b2 := (he0.trans he).cell a2
      have b3 := (he0.trans he).cell a3
      have HLN := Lib.hid hlen; clear hlen
      clear a0 a1 a2 a3 v0 v1 p0 p0' p1 p1' p2 p2' p3 p3'
      go_wp2_with fail
      go_roundw
      case rel =>
        refine ⟨k + 1, by omega, by go_num, ?_, ?_, ?_, ?_, ?_, ?_⟩
        · have h := HB1.out.set k (mvS l (ax, ay) (bx, b_y) k)
          rw [filled_succ HL.out hlt] at h
          have e1 : (mvS l (ax, ay) (bx, b_y) k).1 = wrap64 ((gS l k).1 + rnd (((m : Int) - k) * ax + k * bx) m) := by
            unfold mvS mvx; rw [HL.out]; simp
          have e2 : (mvS l (ax, ay) (bx, b_y) k).2 = wrap64 ((gS l k).2 + rnd (((m : Int) - k) * ay + k * b_y) m) := by
            unfold mvS mvx; rw [HL.out]; simp
          rw [e1, e2] at h
          exact h
        · rw [World.cell?_setCell_other _ _ _ _ (fun e => by injection e with e; omega), World.cell?_setCell_other _ _ _ _ (fun e => by injection e with e; omega)]; exact b0
        · rw [World.cell?_setCell_other _ _ _ _ (fun e => by injection e with e; omega), World.cell?_setCell_other _ _ _ _ (fun e => by injection e with e; omega)]; exact b1
        · rw [World.cell?_setCell_other _ _ _ _ (fun e => by injection e with e; omega), World.cell?_setCell_other _ _ _ _ (fun e => by injection e with e; omega)]; exact b2
        · rw [World.cell?_setCell_other _ _ _ _ (fun e => by injection e with e; omega), World.cell?_setCell_other _ _ _ _ (fun e => by injection e with e; omega)]; exact b3
        · exact (((hx.trans he0).trans he).setCell (by simp; omega) _).setCell (by simp; omega) _
      case measure => simp [intOf]; omega
    · go_wp2_with fail
      go_ret
      refine ⟨_, rfl, ?_, hx⟩
      obtain rfl : k = m + 1 := by omega
      have h := HB.out
      rw [List.take_of_length_le (by rw [movedS_len, HL.out]; omega), Nat.sub_self, List.replicate_zero, List.append_nil] at h
      have h2 := h.own (base := w.heap.size) (by omega) (by rw [movedS_len, HL.out]; omega)
      rw [movedS_len, HL.out] at h2
      exact h2
end Go.Proofs.Ytnfchkkokgmliaa
