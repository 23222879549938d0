/- grade.moved -/
import Derived.Test.YtdmamobkgdpefaaGreatKMov
namespace Go.Proofs.YtdmamobkgdpefaaGreat
open Go.RowKit
theorem mul_bd {x y B : Int} (h0 : 0 ≤ x) (h1 : x ≤ 39) (h2 : -B ≤ y) (h3 : y ≤ B) : -(39 * B) ≤ x * y ∧ x * y ≤ 39 * B := by
  have hB : 0 ≤ B := by omega
  constructor
  · have := Int.mul_le_mul_of_nonneg_left h2 h0
    have h4 : x * -B = -(x * B) := by rw [Int.mul_neg]
    have h5 : x * B ≤ 39 * B := Int.mul_le_mul_of_nonneg_right h1 hB
    omega
  · have := Int.mul_le_mul_of_nonneg_left h3 h0
    have h5 : x * B ≤ 39 * B := Int.mul_le_mul_of_nonneg_right h1 hB
    omega
theorem movedS_get {l : List Spot} {a b : Spot} {k : Nat} (h : k < l.length) : (movedS l a b)[k]'(by rw [movedS_len]; exact h) = mvS l a b k := by simp [movedS]
theorem filled_succ {l : List Spot} {a b : Spot} {n k : Nat} (hl : l.length = n) (h : k < n) :
    ((movedS l a b).take k ++ List.replicate (n - k) (0, 0)).set k (mvS l a b k) = (movedS l a b).take (k + 1) ++ List.replicate (n - (k + 1)) (0, 0) := by
  have hlen : ((movedS l a b).take k).length = k := by rw [List.length_take, movedS_len, hl]; omega
  rw [List.set_append, if_neg (by omega), hlen, Nat.sub_self, take_succ _ _ (by rw [movedS_len]; omega), movedS_get (by omega)]
  rw [show n - k = (n - (k + 1)) + 1 from by omega, List.replicate_succ]
  simp
set_option maxRecDepth 100000 in
set_option maxHeartbeats 1600000 in
theorem moved_any (A : Option Addr) (m c : Nat) (l : List Spot) (a b : Spot) (w : World) (hA : SpotsAt w A l) (hl : l.length = m + 1) (hm : 1 ≤ m) (hm' : m ≤ 39)
    (ha1 : -100000 ≤ a.1 ∧ a.1 ≤ 100000) (ha2 : -100000 ≤ a.2 ∧ a.2 ≤ 100000) (hb1 : -100000 ≤ b.1 ∧ b.1 ≤ 100000) (hb2 : -100000 ≤ b.2 ∧ b.2 ≤ 100000) :
    Calls Tryz.prog 27 #[.slice A (m + 1) c, SV a, SV b] w (RetS w (movedS l a b)) := by
  have HL := Lib.hid hl; clear hl
  have HA := Lib.hid hA; clear hA
  obtain ⟨ax, ay⟩ := a; obtain ⟨bx, b_y⟩ := b
  simp only at ha1 ha2 hb1 hb2
  obtain ⟨ha1, ha1'⟩ := ha1; obtain ⟨ha2, ha2'⟩ := ha2; obtain ⟨hb1, hb1'⟩ := hb1; obtain ⟨hb2, hb2'⟩ := hb2
  have hmk : ∀ W : World, (Instr.makeSlice 24 (.int .i64 ((m : Int) + 1)) (.int .i64 ((m : Int) + 1))).run Tryz.prog W = .ok (.slice (some ⟨W.heap.size, 0, none⟩) (m + 1) (m + 1)) (W.alloc (.cells (scells (List.replicate (m + 1) (0, 0))).toArray 59)) := fun W => by
    have h := make_spots (m + 1) (by omega) W
    rw [made_two] at h
    simpa using h
  go_enter Tryz.func27, Tryz.ntmps27
  obtain ⟨Z, hZ⟩ : ∃ Z, Z = (scells (List.replicate (m + 1) (0, 0))).toArray := ⟨_, rfl⟩
  rw [← hZ] at hmk
  have HZ := Lib.hid hZ; clear hZ
  go_wp2_with fail
  go_loopw [19] (fun i wr => ∃ k : Nat, k ≤ m + 1 ∧ i = .int .i64 k ∧ BlkS wr (w.heap.size + 1 + 1) ((movedS l (ax, ay) (bx, b_y)).take k ++ List.replicate (m + 1 - k) (0, 0)) ∧
      wr.cell? ⟨w.heap.size, 0, none⟩ = some (.int .i64 ax) ∧ wr.cell? ⟨w.heap.size, 1, none⟩ = some (.int .i64 ay) ∧ wr.cell? ⟨w.heap.size + 1, 0, none⟩ = some (.int .i64 bx) ∧ wr.cell? ⟨w.heap.size + 1, 1, none⟩ = some (.int .i64 b_y) ∧ Ext w wr) (fun i _ => m + 1 - (intOf i).toNat)
  case atStart =>
    refine ⟨0, Nat.zero_le _, rfl, ?_, ?_, ?_, ?_, ?_, ?_⟩
    · rw [HZ.out]
      have h := BlkS.new ((w.alloc (.cells #[.int .i64 ax, .int .i64 ay] 59)).alloc (.cells #[.int .i64 bx, .int .i64 b_y] 59)) (List.replicate (m + 1) (0, 0))
      simpa using h
    · simp [go_sem]
    · simp [go_sem]
    · simp [go_sem]
    · simp [go_sem]
    · exact (((Ext.refl w).alloc _).alloc _).alloc _
  case round =>
    obtain ⟨k, hk, rfl, hB, a0, a1, a2, a3, hx⟩ := hrel
    have HB := Lib.hid hB; clear hB
    have hsz : w.heap.size + 1 + 1 < wr.heap.size := HB.out.lt
    have hsz1 : w.heap.size + 1 < wr.heap.size := by omega
    have hsz0 : w.heap.size < wr.heap.size := by omega
    by_cases hlt : k < m + 1
    · have hkl : k < l.length := by rw [HL.out]; exact hlt
      obtain ⟨b, off, rfl, hc0, hc1⟩ := (HA.out.ext hx).g hkl
      have hlt' : (k : Int) < (m : Int) + 1 := by omega
      obtain ⟨p0, p0'⟩ := mul_bd (x := (m : Int) - k) (y := ax) (B := 100000) (by omega) (by omega) ha1 ha1'
      obtain ⟨p1, p1'⟩ := mul_bd (x := (k : Int)) (y := bx) (B := 100000) (by omega) (by omega) hb1 hb1'
      obtain ⟨p2, p2'⟩ := mul_bd (x := (m : Int) - k) (y := ay) (B := 100000) (by omega) (by omega) ha2 ha2'
      obtain ⟨p3, p3'⟩ := mul_bd (x := (k : Int)) (y := b_y) (B := 100000) (by omega) (by omega) hb2 hb2'
      simp only [Int.reduceMul, Int.reduceNeg] at p0 p0' p1 p1' p2 p2' p3 p3'
      go_wp2_with fail
      refine wp_at fun w0 hw0 => ?_
      have he0 : Ext wr w0 := by rw [hw0]; exact (Ext.refl _).alloc _
      have v0 : w0.cell? ⟨wr.heap.size, 0, none⟩ = some (.int .i64 (gS l k).1) := by rw [hw0]; simp [go_sem]
      have v1 : w0.cell? ⟨wr.heap.size, 1, none⟩ = some (.int .i64 (gS l k).2) := by rw [hw0]; simp [go_sem]
      clear hw0 hc0 hc1
      have d0 := fun z : After w0 => After.cell v0 z
      have d1 := fun z : After w0 => After.cell v1 z
      have d2 := fun z : After w0 => After.cell (he0.cell a0) z
      have d3 := fun z : After w0 => After.cell (he0.cell a1) z
      have d4 := fun z : After w0 => After.cell (he0.cell a2) z
      have d5 := fun z : After w0 => After.cell (he0.cell a3) z
      refine region_tail 36 (by kernel_rfl) (by kernel_rfl) ?_
      simp only [List.take_succ_cons, List.take_zero, List.drop_succ_cons, List.drop_zero]
      repeat (go_big_quiet_step ((go_at_call 53; exact after_same (rounded_any _ _ _ (by omega) (by omega) (by omega) (by omega)))))
      refine wpQuiet_nil ?_
      rintro w1 ⟨⟨_, he⟩, rfl⟩
      clear d0 d1 d2 d3 d4 d5
      have HB1 := Lib.hid ((HB.out.ext he0).ext he)
      have hlen : ((movedS l (ax, ay) (bx, b_y)).take k ++ List.replicate (m + 1 - k) (0, 0)).length = m + 1 := by
        rw [List.length_append, List.length_take, movedS_len, HL.out, List.length_replicate]; omega
      obtain ⟨t0, t1⟩ := HB1.out.at (k := k) (by rw [hlen]; exact hlt)
      have tf0 := HB1.out.frozen (k * 2)
      have tf1 := HB1.out.frozen (k * 2 + 1)
      have b0 := (he0.trans he).cell a0
      have b1 := (he0.trans he).cell a1
      have b2 := (he0.trans he).cell a2
      have b3 := (he0.trans he).cell a3
      have HLN := Lib.hid hlen; clear hlen
      clear a0 a1 a2 a3 v0 v1 p0 p0' p1 p1' p2 p2' p3 p3'
      go_wp2_with fail
      go_roundw
      case rel =>
        refine ⟨k + 1, by omega, by go_num, ?_, ?_, ?_, ?_, ?_, ?_⟩
        · have h := HB1.out.set k (mvS l (ax, ay) (bx, b_y) k)
          rw [filled_succ HL.out hlt] at h
          have e1 : (mvS l (ax, ay) (bx, b_y) k).1 = wrap64 ((gS l k).1 + rnd (((m : Int) - k) * ax + k * bx) m) := by
            unfold mvS mvx; rw [HL.out]; simp
          have e2 : (mvS l (ax, ay) (bx, b_y) k).2 = wrap64 ((gS l k).2 + rnd (((m : Int) - k) * ay + k * b_y) m) := by
            unfold mvS mvx; rw [HL.out]; simp
          rw [e1, e2] at h
          exact h
        · rw [World.cell?_setCell_other _ _ _ _ (fun e => by injection e with e; omega), World.cell?_setCell_other _ _ _ _ (fun e => by injection e with e; omega)]; exact b0
        · rw [World.cell?_setCell_other _ _ _ _ (fun e => by injection e with e; omega), World.cell?_setCell_other _ _ _ _ (fun e => by injection e with e; omega)]; exact b1
        · rw [World.cell?_setCell_other _ _ _ _ (fun e => by injection e with e; omega), World.cell?_setCell_other _ _ _ _ (fun e => by injection e with e; omega)]; exact b2
        · rw [World.cell?_setCell_other _ _ _ _ (fun e => by injection e with e; omega), World.cell?_setCell_other _ _ _ _ (fun e => by injection e with e; omega)]; exact b3
        · exact (((hx.trans he0).trans he).setCell (by simp; omega) _).setCell (by simp; omega) _
      case measure => simp [intOf]; omega
    · go_wp2_with fail
      go_ret
      refine ⟨_, rfl, ?_, hx⟩
      obtain rfl : k = m + 1 := by omega
      have h := HB.out
      rw [List.take_of_length_le (by rw [movedS_len, HL.out]; omega), Nat.sub_self, List.replicate_zero, List.append_nil] at h
      have h2 := h.own (base := w.heap.size) (by omega) (by rw [movedS_len, HL.out]; omega)
      rw [movedS_len, HL.out] at h2
      exact h2
end Go.Proofs.YtdmamobkgdpefaaGreat
