/- polyline.Move -/
import Derived.Test.YtpmfikkcidgoeaaTurned
import Derived.Test.YtpmfikkcidgoeaaPlainA
namespace Go.Proofs.Ytpmfikkcidgoeaa
open Go.RowKit
set_option maxRecDepth 100000 in
set_option maxHeartbeats 1600000 in
theorem move_any (A : Option Addr) (n c : Nat) (l : List Spot) (d : Spot) (w : World) (ha : SpotsAt w A l) (hl : l.length = n) (hn : n ≤ 1000) :
    Calls Try.prog 21 #[.slice A n c, SV d] w fun e w' => ∃ v, e = .returned v ∧ OwnT 44 w' w.heap.size v (l.map (moveS d)) ∧ Ext w w' := by
  obtain ⟨d0, d1⟩ := d
  have HL := Lib.hid hl; clear hl
  have HA := Lib.hid ha; clear ha
  have hmk : ∀ W : World, (Instr.makeSlice 24 (.int .i64 (n : Int)) (.int .i64 (n : Int))).run Try.prog W = .ok (.slice (some ⟨W.heap.size, 0, none⟩) n n) (W.alloc (.cells (scells (List.replicate n (0, 0))).toArray 44)) := fun W => by
    have h := make_spots n (by omega) W
    rw [made_two] at h
    simpa using h
  obtain ⟨Z, hZ⟩ : ∃ Z, Z = (scells (List.replicate n (0, 0))).toArray := ⟨_, rfl⟩
  rw [← hZ] at hmk
  have HZ := Lib.hid hZ; clear hZ
  go_enter Try.func21, Try.ntmps21
  go_wp2_with fail
  refine wp_at fun W0 hW0 => ?_
  have hx0 : Ext w W0 := by rw [hW0]; exact ((Ext.refl _).alloc _).alloc _
  have hD : Blk 44 W0 w.heap.size [.int .i64 d0, .int .i64 d1] := by rw [hW0]; exact (Blk.new' rfl).ext ((Ext.refl _).alloc _)
  obtain ⟨ZL, hZL⟩ : ∃ ZL, ZL = List.replicate n ((0, 0) : Spot) := ⟨_, rfl⟩
  have hG : Blk 44 W0 (w.heap.size + 1) (scells ZL) := by rw [hW0, HZ.out, hZL]; exact Blk.new' (by simp)
  have hZll : ZL.length = l.length := by rw [hZL, List.length_replicate, HL.out]
  have HZL := Lib.hid hZll; clear hZL hZll hW0 hmk
  go_loopw [13] (fun i wr => ∃ k : Nat, k ≤ n ∧ i = .int .i64 k ∧ Blk 44 wr w.heap.size [.int .i64 d0, .int .i64 d1] ∧ Blk 44 wr (w.heap.size + 1) (scells (mixS (fun p => moveS (d0, d1) (gS l p)) ZL k)) ∧ Ext w wr) (fun i _ => n - (intOf i).toNat)
  case atStart => exact ⟨0, Nat.zero_le _, rfl, hD, by rw [mixS_zero]; exact hG, hx0⟩
  case round =>
    clear hx0 hD hG
    obtain ⟨k, hk, rfl, hD, hG, hx⟩ := hrel
    have HG := Lib.hid hG; have HD := Lib.hid hD; clear hG hD
    by_cases hlt : k < n
    · obtain ⟨b, off, rfl, i0, i1⟩ := (HA.out.ext hx).g (k := k) (by rw [HL.out]; exact hlt)
      obtain ⟨c0, c1, f0, f1⟩ := pair_cells0 HG.out (k := k) (by rw [mixS_len, HZL.out, HL.out]; exact hlt)
      have e0 := HD.out.cell 0
      have e1 := HD.out.cell 1
      simp only [List.getElem?_cons_succ, List.getElem?_cons_zero] at e0 e1
      have hgl : w.heap.size + 1 < wr.heap.size := HG.out.lt
      have hdl : w.heap.size < wr.heap.size := HD.out.lt
      have hbl : b < wr.heap.size := cell_lt i0
      go_wp2_with fail
      go_roundw
      case rel =>
        refine ⟨k + 1, by omega, by go_num, ?_, ?_, ?_⟩
        · exact ((HD.out.other (by simp) _).other (by simp) _).ext ((Ext.refl _).alloc _)
        · have h := pair_set0 HG.out (k := k) (by rw [mixS_len, HZL.out, HL.out]; exact hlt) (moveS (d0, d1) (gS l k))
          rw [mixS_succ (f := fun p => moveS (d0, d1) (gS l p)) (by rw [HZL.out, HL.out]; exact hlt)] at h
          exact h.ext ((Ext.refl _).alloc _)
        · exact ((hx.setCell (by simp) _).setCell (by simp) _).alloc _
      case measure => simp [intOf]; omega
    · obtain rfl : k = n := by omega
      go_wp2_with fail
      go_ret
      refine ⟨_, rfl, ?_, hx⟩
      have h := own_of_blk (base := w.heap.size) HG.out (by omega) (by rw [mixS_len, HZL.out, HL.out]; omega)
      rw [mixS_len, HZL.out, HL.out] at h
      rwa [show k = l.length from HL.out.symm, mixS_map HZL.out, ← show k = l.length from HL.out.symm] at h
end Go.Proofs.Ytpmfikkcidgoeaa
