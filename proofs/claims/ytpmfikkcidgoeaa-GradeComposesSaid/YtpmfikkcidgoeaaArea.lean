/- outline.Polygon, polygon.area, polygon.Area2 -/
import Derived.Test.YtpmfikkcidgoeaaGraded
namespace Go.Proofs.Ytpmfikkcidgoeaa
open Go.RowKit
def RetP (w : World) (es : List Edge) (e : Ending) (w' : World) : Prop :=
  ∃ v, e = .returned (.tuple #[v, .int .i64 (ocheck es)]) ∧ (ocheck es = 0 → OwnS w' w.heap.size v (verts es)) ∧ (ocheck es ≠ 0 → v = .slice none 0 0) ∧ Ext w w'
theorem polygon_any (A : Option Addr) (n c : Nat) (l : List Edge) (w : World) (ha : EdgesAt w A l) (hl : l.length = n) (hn : n ≤ c) (hc : c ≤ 9223372036854775807) :
    Calls Try.prog 39 #[.slice A n c] w (RetP w l) := by
  have HL := Lib.hid hl; clear hl
  have HA := Lib.hid ha; clear ha
  go_enter Try.func39, Try.ntmps39
  go_wp2_with fail
  refine (ocheck_any A n c l w HA.out HL.out hn hc).mono ?_
  rintro e w1 ⟨rfl, he1⟩
  by_cases hz : ocheck l = 0
  rotate_left
  · have hzb : (ocheck l != 0) = true := by simp [hz]
    have HZ := Lib.hid hz; clear hz
    go_wp2_with fail
    go_ret2
    exact ⟨_, rfl, fun h => absurd h HZ.out, fun _ => rfl, he1⟩
  have HZ := Lib.hid hz
  have hzb : (ocheck l != 0) = false := by rw [hz]; rfl
  rw [hz]; clear hz hzb
  obtain ⟨h2, h16, hfe⟩ := ocheck_ok HZ.out
  rw [HL.out] at h2 h16 hfe
  have HF := Lib.hid hfe; clear hfe
  go_wp2_with fail
  refine (vertices_any A n c l _ (HA.out.ext he1) HL.out (by omega) (fun q hq => ⟨by have := lens_of HF.out hq; omega, (lens_of HF.out hq).2⟩)).mono ?_
  rintro e w2 ⟨v, rfl, hv, he2⟩
  go_wp2_with fail
  go_ret2
  refine ⟨_, by rw [HZ.out]; rfl, fun _ => OwnS.base_le hv he1.size, fun h => absurd HZ.out h, he1.trans he2⟩

def areaTo (l : List Spot) : Nat → Int
  | 0 => 0
  | k + 1 => wrap64 (areaTo l k + wrap64 (wrap64 ((gS l k).1 * (gS l ((k + 1) % l.length)).2) - wrap64 ((gS l k).2 * (gS l ((k + 1) % l.length)).1)))
set_option maxHeartbeats 800000 in
theorem area_any (A : Option Addr) (n c : Nat) (l : List Spot) (w : World) (ha : SpotsAt w A l) (hl : l.length = n) (hn : n ≤ 1000) :
    Calls Try.prog 53 #[.slice A n c] w fun e w' => e = .returned (.int .i64 (areaTo l n)) ∧ Ext w w' := by
  have HL := Lib.hid hl; clear hl
  have HA := Lib.hid ha; clear ha
  go_enter Try.func53, Try.ntmps53
  go_wp2_with fail
  go_loopw [3, 9] (fun s i wr => ∃ k : Nat, k ≤ n ∧ i = .int .i64 k ∧ s = .int .i64 (areaTo l k) ∧ Ext w wr) (fun _ i _ => n - (intOf i).toNat)
  case atStart => exact ⟨0, Nat.zero_le _, rfl, rfl, Ext.refl _⟩
  case round =>
    obtain ⟨k, hk, rfl, rfl, hx⟩ := hrel
    by_cases hlt : k < n
    · have hm1 : (k + 1) % n < n := Nat.mod_lt _ (by omega)
      obtain ⟨b, off, rfl, hc0, hc1⟩ := (HA.out.ext hx).g (k := k) (by rw [HL.out]; exact hlt)
      obtain ⟨hd0, hd1⟩ := (HA.out.ext hx).at1 (k := (k + 1) % n) (by rw [HL.out]; exact hm1)
      have hbl : b < wr.heap.size := cell_lt hc0
      have hbl1 : b < wr.heap.size + 1 := by omega
      obtain ⟨hj0, hj1, hj2⟩ := mod_idx k n 1 1 rfl (by omega)
      have HS : Hid (areaTo l (k + 1) = wrap64 (areaTo l k + wrap64 (wrap64 ((gS l k).1 * (gS l ((k + 1) % n)).2) - wrap64 ((gS l k).2 * (gS l ((k + 1) % n)).1)))) := by
        show areaTo l (k + 1) = _
        rw [areaTo, HL.out]
      go_wp2_with fail
      go_roundw
      case rel => exact ⟨k + 1, by omega, by go_num, by rw [HS.out], (hx.alloc _).alloc _⟩
      case measure => simp [intOf]; omega
    · go_wp2_with fail
      go_ret
      exact ⟨ret_int (by obtain rfl : k = n := by omega
                         rfl), hx⟩
def area2 (l : List Spot) : Int := if pcheck l ≠ 0 then 0 else areaTo l l.length
theorem pcheck_len {l : List Spot} (h : pcheck l = 0) : 3 ≤ l.length ∧ l.length ≤ 40 := by
  unfold pcheck at h
  split at h
  · cases h
  · split at h
    · cases h
    · omega
theorem area2_any (A : Option Addr) (n c : Nat) (l : List Spot) (w : World) (ha : SpotsAt w A l) (hl : l.length = n) (hn : n ≤ c) :
    Calls Try.prog 40 #[.slice A n c] w fun e w' => e = .returned (.int .i64 (area2 l)) ∧ Ext w w' := by
  have HL := Lib.hid hl; clear hl
  have HA := Lib.hid ha; clear ha
  go_enter Try.func40, Try.ntmps40
  go_wp2_with fail
  refine (pcheck_any A n c l w HA.out HL.out hn).mono ?_
  rintro e w1 ⟨rfl, he1⟩
  by_cases hz : pcheck l = 0
  rotate_left
  · have hzb : (pcheck l != 0) = true := by simp [hz]
    have HZ := Lib.hid hz; clear hz
    go_wp2_with fail
    go_ret
    exact ⟨ret_int (by unfold area2; rw [if_pos HZ.out]), he1⟩
  have HZ := Lib.hid hz
  rw [hz]; clear hz
  have hlen := pcheck_len HZ.out
  rw [HL.out] at hlen
  go_wp2_with fail
  refine (area_any A n c l _ (HA.out.ext he1) HL.out (by omega)).mono ?_
  rintro e w2 ⟨rfl, he2⟩
  go_wp2_with fail
  go_ret
  exact ⟨ret_int (by unfold area2; rw [if_neg (by rw [HZ.out]; simp), HL.out]), he1.trans he2⟩
end Go.Proofs.Ytpmfikkcidgoeaa
