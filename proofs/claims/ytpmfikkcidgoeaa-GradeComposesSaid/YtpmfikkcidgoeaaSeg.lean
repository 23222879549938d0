/- polyline.segment, Length -/
import Derived.Test.YtpmfikkcidgoeaaRoot
import Derived.Test.YtpmfikkcidgoeaaChk
namespace Go.Proofs.Ytpmfikkcidgoeaa
open Go.RowKit
def sqN (p q : Spot) : Nat := ((q.1 - p.1) * (q.1 - p.1) + (q.2 - p.2) * (q.2 - p.2)).toNat
def seg (p q : Spot) : Nat := rootN (1000000 * sqN p q)
def inB (s : Spot) : Prop := -1048576 ≤ s.1 ∧ s.1 ≤ 1048576 ∧ -1048576 ≤ s.2 ∧ s.2 ≤ 1048576
theorem sq_bound {d : Int} (h0 : -2097152 ≤ d) (h1 : d ≤ 2097152) : 0 ≤ d * d ∧ d * d ≤ 4398046511104 := by
  rcases Int.le_total 0 d with h | h
  · exact ⟨Int.mul_nonneg h h, Int.mul_le_mul h1 h1 h (by omega)⟩
  · have a := Int.mul_nonneg (show 0 ≤ -d by omega) (show 0 ≤ -d by omega)
    have b := Int.mul_le_mul (show -d ≤ 2097152 by omega) (show -d ≤ 2097152 by omega) (show 0 ≤ -d by omega) (by omega)
    rw [Int.neg_mul_neg] at a b
    exact ⟨a, b⟩
theorem root_int (n : Int) (w : World) (h0 : 0 ≤ n) (h1 : n < 9223372036854775808) :
    Calls Try.prog 59 #[.int .i64 n] w fun e w' => e = .returned (.int .i64 (rootN n.toNat)) ∧ w = w' := by
  have h := root_any n.toNat w (by omega)
  rwa [Int.toNat_of_nonneg h0] at h
set_option maxHeartbeats 800000 in
theorem segment_any (p q : Spot) (w : World) (hp : inB p) (hq : inB q) :
    Calls Try.prog 45 #[SV p, SV q] w fun e w' => e = .returned (.int .i64 (seg p q)) ∧ Ext w w' := by
  obtain ⟨px, py⟩ := p; obtain ⟨qx, qy⟩ := q
  obtain ⟨p1, p2, p3, p4⟩ := hp; obtain ⟨q1, q2, q3, q4⟩ := hq
  have hs : ((sqN (px, py) (qx, qy) : Nat) : Int) = (qx - px) * (qx - px) + (qy - py) * (qy - py) := by
    have h1 := (sq_bound (d := qx - px) (by omega) (by omega)).1
    have h2 := (sq_bound (d := qy - py) (by omega) (by omega)).1
    unfold sqN; exact Int.toNat_of_nonneg (by simp only; omega)
  have h1 := sq_bound (d := qx - px) (by omega) (by omega)
  have h2 := sq_bound (d := qy - py) (by omega) (by omega)
  simp only at p1 p2 p3 p4 q1 q2 q3 q4
  go_enter Try.func45, Try.ntmps45
  go_wp2_with fail
  go_quiet (fail)
  go_wp2_with fail
  refine (root_int _ _ (by omega) (by omega)).mono ?_
  rintro e w1 ⟨rfl, rfl⟩
  go_wp2_with fail
  go_ret
  refine ⟨ret_int ?_, (((Ext.refl _).alloc _).alloc _).drewN _⟩
  unfold seg
  congr 2
  omega
def lenTo (l : List Spot) : Nat → Nat
  | 0 => 0
  | k + 1 => lenTo l k + seg (gS l k) (gS l (k + 1))
def lengthN (l : List Spot) : Nat := if lcheck l ≠ 0 then 0 else lenTo l (l.length - 1)
theorem rootN_le (n : Nat) (h : n < 9223372036854775808) : rootN n ≤ 4294967296 := by
  have h1 := (rootN_is n (by omega)).1
  rcases Nat.lt_or_ge 4294967296 (rootN n) with h2 | h2
  · have := Nat.mul_le_mul h2 h2; omega
  · exact h2
theorem sqN_le {p q : Spot} (hp : inB p) (hq : inB q) : sqN p q ≤ 8796093022208 := by
  obtain ⟨p1, p2, p3, p4⟩ := hp; obtain ⟨q1, q2, q3, q4⟩ := hq
  have h1 := sq_bound (d := q.1 - p.1) (by omega) (by omega)
  have h2 := sq_bound (d := q.2 - p.2) (by omega) (by omega)
  unfold sqN; omega
theorem seg_le {p q : Spot} (hp : inB p) (hq : inB q) : seg p q ≤ 4294967296 := rootN_le _ (by have := sqN_le hp hq; omega)
theorem lenTo_le {l : List Spot} (h : ∀ k, k < l.length → inB (gS l k)) : ∀ k, k ≤ l.length - 1 → lenTo l k ≤ k * 4294967296
  | 0, _ => by simp [lenTo]
  | k + 1, hk => by
    have := lenTo_le h k (by omega)
    have := seg_le (h k (by omega)) (h (k + 1) (by omega))
    simp only [lenTo]; omega
theorem lcheck_zero {l : List Spot} (h : lcheck l = 0) : 2 ≤ l.length ∧ l.length ≤ 40 ∧ ∀ k, k < l.length → inB (gS l k) := by
  unfold lcheck at h
  split at h
  · cases h
  split at h
  · cases h
  split at h
  · cases h
  · rename_i h1 h2 h3
    refine ⟨by omega, by omega, fun k hk => ?_⟩
    rw [gS_eq hk]
    have h4 : outB l[k] = false := by
      cases h5 : outB l[k]
      · rfl
      · exact absurd (List.any_eq_true.2 ⟨_, List.getElem_mem hk, h5⟩) h3
    unfold outB at h4
    simp at h4
    unfold inB
    omega
set_option maxHeartbeats 800000 in
theorem length_any (A : Option Addr) (n c : Nat) (l : List Spot) (w : World) (ha : SpotsAt w A l) (hl : l.length = n) :
    Calls Try.prog 23 #[.slice A n c] w fun e w' => e = .returned (.tuple #[.int .i64 (lengthN l), .int .i64 (lcheck l)]) ∧ Ext w w' := by
  have HL := Lib.hid hl; clear hl
  have HA := Lib.hid ha; clear ha
  go_enter Try.func23, Try.ntmps23
  go_wp2_with fail
  refine (lcheck_any A n c l w HA.out HL.out).mono ?_
  rintro e w1 ⟨rfl, hx⟩
  by_cases hz : lcheck l = 0
  · obtain ⟨h2, h40, hin⟩ := lcheck_zero hz
    rw [HL.out] at h2 h40
    have HIN := Lib.hid hin; clear hin
    have HZ := Lib.hid hz
    rw [hz]
    clear hz
    go_wp2_with fail
    go_loopw [5, 15] (fun s i wr => ∃ k : Nat, k ≤ n - 1 ∧ i = .int .i64 k ∧ s = .int .i64 (lenTo l k) ∧ Ext w wr) (fun _ i _ => n - (intOf i).toNat)
    case atStart => exact ⟨0, Nat.zero_le _, rfl, rfl, hx⟩
    case round =>
      clear hx
      obtain ⟨k, hk, rfl, rfl, hx⟩ := hrel
      by_cases hlt : k < n - 1
      · have hlt' : (k : Int) < (n : Int) - 1 := by omega
        have hb := lenTo_le HIN.out k (by rw [HL.out]; omega)
        have hg := seg_le (HIN.out k (by rw [HL.out]; omega)) (HIN.out (k + 1) (by rw [HL.out]; omega))
        have hg1 := HIN.out k (by rw [HL.out]; omega)
        have hg2 := HIN.out (k + 1) (by rw [HL.out]; omega)
        have hgh := Lib.hid hg1; have hgi := Lib.hid hg2; clear hg1 hg2
        obtain ⟨b, off, rfl, hc0, hc1⟩ := (HA.out.ext hx).g (k := k) (by rw [HL.out]; omega)
        obtain ⟨hd0, hd1⟩ := (HA.out.ext hx).at1 (k := k + 1) (by rw [HL.out]; omega)
        have hs1 : IntKind.i64.wrap ((k : Int) + 1) = k + 1 := IntWalk.i64_in _ (by omega)
        have hs2 : ((k : Int) + 1).toNat = k + 1 := by omega
        have hs3 : (k : Int) + 1 < n := by omega
        have hs4 : 0 ≤ (k : Int) + 1 := by omega
        have hs5 : IntKind.i64.wrap ((lenTo l k : Int) + seg (gS l k) (gS l (k + 1))) = (lenTo l k : Int) + seg (gS l k) (gS l (k + 1)) := IntWalk.i64_in _ (by omega)
        go_wp2_with fail
        have d0 := fun z : After wr => After.cell hc0 z
        have d1 := fun z : After wr => After.cell hc1 z
        have d2 := fun z : After wr => After.cell hd0 z
        have d3 := fun z : After wr => After.cell hd1 z
        refine region_ext (by kernel_rfl) (by kernel_rfl) ?_
        repeat (go_big_quiet_step (
          (go_at_call 45; exact after_call (segment_any (gS l k) (gS l (k + 1)) _ hgh.out hgi.out))))
        refine wpQuiet_nil ?_
        rintro w1 ⟨⟨_, he⟩, rfl⟩
        clear hs1 hs2 hs4
        go_wp2_with fail
        go_roundw
        case rel => exact ⟨k + 1, by omega, by go_num, by simp [lenTo], hx.trans he⟩
        case measure => simp [intOf]; omega
      · obtain rfl : k = n - 1 := by omega
        have hlt' : ¬ ((n - 1 : Nat) : Int) < (n : Int) - 1 := by omega
        go_wp2_with fail
        go_ret2
        exact ⟨by unfold lengthN; rw [HZ.out, if_neg (by simp), HL.out]; rfl, hx⟩
  · have hd : (lcheck l == 0) = false := by simp [hz]
    have HZ := Lib.hid hz; clear hz
    go_wp2_with fail
    go_ret2
    exact ⟨by unfold lengthN; rw [if_pos HZ.out]; rfl, hx⟩
end Go.Proofs.Ytpmfikkcidgoeaa
