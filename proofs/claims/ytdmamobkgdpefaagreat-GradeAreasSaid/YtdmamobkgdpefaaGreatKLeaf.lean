/- Contracts of the small functions: cross, on, parted, meet, folded, outside, within; equal lists of spots. No conditions. -/
import Derived.Test.YtdmamobkgdpefaaGreatKBase
namespace Go.Proofs.YtdmamobkgdpefaaGreat
open Go.RowKit

/- equal lists of spots -/
theorem R11Same_ne (A B : Option Addr) (n m c d : Nat) (w : World) (hnm : ((n : Int) != m) = true) :
    Calls Tryz.prog 31 #[.slice A n c, .slice B m d] w fun e w' => e = .returned (.bool false) ∧ Ext w w' := by
  go_enter Tryz.func31, Tryz.ntmps31
  go_wp2
  go_ret
  exact ⟨rfl, Ext.refl _⟩
theorem take_same_succ {l m : List Spot} {k : Nat} (hl : k < l.length) (hm : k < m.length) (h : l.take k = m.take k) (he : l[k] = m[k]) : l.take (k + 1) = m.take (k + 1) := by
  rw [take_succ _ _ hl, take_succ _ _ hm, h, he]
set_option maxHeartbeats 400000 in
theorem R11Same_len (A B : Option Addr) (n c d : Nat) (l m : List Spot) (w : World) (ha : SpotsAt w A l) (hb : SpotsAt w B m) (hl : l.length = n) (hm : m.length = n) (hn : n ≤ 9223372036854775807) :
    Calls Tryz.prog 31 #[.slice A n c, .slice B n d] w fun e w' => e = .returned (.bool (decide (l = m))) ∧ Ext w w' := by
  have HL := Lib.hid hl; clear hl
  have HM := Lib.hid hm; clear hm
  have HA := Lib.hid ha; clear ha
  have HB := Lib.hid hb; clear hb
  go_enter Tryz.func31, Tryz.ntmps31
  go_wp2
  go_loopw [5] (fun i wr => ∃ k : Nat, k ≤ n ∧ i = .int .i64 k ∧ l.take k = m.take k ∧ ∃ q, wr = w.drewN q) (fun i _ => n - (intOf i).toNat)
  case atStart => exact ⟨0, Nat.zero_le _, rfl, rfl, 0, rfl⟩
  case round =>
    obtain ⟨k, hk, rfl, ht, q, rfl⟩ := hrel
    have HT := Lib.hid ht; clear ht
    by_cases hlt : k < n
    · have hkl : k < l.length := by rw [HL.out]; exact hlt
      have hkm : k < m.length := by rw [HM.out]; exact hlt
      obtain ⟨b, off, rfl, hc0, hc1⟩ := HA.out k hkl
      obtain ⟨b', off', rfl, hd0, hd1⟩ := HB.out k hkm
      by_cases heq : l[k] = m[k]
      · have hq : eqS l[k].1 l[k].2 m[k].1 m[k].2 = true := (eqS_iff _ _).2 heq
        have HE := Lib.hid heq; clear heq
        go_wp2
        go_quiet (fail)
        go_wp2
        go_roundw
        case rel => exact ⟨k + 1, by omega, by go_num, take_same_succ hkl hkm HT.out HE.out, _, rfl⟩
        case measure => simp [intOf]; omega
      · have hq : eqS l[k].1 l[k].2 m[k].1 m[k].2 = false := by rw [Bool.eq_false_iff]; intro h; exact heq ((eqS_iff _ _).1 h)
        have HE := Lib.hid heq; clear heq
        go_wp2
        go_quiet (fail)
        go_wp2
        go_ret
        exact ⟨ret_bool (by symm; rw [decide_eq_false_iff_not]; rintro rfl; exact HE.out rfl), Ext.drewN (Ext.drewN (Ext.refl _) _) _⟩
    · go_wp2
      go_ret
      exact ⟨ret_bool (by
        have h := HT.out
        rw [List.take_of_length_le (by rw [HL.out]; omega), List.take_of_length_le (by rw [HM.out]; omega)] at h
        simp [h]), Ext.drewN (Ext.refl _) _⟩
theorem R11Same_any (A B : Option Addr) (c d : Nat) (l m : List Spot) (w : World) (ha : SpotsAt w A l) (hb : SpotsAt w B m) (hn' : m.length ≤ 9223372036854775807) :
    Calls Tryz.prog 31 #[.slice A l.length c, .slice B m.length d] w fun e w' => e = .returned (.bool (decide (l = m))) ∧ Ext w w' := by
  by_cases h : l.length = m.length
  · rw [h]; exact R11Same_len A B _ c d l m w ha hb h rfl hn'
  · rw [decide_eq_false (p := l = m) (by rintro rfl; exact h rfl)]
    exact R11Same_ne A B _ _ c d w (by simp; omega)

/- cross -/
def cross (a b c : Spot) : Int := wrap64 (wrap64 (wrap64 (b.1 - a.1) * wrap64 (c.2 - a.2)) - wrap64 (wrap64 (b.2 - a.2) * wrap64 (c.1 - a.1)))
theorem cross_any (a b c : Spot) (w : World) :
    Calls Tryz.prog 96 #[SV a, SV b, SV c] w fun e w' => e = .returned (.int .i64 (cross a b c)) ∧ Ext w w' := by
  obtain ⟨ax, ay⟩ := a; obtain ⟨bx, b_y⟩ := b; obtain ⟨cx, cy⟩ := c
  go_enter Tryz.func96, Tryz.ntmps96
  go_wp2
  go_ret
  exact ⟨rfl, (((Ext.refl _).alloc _).alloc _).alloc _⟩

/- within -/
theorem within_any (n b : Int) (w : World) (hb : 0 ≤ b) (hb' : b ≤ 9223372036854775807) :
    Calls Tryz.prog 24 #[.int .i64 n, .int .i64 b] w fun e w' => e = .returned (.bool (decide (-b ≤ n ∧ n ≤ b))) ∧ w = w' := by
  by_cases h1 : -b ≤ n
  · by_cases h2 : n ≤ b
    · go_enter Tryz.func24, Tryz.ntmps24
      go_wp2
      go_ret
      exact ⟨ret_bool (by simp [h1, h2]), rfl⟩
    · go_enter Tryz.func24, Tryz.ntmps24
      go_wp2
      go_ret
      exact ⟨ret_bool (by simp [h2]), rfl⟩
  · go_enter Tryz.func24, Tryz.ntmps24
    go_wp2
    go_ret
    exact ⟨ret_bool (by symm; simp; omega), rfl⟩
end Go.Proofs.YtdmamobkgdpefaaGreat
