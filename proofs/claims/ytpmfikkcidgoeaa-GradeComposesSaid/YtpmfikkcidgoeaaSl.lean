/- slices.IndexFunc, ContainsFunc (at the two functions 'outside'), Index, Contains over spots -/
import Derived.Test.YtpmfikkcidgoeaaMeet
namespace Go.Proofs.Ytpmfikkcidgoeaa
open Go.RowKit
def FoundP (p : Spot → Bool) (l : List Spot) (r : Int) : Prop := 0 ≤ r ↔ l.any p = true
def SomeFound (p : Spot → Bool) (l : List Spot) (w : World) (e : Ending) (w' : World) : Prop := ∃ r : Int, FoundP p l r ∧ e = .returned (.int .i64 r) ∧ Ext w w'
theorem found_at {p : Spot → Bool} {l : List Spot} {k : Nat} (hk : k < l.length) (h : p l[k] = true) : FoundP p l (k : Int) :=
  ⟨fun _ => List.any_eq_true.2 ⟨l[k], List.getElem_mem hk, h⟩, fun _ => by omega⟩
theorem any_take_succ {p : Spot → Bool} {l : List Spot} {k : Nat} (hk : k < l.length) (h : (l.take k).any p = false) (h' : p l[k] = false) : (l.take (k + 1)).any p = false := by
  rw [take_succ _ _ hk, List.any_append, h]; simp [h']
theorem found_none {p : Spot → Bool} {l : List Spot} {k : Nat} (hk : l.length ≤ k) (h : (l.take k).any p = false) : FoundP p l (-1) := by
  rw [List.take_of_length_le hk] at h
  exact ⟨fun hh => by omega, fun hh => by rw [h] at hh; cases hh⟩

set_option maxHeartbeats 400000 in
theorem indexFunc_l (A : Option Addr) (n c : Nat) (l : List Spot) (w : World) (ha : SpotsAt w A l) (hl : l.length = n) (hn : n ≤ 9223372036854775807) :
    Calls Try.prog 64 #[.slice A n c, .func (.func 56) #[] #[]] w (SomeFound outB l w) := by
  have HL := Lib.hid hl; clear hl
  have HA := Lib.hid ha; clear ha
  go_enter Try.func64, Try.ntmps64
  go_wp2
  go_loopw [8] (fun i wr => ∃ k : Nat, k ≤ n ∧ i = .int .i64 k ∧ (l.take k).any outB = false ∧ Ext w wr) (fun i _ => n - (intOf i).toNat)
  case atStart => exact ⟨0, Nat.zero_le _, rfl, rfl, Ext.refl _⟩
  case round =>
    obtain ⟨k, hk, rfl, ht, hx⟩ := hrel
    have HT := Lib.hid ht; clear ht
    by_cases hlt : k < n
    · have hkl : k < l.length := by rw [HL.out]; exact hlt
      obtain ⟨b, off, rfl, hc0, hc1⟩ := (HA.out.ext hx) k hkl
      go_wp2_with fail
      refine (lout_any l[k] _).mono ?_
      rintro e w1 ⟨rfl, he⟩
      cases hp : outB l[k]
      · have HP := Lib.hid hp; clear hp
        go_wp2_with fail
        go_roundw
        case rel => exact ⟨k + 1, by omega, by go_num, any_take_succ hkl HT.out HP.out, hx.trans he⟩
        case measure => simp [intOf]; omega
      · have HP := Lib.hid hp; clear hp
        go_wp2_with fail
        go_ret
        exact ⟨_, found_at hkl HP.out, rfl, hx.trans he⟩
    · go_wp2_with fail
      go_ret
      exact ⟨_, found_none (by rw [HL.out]; omega) HT.out, rfl, hx⟩
theorem containsFunc_l (A : Option Addr) (n c : Nat) (l : List Spot) (w : World) (ha : SpotsAt w A l) (hl : l.length = n) (hn : n ≤ 9223372036854775807) :
    Calls Try.prog 55 #[.slice A n c, .func (.func 56) #[] #[]] w fun e w' => e = .returned (.bool (l.any outB)) ∧ Ext w w' := by
  have HL := Lib.hid hl; clear hl
  have HA := Lib.hid ha; clear ha
  go_enter Try.func55, Try.ntmps55
  go_wp2_with fail
  refine (indexFunc_l A n c l w HA.out HL.out hn).mono ?_
  rintro e w1 ⟨r, hr, rfl, hx⟩
  have HR := Lib.hid hr; clear hr
  go_wp2_with fail
  go_ret
  exact ⟨ret_bool (by have h := HR.out; unfold FoundP at h; rw [Bool.eq_iff_iff, ← h]; simp), hx⟩

set_option maxHeartbeats 400000 in
theorem indexFunc_p (A : Option Addr) (n c : Nat) (l : List Spot) (w : World) (ha : SpotsAt w A l) (hl : l.length = n) (hn : n ≤ 9223372036854775807) :
    Calls Try.prog 64 #[.slice A n c, .func (.func 57) #[] #[]] w (SomeFound outB l w) := by
  have HL := Lib.hid hl; clear hl
  have HA := Lib.hid ha; clear ha
  go_enter Try.func64, Try.ntmps64
  go_wp2
  go_loopw [8] (fun i wr => ∃ k : Nat, k ≤ n ∧ i = .int .i64 k ∧ (l.take k).any outB = false ∧ Ext w wr) (fun i _ => n - (intOf i).toNat)
  case atStart => exact ⟨0, Nat.zero_le _, rfl, rfl, Ext.refl _⟩
  case round =>
    obtain ⟨k, hk, rfl, ht, hx⟩ := hrel
    have HT := Lib.hid ht; clear ht
    by_cases hlt : k < n
    · have hkl : k < l.length := by rw [HL.out]; exact hlt
      obtain ⟨b, off, rfl, hc0, hc1⟩ := (HA.out.ext hx) k hkl
      go_wp2_with fail
      refine (pout_any l[k] _).mono ?_
      rintro e w1 ⟨rfl, he⟩
      cases hp : outB l[k]
      · have HP := Lib.hid hp; clear hp
        go_wp2_with fail
        go_roundw
        case rel => exact ⟨k + 1, by omega, by go_num, any_take_succ hkl HT.out HP.out, hx.trans he⟩
        case measure => simp [intOf]; omega
      · have HP := Lib.hid hp; clear hp
        go_wp2_with fail
        go_ret
        exact ⟨_, found_at hkl HP.out, rfl, hx.trans he⟩
    · go_wp2_with fail
      go_ret
      exact ⟨_, found_none (by rw [HL.out]; omega) HT.out, rfl, hx⟩
theorem containsFunc_p (A : Option Addr) (n c : Nat) (l : List Spot) (w : World) (ha : SpotsAt w A l) (hl : l.length = n) (hn : n ≤ 9223372036854775807) :
    Calls Try.prog 55 #[.slice A n c, .func (.func 57) #[] #[]] w fun e w' => e = .returned (.bool (l.any outB)) ∧ Ext w w' := by
  have HL := Lib.hid hl; clear hl
  have HA := Lib.hid ha; clear ha
  go_enter Try.func55, Try.ntmps55
  go_wp2_with fail
  refine (indexFunc_p A n c l w HA.out HL.out hn).mono ?_
  rintro e w1 ⟨r, hr, rfl, hx⟩
  have HR := Lib.hid hr; clear hr
  go_wp2_with fail
  go_ret
  exact ⟨ret_bool (by have h := HR.out; unfold FoundP at h; rw [Bool.eq_iff_iff, ← h]; simp), hx⟩

set_option maxHeartbeats 400000 in
theorem index_any (A : Option Addr) (n c : Nat) (l : List Spot) (s : Spot) (w : World) (ha : SpotsAt w A l) (hl : l.length = n) (hn : n ≤ 9223372036854775807) :
    Calls Try.prog 72 #[.slice A n c, SV s] w (SomeFound (fun t => decide (s = t)) l w) := by
  have HL := Lib.hid hl; clear hl
  have HA := Lib.hid ha; clear ha
  obtain ⟨x, y⟩ := s
  go_enter Try.func72, Try.ntmps72
  go_wp2
  go_loopw [8] (fun i wr => ∃ k : Nat, k ≤ n ∧ i = .int .i64 k ∧ (l.take k).any (fun t => decide ((x, y) = t)) = false ∧ Ext (w.alloc (.cells #[.int .i64 x, .int .i64 y] 44)) wr) (fun i _ => n - (intOf i).toNat)
  case atStart => exact ⟨0, Nat.zero_le _, rfl, rfl, Ext.refl _⟩
  case round =>
    obtain ⟨k, hk, rfl, ht, hx⟩ := hrel
    have HT := Lib.hid ht; clear ht
    have hxw : Ext w wr := ((Ext.refl _).alloc _).trans hx
    have hb0 : wr.cell? ⟨w.heap.size, 0, none⟩ = some (.int .i64 x) := hx.cell (by simp [go_sem])
    have hb1 : wr.cell? ⟨w.heap.size, 1, none⟩ = some (.int .i64 y) := hx.cell (by simp [go_sem])
    by_cases hlt : k < n
    · have hkl : k < l.length := by rw [HL.out]; exact hlt
      obtain ⟨b, off, rfl, hc0, hc1⟩ := (HA.out.ext hxw) k hkl
      have hp0 := eqS_dec (x, y) l[k]
      cases hp : eqS x y l[k].1 l[k].2
      · have HP : Hid (decide ((x, y) = l[k]) = false) := by rw [← hp0]; exact hp
        clear hp0
        go_wp2
        go_quiet (fail)
        go_wp2
        go_roundw
        case rel => exact ⟨k + 1, by omega, by go_num, any_take_succ hkl HT.out HP.out, hx.drewN _⟩
        case measure => simp [intOf]; omega
      · have HP : Hid (decide ((x, y) = l[k]) = true) := by rw [← hp0]; exact hp
        clear hp0
        go_wp2
        go_quiet (fail)
        go_wp2
        go_ret
        exact ⟨_, found_at hkl HP.out, rfl, hxw.drewN _⟩
    · go_wp2_with fail
      go_ret
      exact ⟨_, found_none (by rw [HL.out]; omega) HT.out, rfl, hxw⟩
theorem contains_any (A : Option Addr) (n c : Nat) (l : List Spot) (s : Spot) (w : World) (ha : SpotsAt w A l) (hl : l.length = n) (hn : n ≤ 9223372036854775807) :
    Calls Try.prog 65 #[.slice A n c, SV s] w fun e w' => e = .returned (.bool (l.any fun t => decide (s = t))) ∧ Ext w w' := by
  have HL := Lib.hid hl; clear hl
  have HA := Lib.hid ha; clear ha
  obtain ⟨x, y⟩ := s
  go_enter Try.func65, Try.ntmps65
  go_wp2_with fail
  refine (index_any A n c l (x, y) _ (HA.out.ext ((Ext.refl _).alloc _)) HL.out hn).mono ?_
  rintro e w1 ⟨r, hr, rfl, hx⟩
  have HR := Lib.hid hr; clear hr
  go_wp2_with fail
  go_ret
  exact ⟨ret_bool (by have h := HR.out; unfold FoundP at h; rw [Bool.eq_iff_iff, ← h]; simp), ((Ext.refl _).alloc _).trans hx⟩
end Go.Proofs.Ytpmfikkcidgoeaa
