/- slices.Clone at spots, notches, numbers -/
import Derived.Lib.SliceRun
import Derived.Test.YtliijigdbpmpaaaKWd
namespace Go.Proofs.Ytliijigdbpmpaaa
open Go.RowKit
/- notches are pairs of numbers, as spots are; only the row's type is another one -/
def OwnN (w : World) (base : Nat) (v : Value) (l : List Spot) : Prop := w.ownsRow base 36 2 v l.length (scells l)
theorem notch_info : (Try.prog.info? 36).map (fun i => (i.zero, i.size, i.bytes)) = some (some (.agg #[.int .i64 0, .int .i64 0]), 2, 16) := by kernel_rfl
def RetN (w : World) (l : List Spot) (e : Ending) (w' : World) : Prop := ∃ v, e = .returned v ∧ OwnN w' w.heap.size v l ∧ Ext w w'
def RetI (w : World) (l : List Int) (e : Ending) (w' : World) : Prop := ∃ v, e = .returned v ∧ OwnI w' w.heap.size v l ∧ Ext w w'
set_option maxRecDepth 100000 in
set_option maxHeartbeats 1000000 in
theorem clone_spots (A : Option Addr) (n c : Nat) (l : List Spot) (w : World) (hp : plainA A) (ha : SpotsAt w A l) (hl : l.length = n) (hbig : n * 16 ≤ 140737488355328) :
    Calls Try.prog 58 #[.slice A n c] w (RetS w l) := by
  have HL := Lib.hid hl; clear hl
  have HA := Lib.hid ha; clear ha
  have q22 : ∀ (w : World) (a : Option Addr) (n c n' c' : Nat), (binOp .eql 24 (.slice a n c) (.slice none n' c')).run Try.prog w = .ok (.bool a.isNone) w := fun w a n c n' c' => Lib.run_eql_slice_nil w _ _ a n c n' c' Try.underlying24
  cases A with
  | none =>
    obtain rfl : l = [] := HA.out.nilA
    go_enter Try.func58, Try.ntmps58
    go_wp2_with fail
    go_ret
    exact ⟨_, rfl, OwnS.nil _ _, Ext.refl _⟩
  | some a =>
    obtain ⟨b, off, rfl⟩ := hp a rfl
    obtain ⟨i0, hi0, hi1⟩ := Option.map_eq_some_iff.1 spot_info
    simp only [Prod.mk.injEq] at hi1
    obtain ⟨hz0, hz1, hz2⟩ := hi1
    have HX := Lib.hid (HA.out.cells)
    go_enter Try.func58, Try.ntmps58
    go_wp2_with (at_builtin; refine wpList_append_own _ rfl _ _ 24 rfl w.heap.size 43 i0 (.agg #[.int .i64 0, .int .i64 0]) 2 16 Try.underlying24 hi0 hz0 hz1 hz2 rfl (by decide) _ _ _ rfl (World.ownsRow_made w #[] 0 (Nat.le_refl _) (Nat.zero_le _) rfl) ⟨b, off, none⟩ n c (scells l) rfl ?qc1 ?qc2 ?qc3 ?qc4 ?qc5 ?qc6 ?_)
    case qc1 => rw [scells_length, HL.out]
    case qc2 => intro j u hj; exact (Lib.cell?_alloc_some _ (HX.out j u hj))
    case qc3 => exact scells_one' l
    case qc4 => unfold maxLen; omega
    case qc5 => omega
    case qc6 => simp
    intro v' w1 hown hgrow hnil
    go_wp2_with fail
    go_ret
    refine ⟨v', rfl, ?_, ?_⟩
    · unfold OwnS; rw [HL.out]; simpa using hown
    · exact ((Ext.refl w).alloc _).grown hgrow (by intro k hk; simp [Value.ownBlock] at hk; omega)
set_option maxRecDepth 100000 in
set_option maxHeartbeats 1000000 in
theorem clone_notches (A : Option Addr) (n c : Nat) (l : List Spot) (w : World) (hp : plainA A) (ha : SpotsAt w A l) (hl : l.length = n) (hbig : n * 16 ≤ 140737488355328) :
    Calls Try.prog 44 #[.slice A n c] w (RetN w l) := by
  have HL := Lib.hid hl; clear hl
  have HA := Lib.hid ha; clear ha
  have q22 : ∀ (w : World) (a : Option Addr) (n c n' c' : Nat), (binOp .eql 23 (.slice a n c) (.slice none n' c')).run Try.prog w = .ok (.bool a.isNone) w := fun w a n c n' c' => Lib.run_eql_slice_nil w _ _ a n c n' c' Try.underlying23
  cases A with
  | none =>
    obtain rfl : l = [] := HA.out.nilA
    go_enter Try.func44, Try.ntmps44
    go_wp2_with fail
    go_ret
    exact ⟨_, rfl, World.ownsRow_nil _ _ _ _, Ext.refl _⟩
  | some a =>
    obtain ⟨b, off, rfl⟩ := hp a rfl
    obtain ⟨i0, hi0, hi1⟩ := Option.map_eq_some_iff.1 notch_info
    simp only [Prod.mk.injEq] at hi1
    obtain ⟨hz0, hz1, hz2⟩ := hi1
    have HX := Lib.hid (HA.out.cells)
    go_enter Try.func44, Try.ntmps44
    go_wp2_with (at_builtin; refine wpList_append_own _ rfl _ _ 23 rfl w.heap.size 36 i0 (.agg #[.int .i64 0, .int .i64 0]) 2 16 Try.underlying23 hi0 hz0 hz1 hz2 rfl (by decide) _ _ _ rfl (World.ownsRow_made w #[] 0 (Nat.le_refl _) (Nat.zero_le _) rfl) ⟨b, off, none⟩ n c (scells l) rfl ?qc1 ?qc2 ?qc3 ?qc4 ?qc5 ?qc6 ?_)
    case qc1 => rw [scells_length, HL.out]
    case qc2 => intro j u hj; exact (Lib.cell?_alloc_some _ (HX.out j u hj))
    case qc3 => exact scells_one' l
    case qc4 => unfold maxLen; omega
    case qc5 => omega
    case qc6 => simp
    intro v' w1 hown hgrow hnil
    go_wp2_with fail
    go_ret
    refine ⟨v', rfl, ?_, ?_⟩
    · unfold OwnN; rw [HL.out]; simpa using hown
    · exact ((Ext.refl w).alloc _).grown hgrow (by intro k hk; simp [Value.ownBlock] at hk; omega)
set_option maxRecDepth 100000 in
set_option maxHeartbeats 1000000 in
theorem clone_ints (A : Option Addr) (n c : Nat) (l : List Int) (w : World) (hp : plainA A) (ha : IntsAt w A l) (hl : l.length = n) (hbig : n * 8 ≤ 140737488355328) :
    Calls Try.prog 43 #[.slice A n c] w (RetI w l) := by
  have HL := Lib.hid hl; clear hl
  have HA := Lib.hid ha; clear ha
  have q22 : ∀ (w : World) (a : Option Addr) (n c n' c' : Nat), (binOp .eql 25 (.slice a n c) (.slice none n' c')).run Try.prog w = .ok (.bool a.isNone) w := fun w a n c n' c' => Lib.run_eql_slice_nil w _ _ a n c n' c' Try.underlying25
  cases A with
  | none =>
    obtain rfl : l = [] := HA.out.nilA
    go_enter Try.func43, Try.ntmps43
    go_wp2_with fail
    go_ret
    exact ⟨_, rfl, OwnI.nil _ _, Ext.refl _⟩
  | some a =>
    obtain ⟨b, off, rfl⟩ := hp a rfl
    obtain ⟨i0, hi0, hi1⟩ := Option.map_eq_some_iff.1 int_info
    simp only [Prod.mk.injEq] at hi1
    obtain ⟨hz0, hz1, hz2⟩ := hi1
    have HX := Lib.hid (HA.out.cells)
    go_enter Try.func43, Try.ntmps43
    go_wp2_with (at_builtin; refine wpList_append_own _ rfl _ _ 25 rfl w.heap.size 3 i0 (.int .i64 0) 1 8 Try.underlying25 hi0 hz0 hz1 hz2 rfl (by decide) _ _ _ rfl (World.ownsRow_made w #[] 0 (Nat.le_refl _) (Nat.zero_le _) rfl) ⟨b, off, none⟩ n c (icells l) rfl ?qc1 ?qc2 ?qc3 ?qc4 ?qc5 ?qc6 ?_)
    case qc1 => simp [icells, HL.out]
    case qc2 => intro j u hj; exact (Lib.cell?_alloc_some _ (HX.out j u hj))
    case qc3 => intro u hu; obtain ⟨x, _, rfl⟩ := List.mem_map.1 hu; rfl
    case qc4 => unfold maxLen; omega
    case qc5 => omega
    case qc6 => simp
    intro v' w1 hown hgrow hnil
    go_wp2_with fail
    go_ret
    refine ⟨v', rfl, ?_, ?_⟩
    · unfold OwnI; rw [HL.out]; simpa using hown
    · exact ((Ext.refl w).alloc _).grown hgrow (by intro k hk; simp [Value.ownBlock] at hk; omega)
end Go.Proofs.Ytliijigdbpmpaaa
