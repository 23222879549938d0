/- outline.isName: what it computes -/
import Derived.Test.YtpmfikkcidgoeaaZero
namespace Go.Proofs.Ytpmfikkcidgoeaa
open Go.RowKit
def nameE (s : ByteArray) : Int := if nameB s = true then 0 else 1
theorem nameE_f {s : ByteArray} (h : nameB s = false) : nameE s = 1 := by simp [nameE, h]
theorem nameE_t {s : ByteArray} (h : nameB s = true) : nameE s = 0 := by simp [nameE, h]
theorem right_any (s : ByteArray) (w : World) :
    Calls Try.prog 71 #[.agg #[.int .i64 2, .bool false, .slice none 0 0, .slice none 0 0, .string s, .slice none 0 0]] w fun e w' => e = .returned (.bool (nameB s)) ∧ Ext w w' := by
  cases hn : nameB s
  · have HN := Lib.hid hn; clear hn
    go_enter Try.func71, Try.ntmps71
    go_wp2_with (first | (go_at_call 80; go_in))
    refine (fname_any s _).mono ?_
    rintro e w1 ⟨rfl, rfl⟩
    rw [HN.out]
    go_wp2_with fail
    go_ret
    exact ⟨rfl, (Ext.refl _).alloc _⟩
  · have HN := Lib.hid hn; clear hn
    go_enter Try.func71, Try.ntmps71
    go_wp2_with (first | (go_at_call 80; go_in))
    refine (fname_any s _).mono ?_
    rintro e w1 ⟨rfl, rfl⟩
    rw [HN.out]
    go_wp2_with fail
    refine (rcmp_zero _).mono ?_
    rintro e w2 ⟨rfl, hx⟩
    go_wp2_with fail
    go_ret
    exact ⟨rfl, ((Ext.refl _).alloc _).trans hx⟩
theorem fcheck_any (s : ByteArray) (w : World) :
    Calls Try.prog 63 #[.agg #[.int .i64 2, .bool false, .slice none 0 0, .slice none 0 0, .string s, .slice none 0 0], .int .i64 1] w fun e w' => e = .returned (.int .i64 (nameE s)) ∧ Ext w w' := by
  go_enter Try.func63, Try.ntmps63
  go_wp2_with fail
  refine (right_any s _).mono ?_
  rintro e w1 ⟨rfl, hx⟩
  have hc : ∀ k j, k < w.heap.size + 1 → w1.cell? ⟨k, j, none⟩ = _ := fun k j hk => ext_cells hx (by simp; omega)
  cases hn : nameB s
  · have HN := Lib.hid hn; clear hn
    go_wp2_with fail
    go_ret
    exact ⟨ret_int (nameE_f HN.out).symm, ((Ext.refl _).alloc _).trans hx⟩
  · have HN := Lib.hid hn; clear hn
    go_wp2_with fail
    go_loop [16] (fun n => n = .int .i64 0) (fun _ => 0)
    case atStart => rfl
    case round =>
      subst hrel
      go_wp2_with fail
      go_ret
      exact ⟨ret_int (nameE_t HN.out).symm, ((Ext.refl _).alloc _).trans hx⟩
theorem fCheck_any (s : ByteArray) (w : World) :
    Calls Try.prog 54 #[.agg #[.int .i64 2, .bool false, .slice none 0 0, .slice none 0 0, .string s, .slice none 0 0]] w fun e w' => e = .returned (.int .i64 (nameE s)) ∧ Ext w w' := by
  go_enter Try.func54, Try.ntmps54
  go_wp2_with fail
  refine (fcheck_any s _).mono ?_
  rintro e w1 ⟨rfl, hx⟩
  go_wp2_with fail
  go_ret
  exact ⟨rfl, ((Ext.refl _).alloc _).trans hx⟩
theorem isName_any (s : ByteArray) (w : World) :
    Calls Try.prog 41 #[.string s] w fun e w' => e = .returned (.bool (nameB s)) ∧ Ext w w' := by
  go_enter Try.func41, Try.ntmps41
  go_wp2_with fail
  refine (fCheck_any s _).mono ?_
  rintro e w1 ⟨rfl, hx⟩
  cases hn : nameB s
  · rw [nameE_f hn]
    have HN := Lib.hid hn; clear hn
    go_wp2_with fail
    go_ret
    exact ⟨ret_bool HN.out.symm, hx⟩
  · rw [nameE_t hn]
    have HN := Lib.hid hn; clear hn
    go_wp2_with fail
    go_ret
    exact ⟨ret_bool HN.out.symm, hx⟩
end Go.Proofs.Ytpmfikkcidgoeaa
