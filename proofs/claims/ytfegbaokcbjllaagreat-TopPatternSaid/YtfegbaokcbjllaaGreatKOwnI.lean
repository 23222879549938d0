/- Rows of numbers of the call's own. No conditions. -/
import Derived.Test.YtfegbaokcbjllaaGreatKOwnE
namespace Go.Proofs.YtfegbaokcbjllaaGreat
open Go.RowKit
def icells (l : List Int) : List Value := l.map (Value.int .i64)
def OwnI (w : World) (base : Nat) (v : Value) (l : List Int) : Prop := w.ownsRow base 3 1 v l.length (icells l)
theorem OwnI.nil (w : World) (base : Nat) : OwnI w base (.slice none 0 0) [] := World.ownsRow_nil w base _ _
theorem OwnI.slice {w : World} {base : Nat} {v : Value} {l : List Int} (h : OwnI w base v l) :
  ∃ A cap, v = .slice A l.length cap ∧ IntsAt w A l ∧ l.length ≤ cap ∧ cap ≤ 9223372036854775807 := by
 rcases h.2 with ⟨rfl, h0⟩ | ⟨g, cap, cur, rfl, hb, hh, hn, hm, hs, ht⟩
 ·rw [List.eq_nil_of_length_eq_zero h0]
  exact ⟨none, 0, rfl, IntsAt.nil, Nat.le_refl _, by omega⟩
 ·refine ⟨_, cap, rfl, fun k hk => ⟨g, 0, rfl, ?_⟩, hn, hm⟩
  have := World.ownsRow.cells h (g := g) rfl k (.int .i64 l[k]) (by simp [icells, hk])
  rwa [addr_add] at this
theorem int_info : (Tryz.prog.info? 3).map (fun i => (i.zero, i.size, i.bytes)) = some (some (.int .i64 0), 1, 8) := by kernel_rfl
def gI (l : List Int) (k : Nat) : Int := l.getD k 0
theorem gI_eq {l : List Int} {k : Nat} (h : k < l.length) : gI l k = l[k] := by simp [gI, h]
theorem IntsAt.g {w : World} {A : Option Addr} {l : List Int} (h : IntsAt w A l) {k : Nat} (hk : k < l.length) : ∃ b off, A = some ⟨b, off, none⟩ ∧ w.cell? ⟨b, off + k, none⟩ = some (.int .i64 (gI l k)) := by
 rw [gI_eq hk]; exact h k hk
theorem list_ext_gS {a b : List Spot} (hl : a.length = b.length) (h : ∀ p, p < a.length → gS a p = gS b p) : a = b := by
 apply List.ext_getElem hl
 intro i h1 h2
 rw [← gS_eq h1, ← gS_eq h2]; exact h i h1
theorem gS_set {a : List Spot} {k p : Nat} {s : Spot} (hk : k < a.length) : gS (a.set k s) p = if p = k then s else gS a p := by
 by_cases h : p = k
 ·subst h; simp [gS, hk]
 ·rw [if_neg h]; simp [gS, show ¬ k = p from fun e => h e.symm]
end Go.Proofs.YtfegbaokcbjllaaGreat
