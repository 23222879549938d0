/- what is kept behind an append to a field; plain words on rows -/
import Derived.Test.YtkigmpholnfkbaaGreatKWd
namespace Go.Proofs.YtkigmpholnfkbaaGreat
open Go.RowKit
theorem Kept.grown {K : Nat → Prop} {a b c : World} {row : Option Nat} (h : Kept K a b) (hg : b.grownBy c row) (hr : ∀ k, row = some k → a.heap.size ≤ k ∨ K k) : Kept K a c :=
  ⟨hg.os.trans h.os, hg.tape.trans h.tape, hg.output.trans h.output, Nat.le_trans h.size hg.size, fun i hi hn => (hg.block i (Nat.lt_of_lt_of_le hi h.size) (fun e => by rcases hr i e.symm with q | q; omega; exact hn q)).trans (h.block i hi hn)⟩
/- behind an append to a field of a piece of the call's own -/
theorem field_fin {wc W wn : World} {ob j size n : Nat} {t T : TypeId} {V v : Value} {pc xs : List Value} (ht : t ≠ T) (hQ : Blk T W ob pc) (hv : ∃ s m ys, W.ownsRow wc.heap.size t s V m ys) (hg : W.grownBy wn V.ownBlock)
    (ho : wn.ownsRow wc.heap.size t size v n xs) (hk : Kept (fun k => k = ob) wc W) :
    Blk T (wn.setCell ⟨ob, j, none⟩ v) ob (pc.set j v) ∧ (wn.setCell ⟨ob, j, none⟩ v).ownsRow wc.heap.size t size v n xs ∧ Kept (fun k => k = ob) wc (wn.setCell ⟨ob, j, none⟩ v) := by
  obtain ⟨s, m, ys, hv⟩ := hv
  have h1 : V.ownBlock ≠ some ob := own_blk_ne hv hQ ht
  have hQ' : Blk T wn ob pc := (hg.block _ hQ.lt (Ne.symm h1)).trans hQ
  exact ⟨hQ'.set j v, own_set ho (own_blk_ne ho hQ' ht) v, (hk.grown hg (fun g hg' => .inl (own_ge hv hg'))).set (.inr rfl) v⟩
theorem gS_take_succ {l : List Spot} {k : Nat} (h : k < l.length) : l.take (k + 1) = l.take k ++ [gS l k] := by rw [gS_eq h]; exact take_succ l k h
theorem gI_take_succ {l : List Int} {k : Nat} (h : k < l.length) : l.take (k + 1) = l.take k ++ [gI l k] := by rw [gI_eq h]; exact take_succ l k h
end Go.Proofs.YtkigmpholnfkbaaGreat
