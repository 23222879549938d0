/- a store of a struct into a variable of the call's own, for regions whose order is open -/
import Derived.Laws.IdiomCopy
import Derived.Deep.RegionHeld3
import Derived.Test.YtnfchkkokgmliaaKBase
namespace Go.Proofs.Ytnfchkkokgmliaa
open Go.RowKit
theorem step_store {P : Program} {ops : Array Oper} {o : Oper} {a : Act} {w : World} {K : Act → World → Prop} {Q : Exit → Act → World → Prop} {E : Prop} (hgd : o.guard = none) (t : TypeId) (x v : Operand)
    (ho : o.op = .store t x v) (b off : Nat) (vs : List Value) (i : TypeInfo) (hi : P.info? t = some i) (hsz : i.size = vs.length) (hx : a.eval x = .pointer (some ⟨b, off, none⟩)) (hv : (a.eval v).cells = vs.toArray)
    (hc : ∀ j, j < vs.length → (w.cell? ⟨b, off + j, none⟩).isSome = true) (hf : ∀ j, j < vs.length → w.frozen? ⟨b, off + j, none⟩ = false) (h1 : ∀ u ∈ vs, u.oneCell' = true)
    (h : K (a.put o.dst undef) (w.setCells b off vs)) : if Region.wanted o (yielded ops a.tmps) = true then Oper.wp P o a w K Q else E := by
  have hw : Region.wanted o (yielded ops a.tmps) = true := by simp [Region.wanted, hgd]
  rw [if_pos hw]
  have hr := run_storeCells_cells (P := P) b off vs 0 w (by simpa using hc) (by simpa using hf) h1
  unfold Oper.wp execOp
  simp only [ho, Instr.storeAt, Instr.sureAddr, hx, storeVar, sizeOf, typeInfo, hv]
  simp [hi, hsz, hr]
  exact h
end Go.Proofs.Ytnfchkkokgmliaa
