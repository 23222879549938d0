/- a call of a Go function inside a region whose order is open, as one step; no program in sight -/
import Derived.Deep.RegionLaw
import Derived.Test.YtdmamobkgdpefaaKBase
namespace Go.Proofs.Ytdmamobkgdpefaa
open Go.RowKit
theorem step_call {P : Program} {ops : Array Oper} {o : Oper} {a : Act} {w : World} {K : Act → World → Prop} {Q : Exit → Act → World → Prop} {E : Prop}
    (hg : o.guard = none) (f : FuncId) (xs : List Operand) (ts : Array TypeId) (hop : o.op = Op.call { callee := Callee.value (Operand.func f), args := xs.toArray, argTypes := ts })
    (fn : Func) (hf : P.funcs[f]? = some fn) (hb : fn.body.isSome = true) (hn : fn.name ≠ "runtime.NumGoroutine") (args : List Value) (hargs : xs.map a.eval = args) {v : Value} {R : World → Prop} (hc : Calls P f args.toArray w fun e w' => e = .returned v ∧ R w')
    (hK : ∀ w', R w' → K (a.put o.dst v) w') : if Region.wanted o (yielded ops a.tmps) = true then Oper.wp P o a w K Q else E := by
  have hw : Region.wanted o (yielded ops a.tmps) = true := by simp [Region.wanted, hg]
  rw [if_pos hw]
  subst hargs
  obtain ⟨c, hb⟩ := Option.isSome_iff_exists.1 hb
  unfold Oper.wp
  simp [execOp, hop, resolve, invoke, Act.eval, callFunc, go_sem, hf, hb, hn]
  refine hc.mono ?_
  rintro e w' ⟨rfl, h⟩
  exact hK w' h
end Go.Proofs.Ytdmamobkgdpefaa
