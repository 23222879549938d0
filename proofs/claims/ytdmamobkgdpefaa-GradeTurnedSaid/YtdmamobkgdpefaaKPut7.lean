/- a piece stored whole into a variable that lies there -/
import Derived.Test.YtdmamobkgdpefaaKWd
namespace Go.Proofs.Ytdmamobkgdpefaa
open Go.RowKit
def HasP (w : World) (b : Nat) : Prop := ∃ a0 a1 a2 a3 a4 a5 a6, Blk 27 w b [a0, a1, a2, a3, a4, a5, a6]
def putP (w : World) (b : Nat) (b0 b1 b2 b3 b4 b5 b6 : Value) : World := ((((((w.setCell ⟨b, 0, none⟩ b0).setCell ⟨b, 1, none⟩ b1).setCell ⟨b, 2, none⟩ b2).setCell ⟨b, 3, none⟩ b3).setCell ⟨b, 4, none⟩ b4).setCell ⟨b, 5, none⟩ b5).setCell ⟨b, 6, none⟩ b6
theorem Blk.put7 {w : World} {g : Nat} (h : HasP w g) (b0 b1 b2 b3 b4 b5 b6 : Value) : Blk 27 (putP w g b0 b1 b2 b3 b4 b5 b6) g [b0, b1, b2, b3, b4, b5, b6] := by
  obtain ⟨a0, a1, a2, a3, a4, a5, a6, h⟩ := h
  have := ((((((h.set 0 b0).set 1 b1).set 2 b2).set 3 b3).set 4 b4).set 5 b5).set 6 b6
  simp at this; exact this
theorem ext_put7 {W0 w : World} {b : Nat} (h : Ext W0 w) (hb : W0.heap.size ≤ b) (b0 b1 b2 b3 b4 b5 b6 : Value) : Ext W0 (putP w b b0 b1 b2 b3 b4 b5 b6) :=
  ((((((h.setCell hb _).setCell hb _).setCell hb _).setCell hb _).setCell hb _).setCell hb _).setCell hb _
theorem ext_set7 {W0 w : World} (h : Ext W0 w) (b0 b1 b2 b3 b4 b5 b6 : Value) :
    Ext W0 (((((((w.setCell ⟨W0.heap.size, 0, none⟩ b0).setCell ⟨W0.heap.size, 1, none⟩ b1).setCell ⟨W0.heap.size, 2, none⟩ b2).setCell ⟨W0.heap.size, 3, none⟩ b3).setCell ⟨W0.heap.size, 4, none⟩ b4).setCell ⟨W0.heap.size, 5, none⟩ b5).setCell ⟨W0.heap.size, 6, none⟩ b6) :=
  ext_put7 h (Nat.le_refl _) b0 b1 b2 b3 b4 b5 b6
theorem kept_put7 {w : World} {b : Nat} (b0 b1 b2 b3 b4 b5 b6 : Value) : Kept (fun k => k = b) w (putP w b b0 b1 b2 b3 b4 b5 b6) :=
  kset (kset (kset (kset (kset (kset (kset (Kept.refl _ _) _ _) _ _) _ _) _ _) _ _) _ _) _ _
theorem storeVar_piece (w : World) (b : Nat) (nm : ByteArray) (A1 A3 A4 A5 : Option Addr) (n1 c1 n3 c3 n4 c4 n5 c5 : Nat) (gr : Int) (mt : Bool) (h : HasP w b) :
    (storeVar 27 ⟨b, 0, none⟩ (.agg #[.string nm, .slice A1 n1 c1, .int .i64 gr, .slice A3 n3 c3, .slice A4 n4 c4, .slice A5 n5 c5, .bool mt])).run Try.prog w = .ok () (putP w b (.string nm) (.slice A1 n1 c1) (.int .i64 gr) (.slice A3 n3 c3) (.slice A4 n4 c4) (.slice A5 n5 c5) (.bool mt)) := by
  obtain ⟨a0, a1, a2, a3, a4, a5, a6, h⟩ := h
  obtain ⟨s0, s1, s2, s3, s4, s5, s6⟩ := blk7 h
  have e0 := h.frozen 0
  have e1 := h.frozen 1
  have e2 := h.frozen 2
  have e3 := h.frozen 3
  have e4 := h.frozen 4
  have e5 := h.frozen 5
  have e6 := h.frozen 6
  simp [go_sem, s0, s1, s2, s3, s4, s5, s6, e0, e1, e2, e3, e4, e5, e6, putP]
theorem storeAt_piece (w : World) (b : Nat) (nm : ByteArray) (A1 A3 A4 A5 : Option Addr) (n1 c1 n3 c3 n4 c4 n5 c5 : Nat) (gr : Int) (mt : Bool) (h : HasP w b) :
    (Instr.storeAt 27 (.pointer (some ⟨b, 0, none⟩)) (.agg #[.string nm, .slice A1 n1 c1, .int .i64 gr, .slice A3 n3 c3, .slice A4 n4 c4, .slice A5 n5 c5, .bool mt])).run Try.prog w = .ok () (putP w b (.string nm) (.slice A1 n1 c1) (.int .i64 gr) (.slice A3 n3 c3) (.slice A4 n4 c4) (.slice A5 n5 c5) (.bool mt)) := by
  simp only [Instr.storeAt, Instr.sureAddr, Sem.run_bind, Sem.run_pure, Result.andThen_ok, storeVar_piece w b nm A1 A3 A4 A5 n1 c1 n3 c3 n4 c4 n5 c5 gr mt h]
end Go.Proofs.Ytdmamobkgdpefaa
