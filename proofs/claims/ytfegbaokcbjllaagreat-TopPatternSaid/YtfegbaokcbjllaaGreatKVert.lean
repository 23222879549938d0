/- outline.vertices -/
import Derived.Test.YtfegbaokcbjllaaGreatKOwn
namespace Go.Proofs.YtfegbaokcbjllaaGreat
open Go.RowKit
def verts (l : List Edge) : List Spot := l.flatMap fun e => e.2.dropLast
def gE (l : List Edge) (k : Nat) : Edge := l.getD k (⟨#[]⟩, [])
theorem gE_eq {l : List Edge} {k : Nat} (h : k < l.length) : gE l k = l[k] := by simp [gE, h]
theorem verts_succ {l : List Edge} {k : Nat} (h : k < l.length) : verts (l.take (k + 1)) = verts (l.take k) ++ (gE l k).2.dropLast := by
 rw [take_succ _ _ h, gE_eq h]; unfold verts; rw [List.flatMap_append]; simp only [List.flatMap_cons, List.flatMap_nil, List.append_nil]
theorem verts_len {l : List Edge} (hl : ∀ e ∈ l, e.2.length ≤ 40) : (verts l).length ≤ l.length * 40 := by
 induction l with
 |nil => simp [verts]
 |cons e l ih =>
  have h1 := hl e (by simp)
  have h2 := ih fun x hx => hl x (by simp [hx])
  simp [verts] at h2 ⊢; omega
theorem EdgesAt.g {w : World} {A : Option Addr} {l : List Edge} (h : EdgesAt w A l) {k : Nat} (hk : k < l.length) :
  ∃ b off L c, A = some ⟨b, off, none⟩ ∧ w.cell? ⟨b, off + k * 2, none⟩ = some (.string (gE l k).1) ∧ w.cell? ⟨b, off + k * 2 + 1, none⟩ = some (.slice L (gE l k).2.length c) ∧
  SpotsAt w L (gE l k).2 ∧ (gE l k).2.length ≤ c ∧ c ≤ 9223372036854775807 := by
 rw [gE_eq hk]; exact h k hk
theorem EdgesAt.at1 {w : World} {b off : Nat} {l : List Edge} (h : EdgesAt w (some ⟨b, off, none⟩) l) {k : Nat} (hk : k < l.length) :
  ∃ L c, w.cell? ⟨b, off + k * 2, none⟩ = some (.string (gE l k).1) ∧ w.cell? ⟨b, off + k * 2 + 1, none⟩ = some (.slice L (gE l k).2.length c) ∧ SpotsAt w L (gE l k).2 ∧ (gE l k).2.length ≤ c ∧ c ≤ 9223372036854775807 := by
 obtain ⟨b', off', L, c, e, h0⟩ := h.g hk
 injection e with e; injection e with e1 e2
 subst e1; subst e2
 exact ⟨L, c, h0⟩
theorem dropLast_take {l : List Spot} {m : Nat} (h : l.length = m + 1) : l.dropLast = l.take m := by rw [List.dropLast_eq_take, h]; rfl
set_option maxRecDepth 100000 in
set_option maxHeartbeats 800000 in
theorem vertices_any (A : Option Addr) (n c : Nat) (l : List Edge) (w : World) (ha : EdgesAt w A l) (hl : l.length = n) (hn : n ≤ 1000) (hlen : ∀ k, k < n → 1 ≤ (gE l k).2.length ∧ (gE l k).2.length ≤ 40) :
  Calls Tryz.prog 70 #[.slice A n c] w (RetS w (verts l)) := by
 have HL := Lib.hid hl; clear hl
 have HA := Lib.hid ha; clear ha
 have HN := Lib.hid hlen; clear hlen
 obtain ⟨i0, hi0, hz0, hz1, hz2⟩ := info_parts spot_info
 go_enter Tryz.func70, Tryz.ntmps70
 go_wp2
 go_loopw [3, 8] (fun v i wr => ∃ k : Nat, k ≤ n ∧ i = .int .i64 k ∧ OwnS wr w.heap.size v (verts (l.take k)) ∧ Ext w wr) (fun _ i _ => n - (intOf i).toNat)
 case atStart => exact ⟨0, Nat.zero_le _, rfl, OwnS.nil _ _, Ext.refl _⟩
 case round =>
  obtain ⟨k, hk, rfl, ho, hx⟩ := hrel
  have HO := Lib.hid ho; clear ho
  by_cases hlt : k < n
  ·have hkl : k < l.length := by rw [HL.out]; exact hlt
   obtain ⟨b, off, L, cL, rfl, hc0, hc1, hs, hcl, hcm⟩ := (HA.out.ext hx).g hkl
   obtain ⟨hm1, hm40⟩ := HN.out k hlt
   obtain ⟨m, hm⟩ : ∃ m, (gE l k).2.length = m + 1 := ⟨(gE l k).2.length - 1, by omega⟩
   have HD := Lib.hid (dropLast_take hm)
   have hs' := hs.take m
   obtain ⟨bl, ol, rfl, _⟩ := hs.g (k := 0) (by omega)
   rw [hm] at hc1 hcl hm40
   have HM := Lib.hid hm; clear hm
   have HS := Lib.hid hs'; clear hs' hs
   have hvl : (verts (l.take k)).length ≤ 40000 := by
    have h := verts_len (l := l.take k) (fun e he => by
     obtain ⟨j, hj, rfl⟩ := List.getElem_of_mem he
     have hjk : j < n := by have h2 : (l.take k).length ≤ k := List.length_take_le _ _; omega
     have := (HN.out j hjk).2
     rw [gE_eq (by rw [HL.out]; exact hjk)] at this
     simpa using this)
    have h2 : (l.take k).length ≤ k := List.length_take_le _ _
    omega
   have HV := Lib.hid hvl; clear hvl
   go_wp2_with (at_builtin; refine wpList_append_own _ rfl (.tmp 12) (.tmp 19) 38 rfl w.heap.size 49 i0 (.agg #[.int .i64 0, .int .i64 0]) 2 16 Tryz.underlying38 hi0 hz0 hz1 hz2 rfl (by decide) _ _ _ rfl (World.ownsRow.alloc HO.out _) ⟨bl, ol, none⟩ m cL (scells ((gE l k).2.take m)) rfl ?c1 ?c2 ?c3 ?c4 ?c5 ?c6 ?_)
   case c1 => rw [scells_length, List.length_take, HM.out]; omega
   case c2 => exact (HS.out.ext ((Ext.refl _).alloc _)).cells
   case c3 => exact scells_one' _
   case c4 => have := HV.out; unfold maxLen; omega
   case c5 => have := HV.out; omega
   case c6 => have := hx.size; simp; omega
   intro v' w1 hown' hgrow _
   have hO' : OwnS w1 w.heap.size v' (verts (l.take (k + 1))) := by
    rw [verts_succ hkl, HD.out]
    unfold OwnS
    rw [scells_append, List.length_append, List.length_take, HM.out, show min m (m + 1) = m from by omega]
    exact hown'
   have hx' : Ext w w1 := (hx.alloc _).grown hgrow (fun g hg => (World.ownsRow.lt HO.out g hg).1)
   have HO' := Lib.hid hO'; clear hO' hown' hgrow
   go_wp2_with fail
   go_roundw
   case rel => exact ⟨k + 1, by omega, by go_num, HO'.out, hx'⟩
   case measure => simp [intOf]; omega
  ·go_wp2_with fail
   go_ret
   exact ⟨_, rfl, by
    have h := HO.out
    rw [List.take_of_length_le (by rw [HL.out]; omega)] at h
    exact h, hx⟩
end Go.Proofs.YtfegbaokcbjllaaGreat
