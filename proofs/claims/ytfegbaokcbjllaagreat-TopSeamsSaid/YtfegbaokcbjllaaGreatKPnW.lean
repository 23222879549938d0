/- words: what lies in memory when the style of the two pieces is built -/
import Derived.Test.YtfegbaokcbjllaaGreatKJoin
namespace Go.Proofs.YtfegbaokcbjllaaGreat
open Go.RowKit
theorem spots_pre {t : TypeId} {W : World} {g : Nat} {l : List Spot} {R : List Value} (h : Blk t W g (scells l ++ R)) : SpotsAt W (some ⟨g, 0, none⟩) l := SpotsAt.of_cells fun j u hu => by
 rw [Nat.zero_add, h.cell, List.getElem?_append_left (List.getElem?_eq_some_iff.1 hu).1]; exact hu
theorem edges_two {W : World} {g : Nat} {a b : ByteArray} {l0 l1 : List Spot} {A0 A1 : Option Addr} {n0 n1 c0 c1 : Nat} {R : List Value} (h : Blk 59 W g ([.string a, .slice A0 n0 c0, .string b, .slice A1 n1 c1] ++ R)) (h0 : SpotsAt W A0 l0) (h1 : SpotsAt W A1 l1) (hl0 : l0.length = n0) (hl1 : l1.length = n1) (hc0 : n0 ≤ c0 ∧ c0 ≤ 9223372036854775807) (hc1 : n1 ≤ c1 ∧ c1 ≤ 9223372036854775807) : EdgesAt W (some ⟨g, 0, none⟩) [(a, l0), (b, l1)] := by
 subst hl0 hl1
 intro k hk
 match k, hk with
 |0, _ => exact ⟨g, 0, A0, c0, rfl, h.cell 0, h.cell 1, h0, hc0⟩
 |1, _ => exact ⟨g, 0, A1, c1, rfl, h.cell 2, h.cell 3, h1, hc1⟩
theorem ints_blk {t : TypeId} {W : World} {g : Nat} {l : List Int} (h : Blk t W g (icells l)) : IntsAt W (some ⟨g, 0, none⟩) l := fun k hk => ⟨g, 0, rfl, by
 rw [Nat.zero_add, h.cell, icells_get hk, gI_eq hk]⟩
structure PnB (W : World) (B g1 o1 nL c1 g4 gE cE ga ca gb cb gc base : Nat) (VA : Option Addr) (nN vc : Nat) (L K N0 N1 C C' NL : List Spot) : Prop where
 e : Blk 59 W B [.string joinN, .slice (some ⟨g1, o1, none⟩) nL c1, .string backN, .slice (some ⟨g4, 0, none⟩) 3 3]
 c : Blk 49 W (B + 1) (scells C)
 i : Blk 3 W (B + 1 + 1) (icells [0, 0])
 l : ∃ R, o1 = 0 ∧ Blk 49 W g1 (scells L ++ R)
 k : Blk 49 W g4 (scells K)
 E : ∃ R, Blk 59 W gE ([.string joinN, .slice (some ⟨ga, 0, none⟩) nL ca, .string backN, .slice (some ⟨gb, 0, none⟩) 3 cb] ++ R)
 a : ∃ R, Blk 49 W ga (scells N0 ++ R)
 b : ∃ R, Blk 49 W gb (scells N1 ++ R)
 d : Blk 49 W gc (scells C')
 n : OwnT 79 W base (.slice VA nN vc) NL
section
variable {W W' : World} {B g1 o1 nL c1 g4 gE cE ga ca gb cb gc base : Nat} {VA : Option Addr} {nN vc : Nat} {L K N0 N1 C C' NL : List Spot}
theorem PnB.ext (h : PnB W B g1 o1 nL c1 g4 gE cE ga ca gb cb gc base VA nN vc L K N0 N1 C C' NL) (he : Ext W W') : PnB W' B g1 o1 nL c1 g4 gE cE ga ca gb cb gc base VA nN vc L K N0 N1 C C' NL := by
 obtain ⟨Rl, ho, hl⟩ := h.l; obtain ⟨RE, hE⟩ := h.E; obtain ⟨Ra, ha⟩ := h.a; obtain ⟨Rb, hb⟩ := h.b
 exact ⟨h.e.ext he, h.c.ext he, h.i.ext he, ⟨Rl, ho, hl.ext he⟩, h.k.ext he, ⟨RE, hE.ext he⟩, ⟨Ra, ha.ext he⟩, ⟨Rb, hb.ext he⟩, h.d.ext he, own_ext h.n he⟩
theorem PnB.kept {Q : Nat → Prop} (h : PnB W B g1 o1 nL c1 g4 gE cE ga ca gb cb gc base VA nN vc L K N0 N1 C C' NL) (he : Kept Q W W') (hQ : ∀ g, Q g → ∃ cs, Blk 29 W g cs) : PnB W' B g1 o1 nL c1 g4 gE cE ga ca gb cb gc base VA nN vc L K N0 N1 C C' NL := by
 obtain ⟨Rl, ho, hl⟩ := h.l; obtain ⟨RE, hE⟩ := h.E; obtain ⟨Ra, ha⟩ := h.a; obtain ⟨Rb, hb⟩ := h.b
 have n : ∀ {t : TypeId} {g : Nat} {cs : List Value}, Blk t W g cs → t ≠ 29 → ¬ Q g := fun {t g cs} hb ht hK => by
  obtain ⟨cs', hb'⟩ := hQ g hK
  exact hb.ne hb' ht rfl
 refine ⟨he.blk h.e (n h.e (by decide)), he.blk h.c (n h.c (by decide)), he.blk h.i (n h.i (by decide)), ⟨Rl, ho, he.blk hl (n hl (by decide))⟩, he.blk h.k (n h.k (by decide)), ⟨RE, he.blk hE (n hE (by decide))⟩, ⟨Ra, he.blk ha (n ha (by decide))⟩, ⟨Rb, he.blk hb (n hb (by decide))⟩, he.blk h.d (n h.d (by decide)), own_kept h.n he (fun k hk hK => ?_)⟩
 obtain ⟨cs', hb'⟩ := hQ k hK
 exact own_blk_ne h.n hb' (by decide) hk
theorem PnB.pcA (h : PnB W B g1 o1 nL c1 g4 gE cE ga ca gb cb gc base VA nN vc L K N0 N1 C C' NL) (hL : L.length = nL) (h1 : nL ≤ c1 ∧ c1 ≤ 9223372036854775807) (hK : K.length = 3) (hC : C.length = 2) (hN : NL.length = nN) (hn : nN ≤ 4) :
  PcAt W ⟨oneN, some ⟨B, 0, none⟩, 2, 2, 1, VA, nN, vc, some ⟨B + 1, 0, none⟩, 2, 2, some ⟨B + 1 + 1, 0, none⟩, 2, 2, false⟩ ⟨[(joinN, L), (backN, K)], C, [0, 0], NL⟩ := by
 obtain ⟨Rl, rfl, hl⟩ := h.l
 refine ⟨edges_two (n0 := nL) (c0 := c1) (n1 := 3) (c1 := 3) (R := []) (by simpa using h.e) (spots_pre hl) (spots_pre (R := []) (by simpa using h.k)) hL hK h1 ⟨Nat.le_refl _, Nat.le_of_ble_eq_true rfl⟩, rfl, Nat.le_refl _, Nat.le_of_ble_eq_true rfl, spots_pre (R := []) (by simpa using h.c), hC, Nat.le_of_ble_eq_true rfl, ints_blk h.i, rfl, (OwnT.plain h.n).2, hN, ?_, Nat.le_of_ble_eq_true rfl⟩
 show nN ≤ 9223372036854775807
 omega
theorem PnB.pcB (h : PnB W B g1 o1 nL c1 g4 gE cE ga ca gb cb gc base VA nN vc L K N0 N1 C C' NL) (hL : N0.length = nL) (hE : 2 ≤ cE ∧ cE ≤ 9223372036854775807) (h1 : nL ≤ ca ∧ ca ≤ 9223372036854775807) (hK : N1.length = 3) (h3 : 3 ≤ cb ∧ cb ≤ 9223372036854775807) (hC : C'.length = 2) (hN : NL.length = nN) (hn : nN ≤ 4) :
  PcAt W ⟨twoN, some ⟨gE, 0, none⟩, 2, cE, 1, VA, nN, vc, some ⟨gc, 0, none⟩, 2, 2, some ⟨B + 1 + 1, 0, none⟩, 2, 2, false⟩ ⟨[(joinN, N0), (backN, N1)], C', [0, 0], NL⟩ := by
 obtain ⟨RE, hE'⟩ := h.E; obtain ⟨Ra, ha⟩ := h.a; obtain ⟨Rb, hb⟩ := h.b
 refine ⟨edges_two hE' (spots_pre ha) (spots_pre hb) hL hK h1 h3, rfl, hE.1, hE.2, spots_pre (R := []) (by simpa using h.d), hC, Nat.le_of_ble_eq_true rfl, ints_blk h.i, rfl, (OwnT.plain h.n).2, hN, ?_, Nat.le_of_ble_eq_true rfl⟩
 show nN ≤ 9223372036854775807
 omega
end
theorem strs_own {w : World} {base : Nat} {A : Option Addr} {n c m : Nat} {l : List ByteArray} (h : w.ownsRow base 9 1 (.slice A n c) m (l.map fun s => Value.string s)) : StrsAt w A l := by
 intro k hk
 have hm : 0 < n := by
  rcases h.2 with ⟨e, h0⟩ | ⟨g, cap, cur, e, _⟩
  ·have := h.1; rw [h0, List.length_map] at this; omega
  ·injection e with e1 e2 e3
   subst e2
   have := h.1; rw [List.length_map] at this
   rcases h.2 with ⟨e, h0⟩ | ⟨_, _, _, e', _⟩
   ·omega
   ·injection e' with e1 e2 e3; omega
 obtain ⟨g, R, rfl, _, _, hB, _⟩ := own_blk h hm
 refine ⟨g, 0, rfl, ?_⟩
 rw [Nat.zero_add, hB.cell, List.getElem?_append_left (by simpa using hk), gB_eq hk]
 simp [hk]
theorem pn_sty {W : World} {x : JX} {a b : PcA} {D base nM cS cM : Nat} {AS AM : Option Addr} (hP : Blk 40 W D (a.cells ++ b.cells)) (ha : PcAt W a x.p) (hb : PcAt W b (imP x.q x.mv x.p)) (na : a.nm = oneN) (ga : a.gr = 1) (nb : b.nm = twoN) (gb : b.gr = 1)
  (hU : Blk 69 W (D + 1) [.int .i64 0, .int .i64 1, .bool false, .int .i64 1, .int .i64 1, .bool false]) (hS : Blk 71 W (D + 1 + 1) [.int .i64 0, .int .i64 0, .int .i64 1, .int .i64 0, .bool false, .int .i64 0])
  (hs : W.ownsRow base 9 1 (.slice AS nM cS) nM (((List.range nM).map sizeN).map fun s => Value.string s)) (hcS : nM ≤ cS) (hm : OwnI W base (.slice AM nM cM) x.ms) (hl : x.ms.length = nM) (h5 : nM ≤ 5) :
  StyXAt W ⟨pairN, AS, nM, cS, AM, nM, cM, some ⟨D, 0, none⟩, 2, 2, some ⟨D + 1, 0, none⟩, 2, 2, some ⟨D + 1 + 1, 0, none⟩, 1, 1, none, 0, 0⟩ x.s := by
 have hnM : nM ≤ 9223372036854775807 := by omega
 refine ⟨rfl, ?_, (OwnI.plain hm).2.1, fun k hk => ?_, fun k hk => ?_, fun k hk => ?_, ?_, hl, rfl, rfl, rfl, rfl, hnM, hnM, Nat.le_of_ble_eq_true rfl, Nat.le_of_ble_eq_true rfl, Nat.le_of_ble_eq_true rfl, Nat.le_of_ble_eq_true rfl, Nat.le_refl _, hcS⟩
 ·show StrsAt W AS ((List.range x.ms.length).map sizeN)
  rw [hl]; exact strs_own hs
 ·match k, hk with
  |0, _ => exact ⟨D, 0, a, rfl, ha, ⟨hP.cell 0, hP.cell 1, hP.cell 2, hP.cell 3, hP.cell 4, hP.cell 5, hP.cell 6⟩, na, ga⟩
  |1, _ => exact ⟨D, 0, b, rfl, hb, ⟨hP.cell 7, hP.cell 8, hP.cell 9, hP.cell 10, hP.cell 11, hP.cell 12, hP.cell 13⟩, nb, gb⟩
 ·match k, hk with
  |0, _ => exact ⟨D + 1, 0, rfl, hU.cell 0, hU.cell 1, hU.cell 2⟩
  |1, _ => exact ⟨D + 1, 0, rfl, hU.cell 3, hU.cell 4, hU.cell 5⟩
 ·match k, hk with
  |0, _ => exact ⟨D + 1 + 1, 0, rfl, ⟨hS.cell 0, hS.cell 1, hS.cell 2, hS.cell 3, hS.cell 4, hS.cell 5⟩⟩
 ·show ((List.range x.ms.length).map sizeN).length = nM
  rw [List.length_map, List.length_range, hl]
end Go.Proofs.YtfegbaokcbjllaaGreat
