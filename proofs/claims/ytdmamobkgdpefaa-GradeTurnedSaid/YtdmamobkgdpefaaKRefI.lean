/- the reference: garmentref21.Turned -/
import Derived.Deep.CutRange
import Derived.Deep.RegionHeld3
import Derived.Test.YtdmamobkgdpefaaKRefG
import Derived.Test.YtdmamobkgdpefaaKRefF
import Derived.Test.YtdmamobkgdpefaaKTurned
import Derived.Test.YtdmamobkgdpefaaKPut7
import Derived.Test.YtdmamobkgdpefaaKStepC
namespace Go.Proofs.Ytdmamobkgdpefaa
open Go.RowKit
theorem Kept.grown {K : Nat → Prop} {a b c : World} {row : Option Nat} (h : Kept K a b) (hg : b.grownBy c row) (hr : ∀ k, row = some k → a.heap.size ≤ k ∨ K k) : Kept K a c :=
  ⟨hg.os.trans h.os, hg.tape.trans h.tape, hg.output.trans h.output, Nat.le_trans h.size hg.size, fun i hi hn => (hg.block i (Nat.lt_of_lt_of_le hi h.size) (fun e => by rcases hr i e.symm with q | q; omega; exact hn q)).trans (h.block i hi hn)⟩
/- behind an append to a field of a piece of the call's own -/
theorem field_fin {wc W wn : World} {ob j size n : Nat} {t : TypeId} {V v : Value} {pc xs : List Value} (ht : t ≠ 27) (hQ : Blk 27 W ob pc) (hv : ∃ s m ys, W.ownsRow wc.heap.size t s V m ys) (hg : W.grownBy wn V.ownBlock)
    (ho : wn.ownsRow wc.heap.size t size v n xs) (hk : Kept (fun k => k = ob) wc W) :
    Blk 27 (wn.setCell ⟨ob, j, none⟩ v) ob (pc.set j v) ∧ (wn.setCell ⟨ob, j, none⟩ v).ownsRow wc.heap.size t size v n xs ∧ Kept (fun k => k = ob) wc (wn.setCell ⟨ob, j, none⟩ v) := by
  obtain ⟨s, m, ys, hv⟩ := hv
  have h1 : V.ownBlock ≠ some ob := own_blk_ne hv hQ ht
  have hQ' : Blk 27 wn ob pc := (hg.block _ hQ.lt (Ne.symm h1)).trans hQ
  exact ⟨hQ'.set j v, own_set ho (own_blk_ne ho hQ' ht) v, (hk.grown hg (fun g hg' => .inl (own_ge hv hg'))).set (.inr rfl) v⟩
def cornI (f : Bool) (nC nE k : Nat) : Nat := if f = true ∧ nC = nE then (nE - k + 1) % nE else k
def widI (f : Bool) (nW nE k : Nat) : Nat := if f = true ∧ nW = nE then (nE - k) % nE else k
theorem cornI_lt {f : Bool} {nC nE k : Nat} (h : k < nC) : cornI f nC nE k < nC := by
  unfold cornI
  split
  · rename_i h'; rw [h'.2]; exact Nat.mod_lt _ (by omega)
  · exact h
theorem widI_lt {f : Bool} {nC nE k : Nat} (h : k < nC) : widI f nC nE k < nC := by
  unfold widI
  split
  · rename_i h'; rw [h'.2]; exact Nat.mod_lt _ (by omega)
  · exact h
theorem turnC_at (f : Bool) (q : Int) {cs : List Spot} {n k : Nat} (hk : k < cs.length) : gS (turnC f q n cs) k = applyT f q (gS cs (cornI f cs.length n k)) := by
  unfold turnC cornI
  cases f
  · rw [if_neg (by decide), if_neg (by simp), gS_map hk]
  · rw [if_pos rfl]
    unfold mirC
    by_cases hn : cs.length = n
    · rw [if_pos (by simpa using hn), if_pos ⟨rfl, hn⟩, mixS_get (by simpa using hk), if_pos (by omega)]
      unfold mirCF
      rw [gS_map (Nat.lt_of_lt_of_eq (Nat.mod_lt _ (by omega)) hn.symm)]
    · rw [if_neg (by simpa using hn), if_neg (by simp [hn]), gS_map hk]
theorem turnW_at (f : Bool) {ws : List Int} {n k : Nat} (hk : k < ws.length) : gI (turnW f n ws) k = gI ws (widI f ws.length n k) := by
  unfold turnW widI
  cases f
  · rw [if_neg (by decide), if_neg (by simp)]
  · rw [if_pos rfl]
    unfold mirW
    by_cases hn : ws.length = n
    · rw [if_pos hn, if_pos ⟨rfl, hn⟩, mixI_get hk, if_pos (by omega)]; rfl
    · rw [if_neg hn, if_neg (by simp [hn])]
theorem turnNs_at (f : Bool) (es : List Edge) {ns : List Spot} {k : Nat} (hk : k < ns.length) : gS (turnNs f es ns) k = if f = true then flipN es (gS ns k) else gS ns k := by
  unfold turnNs
  split
  · unfold mirNs; rw [mixS_get hk, if_pos hk]; rfl
  · rfl
theorem turnC_length (f : Bool) (q : Int) (n : Nat) (cs : List Spot) : (turnC f q n cs).length = cs.length := by
  unfold turnC; split
  · unfold mirC; split <;> simp [mixS_len]
  · simp
theorem turnW_length (f : Bool) (n : Nat) (ws : List Int) : (turnW f n ws).length = ws.length := by
  unfold turnW; split
  · unfold mirW; split <;> simp [mixI_len]
  · rfl
theorem turnNs_length (f : Bool) (es : List Edge) (ns : List Spot) : (turnNs f es ns).length = ns.length := by
  unfold turnNs; split
  · unfold mirNs; simp [mixS_len]
  · rfl
theorem gS_take_succ {l : List Spot} {k : Nat} (h : k < l.length) : l.take (k + 1) = l.take k ++ [gS l k] := by rw [gS_eq h]; exact take_succ l k h
theorem gI_take_succ {l : List Int} {k : Nat} (h : k < l.length) : l.take (k + 1) = l.take k ++ [gI l k] := by rw [gI_eq h]; exact take_succ l k h
set_option maxRecDepth 100000 in
set_option maxHeartbeats 3200000 in
theorem rturnedP_any (nm : ByteArray) (AE AN AC AW : Option Addr) (nE cE nN cN nC cC nW cW : Nat) (gr : Int) (mt f : Bool) (q : Int) (es : List Edge) (cs : List Spot) (ws : List Int) (ns : List Spot) (w : World)
    (hE : EdgesAt w AE es) (hlE : es.length = nE) (hnE : nE ≤ 1000) (hlen : ∀ k, k < nE → (gE es k).2.length ≤ 1000) (hC : SpotsAt w AC cs) (hlC : cs.length = nC) (hnC : nC ≤ 1000)
    (hW : IntsAt w AW ws) (hlW : ws.length = nW) (hnW : nW ≤ 1000) (hN : SpotsAt w AN ns) (hlN : ns.length = nN) (hnN : nN ≤ 1000) :
    Calls Try.prog 14 #[.agg #[.string nm, .slice AE nE cE, .int .i64 gr, .slice AN nN cN, .slice AC nC cC, .slice AW nW cW, .bool mt], TV f q] w (RetT w nm gr mt (turnE f q es) (turnC f q nE cs) (turnW f nE ws) (turnNs f es ns)) := by
  have HLE := Lib.hid hlE; clear hlE
  have HLC := Lib.hid hlC; clear hlC
  have HLW := Lib.hid hlW; clear hlW
  have HLN := Lib.hid hlN; clear hlN
  have HE := Lib.hid hE; clear hE
  have HC := Lib.hid hC; clear hC
  have HW := Lib.hid hW; clear hW
  have HN := Lib.hid hN; clear hN
  have HLEN := Lib.hid hlen; clear hlen
  go_enter Try.func14, Try.ntmps14
  go_upto_region 1 with fail
  refine wp_at fun W0 hW0 => ?_
  have hP : Blk 27 W0 w.heap.size [.string nm, .slice AE nE cE, .int .i64 gr, .slice AN nN cN, .slice AC nC cC, .slice AW nW cW, .bool mt] := by rw [hW0]; exact ((Blk.new' rfl).ext ((Ext.refl _).alloc _)).ext ((Ext.refl _).alloc _)
  have hT : Blk 29 W0 (w.heap.size + 1) [.bool f, .int .i64 q] := by rw [hW0]; exact (Blk.new' (by simp)).ext ((Ext.refl _).alloc _)
  have hS : Blk 27 W0 (w.heap.size + 1 + 1) [.string ⟨#[]⟩, .slice none 0 0, .int .i64 0, .slice none 0 0, .slice none 0 0, .slice none 0 0, .bool false] := by rw [hW0]; exact Blk.new' (by simp)
  have hx0 : Ext w W0 := by rw [hW0]; exact (((Ext.refl _).alloc _).alloc _).alloc _
  have hsz : W0.heap.size = w.heap.size + 3 := by rw [hW0]; simp
  have HP := Lib.hid hP; have HT := Lib.hid hT; have HS := Lib.hid hS; have HX0 := Lib.hid hx0; have HSZ := Lib.hid hsz
  clear hW0 hP hT hS hx0 hsz
  go_cut [5] from 13 (fun p wc => ∃ ob vE, p = .pointer (some ⟨ob, 0, none⟩) ∧ w.heap.size + 3 ≤ ob ∧ Blk 27 wc ob [.string nm, vE, .int .i64 gr, .slice none 0 0, .slice none 0 0, .slice none 0 0, .bool mt] ∧ OwnE wc w.heap.size vE (turnE f q es) ∧ Ext W0 wc)
  case first =>
    have keep : ∀ W1 : World, Ext W0 W1 → (Ext W0 W1 ∧ W1.cell? ⟨w.heap.size, 0, none⟩ = some (.string nm) ∧ W1.cell? ⟨w.heap.size, 1, none⟩ = some (.slice AE nE cE) ∧ W1.cell? ⟨w.heap.size, 2, none⟩ = some (.int .i64 gr) ∧ W1.cell? ⟨w.heap.size, 6, none⟩ = some (.bool mt) ∧ W1.cell? ⟨w.heap.size + 1, 0, none⟩ = some (.bool f) ∧ W1.cell? ⟨w.heap.size + 1, 1, none⟩ = some (.int .i64 q)) := fun W1 hx => by
      obtain ⟨p0, p1, p2, p3, p4, p5, p6⟩ := blk7 (HP.out.ext hx)
      obtain ⟨t0, t1⟩ := blk2 (HT.out.ext hx)
      exact ⟨hx, p0, p1, p2, p6, t0, t1⟩
    have KEEP := Lib.hid keep; clear keep
    have getw : ∀ W : World, (Ext W0 W ∧ W.cell? ⟨w.heap.size, 0, none⟩ = some (.string nm) ∧ W.cell? ⟨w.heap.size, 1, none⟩ = some (.slice AE nE cE) ∧ W.cell? ⟨w.heap.size, 2, none⟩ = some (.int .i64 gr) ∧ W.cell? ⟨w.heap.size, 6, none⟩ = some (.bool mt) ∧ W.cell? ⟨w.heap.size + 1, 0, none⟩ = some (.bool f) ∧ W.cell? ⟨w.heap.size + 1, 1, none⟩ = some (.int .i64 q)) → Ext W0 W := fun W h => h.1
    have GETW := Lib.hid getw; clear getw
    go_region_held3 (fun W => Ext W0 W ∧ W.cell? ⟨w.heap.size, 0, none⟩ = some (.string nm) ∧ W.cell? ⟨w.heap.size, 1, none⟩ = some (.slice AE nE cE) ∧ W.cell? ⟨w.heap.size, 2, none⟩ = some (.int .i64 gr) ∧ W.cell? ⟨w.heap.size, 6, none⟩ = some (.bool mt) ∧ W.cell? ⟨w.heap.size + 1, 0, none⟩ = some (.bool f) ∧ W.cell? ⟨w.heap.size + 1, 1, none⟩ = some (.int .i64 q))
      (first | (with_reducible exact KEEP.out _ (ext_set7 hx1 _ _ _ _ _ _ _)) | (with_reducible assumption) | (with_reducible exact KEEP.out _ (Ext.drew (Ext.refl _))) | (with_reducible exact KEEP.out _ hx1) | (with_reducible exact KEEP.out _ (Ext.drew (Ext.alloc (Ext.refl _) _))) | (with_reducible exact KEEP.out _ (Ext.alloc hx1 _)) | (with_reducible exact KEEP.out _ (Ext.alloc (GETW.out _ ‹_›) _)) | fail)
      (first
        | (go_at_call 35; (with_reducible refine (rturned_any AE nE cE f q es W0.drew (HE.out.ext HX0.out.drew) HLE.out hnE HLEN.out).mono ?_); rintro e w1 ⟨vE, rfl, hoE, he1⟩; have hx1 : Ext W0 w1 := (Ext.drew (Ext.refl _)).trans he1; obtain ⟨EE, cEE, hvE, _, _, _⟩ := OwnE.slice' hoE (n := nE) (by rw [turnE_len]; exact HLE.out); subst hvE; have HOE := Lib.hid hoE; clear hoE)
        | (go_at_call 35; (with_reducible refine (rturned_any AE nE cE f q es (W0.alloc (.cells #[.string ⟨#[]⟩, .slice none 0 0, .int .i64 0, .slice none 0 0, .slice none 0 0, .slice none 0 0, .bool false] 27)).drew (HE.out.ext (HX0.out.alloc _).drew) HLE.out hnE HLEN.out).mono ?_); rintro e w1 ⟨vE, rfl, hoE, he1⟩; have hx1 : Ext W0 w1 := (Ext.drew (Ext.alloc (Ext.refl _) _)).trans he1; obtain ⟨EE, cEE, hvE, _, _, _⟩ := OwnE.slice' hoE (n := nE) (by rw [turnE_len]; exact HLE.out); subst hvE; have HOE := Lib.hid hoE; clear hoE; have hB1 : Blk 27 w1 W0.heap.size [.string ⟨#[]⟩, .slice none 0 0, .int .i64 0, .slice none 0 0, .slice none 0 0, .slice none 0 0, .bool false] := Blk.ext (Blk.ext (Blk.new' rfl) (Ext.drew (Ext.refl _))) he1; obtain ⟨s0, s1, s2, s3, s4, s5, s6⟩ := blk7 hB1; have e0 := hB1.frozen 0; have e1 := hB1.frozen 1; have e2 := hB1.frozen 2; have e3 := hB1.frozen 3; have e4 := hB1.frozen 4; have e5 := hB1.frozen 5; have e6 := hB1.frozen 6; have HB1 := Lib.hid hB1; clear hB1)
        | fail)
    all_goals
      go_wp2_with fail
      go_meet
    case rel =>
      refine ⟨w1.heap.size, .slice EE nE cEE, rfl, ?_, ?_, ?_, ?_⟩
      · have := hx1.size; have := HSZ.out; omega
      · exact Blk.new' rfl
      · exact OwnE.ext (HOE.out.base_le (by have := HX0.out.size; simp; omega)) ((Ext.refl _).alloc _)
      · exact hx1.alloc _
    case rel =>
      refine ⟨W0.heap.size, .slice EE nE cEE, rfl, ?_, ?_, ?_, ?_⟩
      · have := HSZ.out; omega
      · exact Blk.put7 ⟨_, _, _, _, _, _, _, HB1.out⟩ _ _ _ _ _ _ _
      · exact OwnE.kept (HOE.out.base_le (by have := HX0.out.size; simp; omega)) (kept_put7 _ _ _ _ _ _ _) (fun b _ h => by subst h; exact ⟨_, _, HB1.out, by decide, by decide⟩)
      · exact ext_set7 hx1 _ _ _ _ _ _ _
  case rest =>
    obtain ⟨wb, rfl⟩ : ∃ wb : World, wb = wc := ⟨_, rfl⟩
    obtain ⟨ob, vE, hob, hobl, hB, hoE, hxc⟩ := hcut
    obtain ⟨EE, cEE, hvE, _, _, _⟩ := OwnE.slice' hoE (n := nE) (by rw [turnE_len]; exact HLE.out)
    subst hvE
    subst hob
    have HB := Lib.hid hB; have HOE := Lib.hid hoE; have HXC := Lib.hid (HX0.out.trans hxc)
    have HPc := Lib.hid (HP.out.ext hxc); have HTc := Lib.hid (HT.out.ext hxc); have HSc := Lib.hid (HS.out.ext hxc)
    clear hB hoE hxc
    have hobs : ob < wb.heap.size := HB.out.lt
    obtain ⟨_, p1, _, _, _, _, _⟩ := blk7 HPc.out
    go_wp2_with fail
    clear p1
    have HKX : Hid (∀ wr, Kept (fun k => k = ob) wb wr → Ext w wr) := fun wr h => h.ext HXC.out (fun k hk => by omega)
    obtain ⟨i0, hi0, hz0, hz1, hz2⟩ := info_parts spot_info
    have hpo : ¬ w.heap.size = ob := by omega
    have hto : ¬ w.heap.size + 1 = ob := by omega
    have hso : ¬ w.heap.size + 1 + 1 = ob := by omega
    have HPO := Lib.hid hpo; have HTO := Lib.hid hto; have HSO := Lib.hid hso; clear hpo hto hso
    go_loopw [7] (fun i wr => ∃ (k : Nat) (v : Value), k ≤ nC ∧ i = .int .i64 k ∧ Blk 27 wr ob [.string nm, .slice EE nE cEE, .int .i64 gr, .slice none 0 0, v, .slice none 0 0, .bool mt] ∧ OwnT 42 wr wb.heap.size v ((turnC f q nE cs).take k) ∧ Kept (fun k => k = ob) wb wr) (fun i _ => nC - (intOf i).toNat)
    case atStart => exact ⟨0, _, Nat.zero_le _, rfl, HB.out, World.ownsRow_nil _ _ _ _, Kept.refl _ _⟩
    case round =>
      obtain ⟨k, v, hk, rfl, hQ, hO, hK⟩ := hrel
      obtain ⟨VA, vc, hvf⟩ := OwnT.form2 hO
      subst hvf
      have hXw := HKX.out _ hK
      have HXw := Lib.hid hXw; clear hXw
      have HQ := Lib.hid hQ; have HO := Lib.hid hO; have HK := Lib.hid hK; clear hQ hO hK
      have HPr := Lib.hid (HK.out.blk HPc.out HPO.out); have HTr := Lib.hid (HK.out.blk HTc.out HTO.out)
      obtain ⟨_, _, _, _, p4, p5, _⟩ := blk7 HPr.out
      by_cases hlt : k < nC
      · obtain ⟨t0, t1⟩ := blk2 HTr.out
        obtain ⟨LK, hLK⟩ : ∃ LK, LK = (turnC f q nE cs).take k := ⟨_, rfl⟩
        rw [← hLK] at HO HQ
        have hLKl : LK.length ≤ 1000 := by rw [hLK, List.length_take]; omega
        have HLK := Lib.hid hLK; clear hLK
        go_upto_region 7 with fail
        go_cut [43] from 27 to 61 (fun cc wc => cc = .bool (f && decide (nC = nE)) ∧ wc = wr)
        case first =>
          cases f
          · go_wp2_with fail
            go_meet
            case rel => exact ⟨rfl, rfl⟩
          · by_cases hn : nC = nE
            · have hnb : ((nC : Int) == nE) = true := by simp; omega
              go_wp2_with fail
              go_meet
              case rel => exact ⟨by simp [hn], rfl⟩
            · have hnb : ((nC : Int) == nE) = false := by simp; omega
              go_wp2_with fail
              go_meet
              case rel => exact ⟨by simp [hn], rfl⟩
        case rest =>
          obtain ⟨h43, hwc⟩ := hcut
          subst h43 hwc
          go_upto_if 43 with fail
          go_cut [8] from 27 to 61 (fun kk wc' => kk = .int .i64 (cornI f nC nE k : Nat) ∧ wc' = wc)
          case first =>
            cases hb : (f && decide (nC = nE))
            · have HI : Hid (cornI f nC nE k = k) := by
                show _ = _
                unfold cornI
                rw [if_neg (by rintro ⟨h1, h2⟩; rw [h1, h2] at hb; simp at hb)]
              go_wp2_with fail
              go_meet
              case rel => exact ⟨by rw [HI.out], rfl⟩
            · have hb' : f = true ∧ nC = nE := by simpa using hb
              have HI : Hid (cornI f nC nE k = (nE - k + 1) % nE) := by show _ = _; unfold cornI; rw [if_pos hb']
              have hnz : ((nE : Int) == 0) = false := by simp; omega
              have hnp : 0 < nE := by omega
              have hn0 : 0 ≤ (nE : Int) - k + 1 := by omega
              have HM : Hid (((nE : Int) - k + 1) % nE = (((nE - k + 1) % nE : Nat) : Int)) := by show _ = _; rw [Int.natCast_emod]; congr 1; omega
              clear hb hb'
              go_wp2_with fail
              go_meet
              case rel => exact ⟨by rw [HI.out, HM.out], rfl⟩
          case rest =>
            obtain ⟨h8, hwc2⟩ := hcut
            subst h8 hwc2
            obtain ⟨wz, rfl⟩ : ∃ wz : World, wz = wc := ⟨_, rfl⟩
            obtain ⟨j, hj⟩ : ∃ j, j = cornI f nC nE k := ⟨_, rfl⟩
            have hjn : j < nC := by rw [hj]; exact cornI_lt hlt
            rw [← hj]
            have HJ := Lib.hid hj; clear hj
            obtain ⟨b, off, hA, c0, c1⟩ := HC.out.g (k := j) (by rw [HLC.out]; exact hjn)
            subst hA
            have hbl : b < w.heap.size := cell_lt c0
            have c0' := HXw.out.cell c0
            have c1' := HXw.out.cell c1
            obtain ⟨_, _, _, _, q4, _, _⟩ := blk7 HQ.out
            have fq4 := HQ.out.frozen 4
            have hpl : w.heap.size < wz.heap.size := HPr.out.lt
            have hol : ob < wz.heap.size := HQ.out.lt
            have hcl : wb.heap.size ≤ wz.heap.size := HK.out.size
            have start : Ext w wz ∧ wz.cell? ⟨w.heap.size + 1, 0, none⟩ = some (.bool f) ∧ wz.cell? ⟨w.heap.size + 1, 1, none⟩ = some (.int .i64 q) ∧ wz.cell? ⟨w.heap.size, 4, none⟩ = some (.slice (some ⟨b, off, none⟩) nC cC) ∧ wz.cell? ⟨b, off + j * 2, none⟩ = some (.int .i64 (gS cs j).1) ∧ wz.cell? ⟨b, off + j * 2 + 1, none⟩ = some (.int .i64 (gS cs j).2) := ⟨HXw.out, t0, t1, p4, c0', c1'⟩
            have START := Lib.hid start
            have keep : ∀ W W1 : World, (Ext w W ∧ W.cell? ⟨w.heap.size + 1, 0, none⟩ = some (.bool f) ∧ W.cell? ⟨w.heap.size + 1, 1, none⟩ = some (.int .i64 q) ∧ W.cell? ⟨w.heap.size, 4, none⟩ = some (.slice (some ⟨b, off, none⟩) nC cC) ∧ W.cell? ⟨b, off + j * 2, none⟩ = some (.int .i64 (gS cs j).1) ∧ W.cell? ⟨b, off + j * 2 + 1, none⟩ = some (.int .i64 (gS cs j).2)) → Ext W W1 → (Ext w W1 ∧ W1.cell? ⟨w.heap.size + 1, 0, none⟩ = some (.bool f) ∧ W1.cell? ⟨w.heap.size + 1, 1, none⟩ = some (.int .i64 q) ∧ W1.cell? ⟨w.heap.size, 4, none⟩ = some (.slice (some ⟨b, off, none⟩) nC cC) ∧ W1.cell? ⟨b, off + j * 2, none⟩ = some (.int .i64 (gS cs j).1) ∧ W1.cell? ⟨b, off + j * 2 + 1, none⟩ = some (.int .i64 (gS cs j).2)) := fun W W1 ⟨h0, h1, h2, h3, h4, h5⟩ hy => ⟨h0.trans hy, hy.cell h1, hy.cell h2, hy.cell h3, hy.cell h4, hy.cell h5⟩
            have KEEP := Lib.hid keep
            have keepb : ∀ (W W1 : World) (r : Nat → Prop), (Ext w W ∧ W.cell? ⟨w.heap.size + 1, 0, none⟩ = some (.bool f) ∧ W.cell? ⟨w.heap.size + 1, 1, none⟩ = some (.int .i64 q) ∧ W.cell? ⟨w.heap.size, 4, none⟩ = some (.slice (some ⟨b, off, none⟩) nC cC) ∧ W.cell? ⟨b, off + j * 2, none⟩ = some (.int .i64 (gS cs j).1) ∧ W.cell? ⟨b, off + j * 2 + 1, none⟩ = some (.int .i64 (gS cs j).2)) → (∀ x, x < W.heap.size → ¬ r x → W1.heap[x]? = W.heap[x]?) → (∀ x, r x → w.heap.size + 1 < x) → Ext w W1 → (Ext w W1 ∧ W1.cell? ⟨w.heap.size + 1, 0, none⟩ = some (.bool f) ∧ W1.cell? ⟨w.heap.size + 1, 1, none⟩ = some (.int .i64 q) ∧ W1.cell? ⟨w.heap.size, 4, none⟩ = some (.slice (some ⟨b, off, none⟩) nC cC) ∧ W1.cell? ⟨b, off + j * 2, none⟩ = some (.int .i64 (gS cs j).1) ∧ W1.cell? ⟨b, off + j * 2 + 1, none⟩ = some (.int .i64 (gS cs j).2)) := fun W W1 r ⟨h0, h1, h2, h3, h4, h5⟩ hg hr hy =>
              ⟨hy, (World.cell?_of_block (hg (w.heap.size + 1) (cell_lt h1) (fun h => by have := hr _ h; omega))).trans h1, (World.cell?_of_block (hg (w.heap.size + 1) (cell_lt h2) (fun h => by have := hr _ h; omega))).trans h2, (World.cell?_of_block (hg w.heap.size (cell_lt h3) (fun h => by have := hr _ h; omega))).trans h3, (World.cell?_of_block (hg b (cell_lt h4) (fun h => by have := hr _ h; omega))).trans h4, (World.cell?_of_block (hg b (cell_lt h5) (fun h => by have := hr _ h; omega))).trans h5⟩
            have keepg : ∀ W W1 : World, (Ext w W ∧ W.cell? ⟨w.heap.size + 1, 0, none⟩ = some (.bool f) ∧ W.cell? ⟨w.heap.size + 1, 1, none⟩ = some (.int .i64 q) ∧ W.cell? ⟨w.heap.size, 4, none⟩ = some (.slice (some ⟨b, off, none⟩) nC cC) ∧ W.cell? ⟨b, off + j * 2, none⟩ = some (.int .i64 (gS cs j).1) ∧ W.cell? ⟨b, off + j * 2 + 1, none⟩ = some (.int .i64 (gS cs j).2)) → W.grownBy W1 (Value.ownBlock (.slice VA LK.length vc)) → (Ext w W1 ∧ W1.cell? ⟨w.heap.size + 1, 0, none⟩ = some (.bool f) ∧ W1.cell? ⟨w.heap.size + 1, 1, none⟩ = some (.int .i64 q) ∧ W1.cell? ⟨w.heap.size, 4, none⟩ = some (.slice (some ⟨b, off, none⟩) nC cC) ∧ W1.cell? ⟨b, off + j * 2, none⟩ = some (.int .i64 (gS cs j).1) ∧ W1.cell? ⟨b, off + j * 2 + 1, none⟩ = some (.int .i64 (gS cs j).2)) := fun W W1 h hg =>
              keepb W W1 (fun x => Value.ownBlock (.slice VA LK.length vc) = some x) h (fun x hx hn => hg.block x hx (fun e => hn e.symm)) (fun x hx => by have := own_ge HO.out hx; omega) (h.1.grown hg (fun g hg' => by have := own_ge HO.out hg'; omega))
            have KEEPG := Lib.hid keepg
            have keeps : ∀ (W : World) (u : Value), (Ext w W ∧ W.cell? ⟨w.heap.size + 1, 0, none⟩ = some (.bool f) ∧ W.cell? ⟨w.heap.size + 1, 1, none⟩ = some (.int .i64 q) ∧ W.cell? ⟨w.heap.size, 4, none⟩ = some (.slice (some ⟨b, off, none⟩) nC cC) ∧ W.cell? ⟨b, off + j * 2, none⟩ = some (.int .i64 (gS cs j).1) ∧ W.cell? ⟨b, off + j * 2 + 1, none⟩ = some (.int .i64 (gS cs j).2)) → (Ext w (W.setCell ⟨ob, 4, none⟩ u) ∧ (W.setCell ⟨ob, 4, none⟩ u).cell? ⟨w.heap.size + 1, 0, none⟩ = some (.bool f) ∧ (W.setCell ⟨ob, 4, none⟩ u).cell? ⟨w.heap.size + 1, 1, none⟩ = some (.int .i64 q) ∧ (W.setCell ⟨ob, 4, none⟩ u).cell? ⟨w.heap.size, 4, none⟩ = some (.slice (some ⟨b, off, none⟩) nC cC) ∧ (W.setCell ⟨ob, 4, none⟩ u).cell? ⟨b, off + j * 2, none⟩ = some (.int .i64 (gS cs j).1) ∧ (W.setCell ⟨ob, 4, none⟩ u).cell? ⟨b, off + j * 2 + 1, none⟩ = some (.int .i64 (gS cs j).2)) := fun W u h =>
              keepb W _ (fun x => x = ob) h (fun x hx hn => Below.heap_setCell W _ u x hn) (fun x hx => by omega) (h.1.setCell (by simp; omega) u)
            have KEEPS := Lib.hid keeps
            have H63 : Hid (LK.length + 1 ≤ maxLen) := by show _ ≤ _; unfold maxLen; omega
            have H64 : Hid ((LK.length + 1) * 16 ≤ 140737488355328) := by show _ ≤ _; omega
            clear start keep keepg keeps keepb c0 c1 p5
            go_wp2_with fail
            go_region_law (first
                | (refine step_append_lies _ (by rfl) (.tmp 51) (.tmp 59) 24 (by rfl) wb.heap.size 42 i0 (.agg #[.int .i64 0, .int .i64 0]) 2 16 Try.underlying24 hi0 hz0 hz1 hz2 rfl (by decide) (.slice VA LK.length vc) LK.length (scells LK) (by rfl)
                     (own_ext HO.out (Ext.alloc (Ext.trans (Ext.drew (Ext.refl _)) hxa) _)) ⟨wa.heap.size, 0, none⟩ 1 1 [.int .i64 (applyT f q (gS cs j)).1, .int .i64 (applyT f q (gS cs j)).2] (by rfl) (by rfl)
                     (World.news_of_block (cs := #[.int .i64 (applyT f q (gS cs j)).1, .int .i64 (applyT f q (gS cs j)).2]) (t := 42) (fr := (0, 0)) (heap_alloc_new wa _)) (by simp [Value.oneCell']) (by decide) H63.out H64.out
                     (Nat.le_trans hcl (Ext.size (Ext.alloc (Ext.trans (Ext.drew (Ext.refl wz)) hxa) _))) (wa.heap.size + 1) (by simp) ?_
                   intro gg cap wn hown1 hgrow hat hltn
                   have CH : Hid (Ext wz (wa.alloc (.cells #[.int .i64 (applyT f q (gS cs j)).1, .int .i64 (applyT f q (gS cs j)).2] 42))) := Ext.alloc (Ext.trans (Ext.drew (Ext.refl wz)) hxa) _
                   have HQn := Lib.hid ((hgrow.block _ (HQ.out.ext CH.out).lt (Ne.symm (own_blk_ne HO.out HQ.out (by decide)))).trans (HQ.out.ext CH.out))
                   have y4 := Blk.cell HQn.out 4
                   have yf := Blk.frozen HQn.out 4
                   simp only [List.getElem?_cons_succ, List.getElem?_cons_zero] at y4)
                | (refine step_call rfl 28 [.tmp 52, .tmp 57] #[29, 42] rfl _ Try.func28 rfl (by decide +kernel) [TV f q, SV (gS cs j)] rfl (rapply_any f q (gS cs j) _) ?_; intro wa hxa; have q4a := Ext.cell (Ext.trans (Ext.drew (Ext.refl wz)) hxa) q4; have hola : ob < wa.heap.size := cell_lt q4a)
                | fail)
            all_goals
              have HFIN := Lib.hid (field_fin (wc := wb) (j := 4) (by decide) (HQ.out.ext CH.out) ⟨_, _, _, own_ext HO.out CH.out⟩ hgrow hown1 (HK.out.trans (CH.out.kept _)))
              clear hown1 hgrow hat hltn y4 yf
              go_wp2_with fail
              refine ⟨⟨k + 1, .slice (some ⟨gg, 0, none⟩) (LK.length + 1) cap, by omega, by go_num, ?_, ?_, HFIN.out.2.2⟩, by simp [intOf]; omega⟩
              · exact HFIN.out.1
              · have hkc : k < cs.length := by rw [HLC.out]; exact hlt
                rw [gS_take_succ (by rw [turnC_length]; exact hkc), turnC_at f q hkc, HLC.out, ← HJ.out, ← HLK.out]
                unfold OwnT
                rw [List.length_append, scells_append]
                exact HFIN.out.2.1
      · obtain rfl : k = nC := by omega
        have hT : (turnC f q nE cs).take k = turnC f q nE cs := List.take_of_length_le (by rw [turnC_length, HLC.out]; omega)
        have hL : (turnC f q nE cs).length = k := by rw [turnC_length, HLC.out]
        have hO1 := HO.out
        have hQ1 := HQ.out
        rw [hT, hL] at hQ1 hO1
        have HO1 := Lib.hid hO1; have HQ1 := Lib.hid hQ1; clear hO1 hQ1 hT hL HO HQ
        have HK1 := Lib.hid HK.out
        go_wp2_with fail
        clear p4 p5
        obtain ⟨n0, hn0, hw0, hw1, hw2⟩ := info_parts int_info
        go_loopw [9] (fun i wr => ∃ (j : Nat) (v : Value), j ≤ nW ∧ i = .int .i64 j ∧ Blk 27 wr ob [.string nm, .slice EE nE cEE, .int .i64 gr, .slice none 0 0, .slice VA k vc, v, .bool mt] ∧ OwnT 42 wr wb.heap.size (.slice VA k vc) (turnC f q nE cs) ∧ OwnI wr wb.heap.size v ((turnW f nE ws).take j) ∧ Kept (fun k => k = ob) wb wr) (fun i _ => nW - (intOf i).toNat)
        case atStart => exact ⟨0, _, Nat.zero_le _, rfl, HQ1.out, HO1.out, World.ownsRow_nil _ _ _ _, HK1.out⟩
        case round =>
          clear HQ1 HO1 HK1 HPr HTr HXw HK
          obtain ⟨wq, rfl⟩ : ∃ wq : World, wq = wr := ⟨_, rfl⟩
          obtain ⟨j, v, hj, rfl, hQ, hOC, hO, hK⟩ := hrel
          obtain ⟨VB, vd, hvf, _, _, _⟩ := OwnI.slice hO
          subst hvf
          have HXw := Lib.hid (HKX.out _ hK)
          have HQ := Lib.hid hQ; have HO := Lib.hid hO; have HOC := Lib.hid hOC; have HK := Lib.hid hK; clear hQ hO hOC hK
          have HPr := Lib.hid (HK.out.blk HPc.out HPO.out); have HTr := Lib.hid (HK.out.blk HTc.out HTO.out)
          obtain ⟨_, _, _, p3, _, p5, _⟩ := blk7 HPr.out
          by_cases hlt : j < nW
          · obtain ⟨t0, t1⟩ := blk2 HTr.out
            obtain ⟨LK, hLK⟩ : ∃ LK, LK = (turnW f nE ws).take j := ⟨_, rfl⟩
            rw [← hLK] at HO HQ
            have hLKl : LK.length ≤ 1000 := by rw [hLK, List.length_take]; omega
            have HLK := Lib.hid hLK; clear hLK
            go_upto_region 14 with fail
            go_cut [78] from 62 to 93 (fun cc wc => cc = .bool (f && decide (nW = nE)) ∧ wc = wq)
            case first =>
              cases f
              · go_wp2_with fail
                go_meet
                case rel => exact ⟨rfl, rfl⟩
              · by_cases hn : nW = nE
                · have hnb : ((nW : Int) == nE) = true := by simp; omega
                  go_wp2_with fail
                  go_meet
                  case rel => exact ⟨by simp [hn], rfl⟩
                · have hnb : ((nW : Int) == nE) = false := by simp; omega
                  go_wp2_with fail
                  go_meet
                  case rel => exact ⟨by simp [hn], rfl⟩
            case rest =>
              obtain ⟨h43, hwc⟩ := hcut
              subst h43 hwc
              go_upto_if 78 with fail
              go_cut [10] from 62 to 93 (fun kk wc' => kk = .int .i64 (widI f nW nE j : Nat) ∧ wc' = wc)
              case first =>
                cases hb : (f && decide (nW = nE))
                · have HI : Hid (widI f nW nE j = j) := by
                    show _ = _
                    unfold widI
                    rw [if_neg (by rintro ⟨h1, h2⟩; rw [h1, h2] at hb; simp at hb)]
                  go_wp2_with fail
                  go_meet
                  case rel => exact ⟨by rw [HI.out], rfl⟩
                · have hb' : f = true ∧ nW = nE := by simpa using hb
                  have HI : Hid (widI f nW nE j = (nE - j) % nE) := by show _ = _; unfold widI; rw [if_pos hb']
                  have hnz : ((nE : Int) == 0) = false := by simp; omega
                  have hnp : 0 < nE := by omega
                  have hn0 : 0 ≤ (nE : Int) - j := by omega
                  have HM := Lib.hid (sub_mod_facts nE j (by omega))
                  clear hb hb'
                  go_wp2_with fail
                  go_meet
                  case rel => exact ⟨by rw [HI.out]; congr 1; first | exact HM.out.2 | exact HM.out.1, rfl⟩
              case rest =>
                obtain ⟨h8, hwc2⟩ := hcut
                subst h8 hwc2
                obtain ⟨wz, rfl⟩ : ∃ wz : World, wz = wc := ⟨_, rfl⟩
                obtain ⟨m, hm⟩ : ∃ m, m = widI f nW nE j := ⟨_, rfl⟩
                have hmn : m < nW := by rw [hm]; exact widI_lt hlt
                rw [← hm]
                have HM := Lib.hid hm; clear hm
                obtain ⟨b, off, hA, c0⟩ := HW.out.g (k := m) (by rw [HLW.out]; exact hmn)
                subst hA
                obtain ⟨X, hX⟩ : ∃ X, X = gI ws m := ⟨_, rfl⟩
                rw [← hX] at c0
                have HX := Lib.hid hX; clear hX
                have hbl : b < w.heap.size := cell_lt c0
                have c0' := HXw.out.cell c0
                obtain ⟨_, _, _, _, _, q5, _⟩ := blk7 HQ.out
                have fq5 := HQ.out.frozen 5
                have hpl : w.heap.size < wz.heap.size := HPr.out.lt
                have hol : ob < wz.heap.size := HQ.out.lt
                have hcl : wb.heap.size ≤ wz.heap.size := HK.out.size
                have start : Ext w wz ∧ wz.cell? ⟨w.heap.size, 5, none⟩ = some (.slice (some ⟨b, off, none⟩) nW cW) ∧ wz.cell? ⟨b, off + m, none⟩ = some (.int .i64 X) := ⟨HXw.out, p5, c0'⟩
                have START := Lib.hid start
                have keep : ∀ W W1 : World, (Ext w W ∧ W.cell? ⟨w.heap.size, 5, none⟩ = some (.slice (some ⟨b, off, none⟩) nW cW) ∧ W.cell? ⟨b, off + m, none⟩ = some (.int .i64 X)) → Ext W W1 → (Ext w W1 ∧ W1.cell? ⟨w.heap.size, 5, none⟩ = some (.slice (some ⟨b, off, none⟩) nW cW) ∧ W1.cell? ⟨b, off + m, none⟩ = some (.int .i64 X)) := fun W W1 ⟨h0, h1, h2⟩ hy => ⟨h0.trans hy, hy.cell h1, hy.cell h2⟩
                have KEEP := Lib.hid keep
                have keepb : ∀ (W W1 : World) (r : Nat → Prop), (Ext w W ∧ W.cell? ⟨w.heap.size, 5, none⟩ = some (.slice (some ⟨b, off, none⟩) nW cW) ∧ W.cell? ⟨b, off + m, none⟩ = some (.int .i64 X)) → (∀ x, x < W.heap.size → ¬ r x → W1.heap[x]? = W.heap[x]?) → (∀ x, r x → w.heap.size + 1 < x) → Ext w W1 → (Ext w W1 ∧ W1.cell? ⟨w.heap.size, 5, none⟩ = some (.slice (some ⟨b, off, none⟩) nW cW) ∧ W1.cell? ⟨b, off + m, none⟩ = some (.int .i64 X)) := fun W W1 r ⟨h0, h1, h2⟩ hg hr hy =>
                  ⟨hy, (World.cell?_of_block (hg w.heap.size (cell_lt h1) (fun h => by have := hr _ h; omega))).trans h1, (World.cell?_of_block (hg b (cell_lt h2) (fun h => by have := hr _ h; omega))).trans h2⟩
                have keepg : ∀ W W1 : World, (Ext w W ∧ W.cell? ⟨w.heap.size, 5, none⟩ = some (.slice (some ⟨b, off, none⟩) nW cW) ∧ W.cell? ⟨b, off + m, none⟩ = some (.int .i64 X)) → W.grownBy W1 (Value.ownBlock (.slice VB LK.length vd)) → (Ext w W1 ∧ W1.cell? ⟨w.heap.size, 5, none⟩ = some (.slice (some ⟨b, off, none⟩) nW cW) ∧ W1.cell? ⟨b, off + m, none⟩ = some (.int .i64 X)) := fun W W1 h hg =>
                  keepb W W1 (fun x => Value.ownBlock (.slice VB LK.length vd) = some x) h (fun x hx hn => hg.block x hx (fun e => hn e.symm)) (fun x hx => by have := own_ge HO.out hx; omega) (h.1.grown hg (fun g hg' => by have := own_ge HO.out hg'; omega))
                have KEEPG := Lib.hid keepg
                have keeps : ∀ (W : World) (u : Value), (Ext w W ∧ W.cell? ⟨w.heap.size, 5, none⟩ = some (.slice (some ⟨b, off, none⟩) nW cW) ∧ W.cell? ⟨b, off + m, none⟩ = some (.int .i64 X)) → (Ext w (W.setCell ⟨ob, 5, none⟩ u) ∧ (W.setCell ⟨ob, 5, none⟩ u).cell? ⟨w.heap.size, 5, none⟩ = some (.slice (some ⟨b, off, none⟩) nW cW) ∧ (W.setCell ⟨ob, 5, none⟩ u).cell? ⟨b, off + m, none⟩ = some (.int .i64 X)) := fun W u h =>
                  keepb W _ (fun x => x = ob) h (fun x hx hn => Below.heap_setCell W _ u x hn) (fun x hx => by omega) (h.1.setCell (by simp; omega) u)
                have KEEPS := Lib.hid keeps
                have H63 : Hid (LK.length + 1 ≤ maxLen) := by show _ ≤ _; unfold maxLen; omega
                have H64 : Hid ((LK.length + 1) * 8 ≤ 140737488355328) := by show _ ≤ _; omega
                have CH : Hid (Ext wz (wz.alloc (.cells #[.int .i64 X] 3)).drew) := Ext.drew (Ext.alloc (Ext.refl wz) _)
                clear start keep keepg keeps keepb c0 t0 t1 p3
                go_wp2_with fail
                go_region_law (first
                    | (refine step_append_lies _ (by rfl) (.tmp 85) (.tmp 91) 25 (by rfl) wb.heap.size 3 n0 (.int .i64 0) 1 8 Try.underlying25 hn0 hw0 hw1 hw2 rfl (by decide) (.slice VB LK.length vd) LK.length (icells LK) (by rfl)
                         (own_ext HO.out CH.out) ⟨wz.heap.size, 0, none⟩ 1 1 [.int .i64 X] (by rfl) (by rfl)
                         (World.news_of_block (cs := #[.int .i64 X]) (t := 3) (fr := (0, 0)) (heap_alloc_new wz _)) (by simp [Value.oneCell']) (by decide) H63.out H64.out
                         (Nat.le_trans hcl (Ext.size CH.out)) (wz.heap.size + 1) (by simp) ?_
                       intro gg cap wn hown1 hgrow hat hltn
                       have HQn := Lib.hid ((hgrow.block _ (HQ.out.ext CH.out).lt (Ne.symm (own_blk_ne HO.out HQ.out (by decide)))).trans (HQ.out.ext CH.out))
                       have y5 := Blk.cell HQn.out 5
                       have yf := Blk.frozen HQn.out 5
                       simp only [List.getElem?_cons_succ, List.getElem?_cons_zero] at y5)
                    | fail)
                all_goals
                  have HFIN := Lib.hid (field_fin (wc := wb) (j := 5) (by decide) (HQ.out.ext CH.out) ⟨_, _, _, own_ext HO.out CH.out⟩ hgrow hown1 (HK.out.trans (CH.out.kept _)))
                  have HOC1 := Lib.hid (own_set (World.ownsRow.kept (own_ext HOC.out CH.out) hgrow (own_ne (own_ext HOC.out CH.out) (own_ext HO.out CH.out) (by decide))) (p := ⟨ob, 5, none⟩) (own_blk_ne (World.ownsRow.kept (own_ext HOC.out CH.out) hgrow (own_ne (own_ext HOC.out CH.out) (own_ext HO.out CH.out) (by decide))) HQn.out (by decide)) (.slice (some ⟨gg, 0, none⟩) (LK.length + 1) cap))
                  clear hown1 hgrow hat hltn y5 yf
                  go_wp2_with fail
                  refine ⟨⟨j + 1, .slice (some ⟨gg, 0, none⟩) (LK.length + 1) cap, by omega, by go_num, HFIN.out.1, HOC1.out, ?_, HFIN.out.2.2⟩, by simp [intOf]; omega⟩
                  have hkc : j < ws.length := by rw [HLW.out]; exact hlt
                  rw [gI_take_succ (by rw [turnW_length]; exact hkc), turnW_at f hkc, HLW.out, ← HM.out, ← HLK.out, ← HX.out]
                  unfold OwnI icells
                  rw [List.length_append, List.map_append]
                  exact HFIN.out.2.1
          · obtain rfl : j = nW := by omega
            have hT : (turnW f nE ws).take j = turnW f nE ws := List.take_of_length_le (by rw [turnW_length, HLW.out]; omega)
            have hL : (turnW f nE ws).length = j := by rw [turnW_length, HLW.out]
            have hO1 := HO.out
            have hQ1 := HQ.out
            rw [hT, hL] at hQ1 hO1
            have HO1 := Lib.hid hO1; have HQ1 := Lib.hid hQ1; clear hO1 hQ1 hT hL HO HQ
            have HK1 := Lib.hid HK.out; have HOC1 := Lib.hid HOC.out
            go_wp2_with fail
            clear p3 p5
            obtain ⟨m0, hm0, hv0, hv1, hv2⟩ := info_parts notch_info
            go_loopw [11] (fun i wr => ∃ (l : Nat) (v : Value), l ≤ nN ∧ i = .int .i64 l ∧ Blk 27 wr ob [.string nm, .slice EE nE cEE, .int .i64 gr, v, .slice VA k vc, .slice VB j vd, .bool mt] ∧ OwnT 42 wr wb.heap.size (.slice VA k vc) (turnC f q nE cs) ∧ OwnI wr wb.heap.size (.slice VB j vd) (turnW f nE ws) ∧ OwnT 76 wr wb.heap.size v ((turnNs f es ns).take l) ∧ Kept (fun k => k = ob) wb wr) (fun i _ => nN - (intOf i).toNat)
            case atStart => exact ⟨0, _, Nat.zero_le _, rfl, HQ1.out, HOC1.out, HO1.out, World.ownsRow_nil _ _ _ _, HK1.out⟩
            case round =>
              clear HQ1 HO1 HK1 HPr HTr HXw HK HOC HOC1
              obtain ⟨wt, rfl⟩ : ∃ wt : World, wt = wr := ⟨_, rfl⟩
              obtain ⟨l, v, hl, rfl, hQ, hOC, hOI, hO, hK⟩ := hrel
              obtain ⟨VN, ve, hvf⟩ := OwnT.form2 hO
              subst hvf
              have HXw := Lib.hid (HKX.out _ hK)
              have HQ := Lib.hid hQ; have HO := Lib.hid hO; have HOC := Lib.hid hOC; have HOI := Lib.hid hOI; have HK := Lib.hid hK; clear hQ hO hOC hOI hK
              have HPr := Lib.hid (HK.out.blk HPc.out HPO.out); have HTr := Lib.hid (HK.out.blk HTc.out HTO.out)
              obtain ⟨_, p1, _, p3, _, _, _⟩ := blk7 HPr.out
              by_cases hlt : l < nN
              · obtain ⟨t0, t1⟩ := blk2 HTr.out
                obtain ⟨LK, hLK⟩ : ∃ LK, LK = (turnNs f es ns).take l := ⟨_, rfl⟩
                rw [← hLK] at HO HQ
                have hLKl : LK.length ≤ 1000 := by rw [hLK, List.length_take]; omega
                have HLK := Lib.hid hLK; clear hLK
                obtain ⟨b, off, hA, c0, c1⟩ := (HN.out.ext HXw.out).g (k := l) (by rw [HLN.out]; exact hlt)
                subst hA
                obtain ⟨x0, hx0⟩ : ∃ x0, x0 = (gS ns l).1 := ⟨_, rfl⟩
                obtain ⟨x1, hx1⟩ : ∃ x1, x1 = (gS ns l).2 := ⟨_, rfl⟩
                rw [← hx0] at c0
                rw [← hx1] at c1
                obtain ⟨Y, hY⟩ : ∃ Y, Y = gS (turnNs f es ns) l := ⟨_, rfl⟩
                have hY1 : Y = if f = true then flipN es (x0, x1) else (x0, x1) := by
                  rw [hY, turnNs_at f es (by rw [HLN.out]; exact hlt), hx0, hx1]
                have HY := Lib.hid hY; have HY1 := Lib.hid hY1; clear hx0 hx1 hY hY1
                have hpl : w.heap.size + 1 < wt.heap.size := HTr.out.lt
                have hpl0 : w.heap.size < wt.heap.size := by omega
                have hol : ob < wt.heap.size := HQ.out.lt
                have hcl : wb.heap.size ≤ wt.heap.size := HK.out.size
                go_upto_if 107 with fail
                go_cut [] from 94 to 117 (fun wc => Blk 76 wc wt.heap.size [.int .i64 Y.1, .int .i64 Y.2] ∧ Ext wt wc)
                case first =>
                  cases f
                  · have HYf : Hid (Y = (x0, x1)) := HY1.out
                    go_wp2_with fail
                    go_meet
                    case rel => exact ⟨by rw [HYf.out]; exact Blk.new' rfl, (Ext.refl _).alloc _⟩
                  · have HYf : Hid (Y = flipN es (x0, x1)) := HY1.out
                    go_wp2_with fail
                    refine (flipped_any AE nE cE x0 x1 es _ ((HE.out.ext HXw.out).ext ((Ext.refl _).alloc _)) HLE.out hnE).mono ?_
                    rintro e w1 ⟨rfl, he1⟩
                    have hB : Blk 76 w1 wt.heap.size [.int .i64 x0, .int .i64 x1] := (Blk.new' rfl).ext he1
                    have hx : Ext wt w1 := ((Ext.refl _).alloc _).trans he1
                    rw [← HYf.out]
                    obtain ⟨d0, d1⟩ := blk2 hB
                    have f0 := hB.frozen 0
                    have f1 := hB.frozen 1
                    have HBX := Lib.hid hB; have HXX := Lib.hid hx; clear hB hx he1
                    go_wp2_with fail
                    go_meet
                    case rel =>
                      refine ⟨?_, (HXX.out.setCell (by simp) _).setCell (by simp) _⟩
                      have h := (HBX.out.set 0 (.int .i64 Y.1)).set 1 (.int .i64 Y.2)
                      exact h
                case rest =>
                  obtain ⟨hBx, hxc⟩ := hcut
                  obtain ⟨x0', x1'⟩ := blk2 hBx
                  have HBX := Lib.hid hBx; have HXX := Lib.hid hxc; clear hBx hxc c0 c1 t0 t1 p1 p3
                  obtain ⟨wz, rfl⟩ : ∃ wz : World, wz = wc := ⟨_, rfl⟩
                  have HQz := Lib.hid (HQ.out.ext HXX.out)
                  obtain ⟨_, _, _, q3, _, _, _⟩ := blk7 HQz.out
                  have CH : Hid (Ext wt (wz.alloc (.cells #[.int .i64 Y.1, .int .i64 Y.2] 76))) := Ext.alloc HXX.out _
                  have hcz : wb.heap.size ≤ wz.heap.size := Nat.le_trans hcl HXX.out.size
                  have holz : ob < wz.heap.size := HQz.out.lt
                  have HOW := Lib.hid (own_ext HO.out CH.out)
                  have HNE : Hid (Value.ownBlock (.slice VN LK.length ve) ≠ some ob) := own_blk_ne HO.out HQ.out (by decide)
                  go_wp2_with (at_builtin; refine wpList_append_lies _ rfl (.tmp 113) (.tmp 115) 23 rfl wb.heap.size 76 m0 (.agg #[.int .i64 0, .int .i64 0]) 2 16 Try.underlying23 hm0 hv0 hv1 hv2 rfl (by decide) (.slice VN LK.length ve) LK.length (scells LK) rfl HOW.out ⟨wz.heap.size, 0, none⟩ 1 1 [.int .i64 Y.1, .int .i64 Y.2] rfl ?c1 ?c2 ?c3 ?c4 ?c5 ?c6 ?c7 (wz.heap.size + 1) ?c8 ?_)
                  case c1 => rfl
                  case c2 => exact World.news_of_block (cs := #[.int .i64 Y.1, .int .i64 Y.2]) (t := 76) (fr := (0, 0)) (heap_alloc_new wz _)
                  case c3 => simp [Value.oneCell']
                  case c4 => omega
                  case c5 => unfold maxLen; omega
                  case c6 => omega
                  case c7 => simp; omega
                  case c8 => simp
                  intro gg cap wn hown1 hgrow hat hltn
                  have HQn := Lib.hid ((hgrow.block _ (HQ.out.ext CH.out).lt (Ne.symm HNE.out)).trans (HQ.out.ext CH.out))
                  have y3 := Blk.cell HQn.out 3
                  have yf := Blk.frozen HQn.out 3
                  simp only [List.getElem?_cons_succ, List.getElem?_cons_zero] at y3
                  have HFIN := Lib.hid (field_fin (wc := wb) (j := 3) (by decide) (HQ.out.ext CH.out) ⟨_, _, _, own_ext HO.out CH.out⟩ hgrow hown1 (HK.out.trans (CH.out.kept _)))
                  have HOC0 := Lib.hid (World.ownsRow.kept (own_ext HOC.out CH.out) hgrow (own_ne (own_ext HOC.out CH.out) HOW.out (by decide)))
                  have HOC1 := Lib.hid (own_set HOC0.out (p := ⟨ob, 3, none⟩) (own_blk_ne HOC0.out HQn.out (by decide)) (.slice (some ⟨gg, 0, none⟩) (LK.length + 1) cap))
                  have HOI0 := Lib.hid (World.ownsRow.kept (own_ext HOI.out CH.out) hgrow (own_ne (own_ext HOI.out CH.out) HOW.out (by decide)))
                  have HOI1 := Lib.hid (own_set HOI0.out (p := ⟨ob, 3, none⟩) (own_blk_ne HOI0.out HQn.out (by decide)) (.slice (some ⟨gg, 0, none⟩) (LK.length + 1) cap))
                  clear hown1 hgrow hat hltn q3 x0' x1'
                  go_wp2_with fail
                  go_roundw
                  case rel =>
                    refine ⟨l + 1, .slice (some ⟨gg, 0, none⟩) (LK.length + 1) cap, by omega, by go_num, HFIN.out.1, HOC1.out, HOI1.out, ?_, HFIN.out.2.2⟩
                    rw [gS_take_succ (by rw [turnNs_length, HLN.out]; exact hlt), ← HLK.out, ← HY.out]
                    unfold OwnT
                    rw [List.length_append, scells_append]
                    exact HFIN.out.2.1
                  case measure => simp [intOf]; omega
              · obtain rfl : l = nN := by omega
                have hT : (turnNs f es ns).take l = turnNs f es ns := List.take_of_length_le (by rw [turnNs_length, HLN.out]; omega)
                have hL : (turnNs f es ns).length = l := by rw [turnNs_length, HLN.out]
                have hO1 := HO.out
                have hQ1 := HQ.out
                rw [hT, hL] at hQ1 hO1
                have HO1 := Lib.hid hO1; have HQ1 := Lib.hid hQ1; clear hO1 hQ1 hT hL HO HQ
                have HSr := Lib.hid (HK.out.blk HSc.out HSO.out)
                obtain ⟨q0, q1, q2, q3, q4, q5, q6⟩ := blk7 HQ1.out
                obtain ⟨s0, s1, s2, s3, s4, s5, s6⟩ := blk7 HSr.out
                have e0 := HSr.out.frozen 0
                have e1 := HSr.out.frozen 1
                have e2 := HSr.out.frozen 2
                have e3 := HSr.out.frozen 3
                have e4 := HSr.out.frozen 4
                have e5 := HSr.out.frozen 5
                have e6 := HSr.out.frozen 6
                have HOE1 := Lib.hid (HOE.out.kept HK.out (fun b _ h => by subst h; exact ⟨_, _, HB.out, by decide, by decide⟩))
                clear p1
                go_wp2_with fail
                refine bodyPost_ret (v := .agg #[.string nm, .slice EE nE cEE, .int .i64 gr, .slice VN l ve, .slice VA k vc, .slice VB j vd, .bool mt]) (by simp [results, Try.results14, go_sem, s0, s1, s2, s3, s4, s5, s6]) rfl ?_
                refine retT_of (W8 := wt) (sb := w.heap.size + 1 + 1) ?_ HSr.out HOE1.out (HOC.out.base_le HXC.out.size) (own_base_le HOI.out HXC.out.size) (HO1.out.base_le HXC.out.size) HXw.out (by omega)
                exact kset (kset (kset (kset (kset (kset (kset (Kept.refl _ _) _ _) _ _) _ _) _ _) _ _) _ _) _ _
end Go.Proofs.Ytdmamobkgdpefaa
