/- the reference: garmentref20.Turned -/
import Derived.Deep.CutRange
import Derived.Test.YtdmamobkgdpefaaKRefE
import Derived.Test.YtdmamobkgdpefaaKTurnQ
namespace Go.Proofs.Ytdmamobkgdpefaa
open Go.RowKit
set_option maxRecDepth 100000 in
set_option maxHeartbeats 3200000 in
theorem rturned_any (A : Option Addr) (n c : Nat) (f : Bool) (q : Int) (l : List Edge) (w : World) (ha : EdgesAt w A l) (hl : l.length = n) (hn : n ≤ 1000) (hlen : ∀ k, k < n → (gE l k).2.length ≤ 1000) :
    Calls Try.prog 35 #[.slice A n c, TV f q] w (RetE w (turnE f q l)) := by
  have HL := Lib.hid hl; clear hl
  have HA := Lib.hid ha; clear ha
  have HN := Lib.hid hlen; clear hlen
  obtain ⟨e0, he0', hy0, hy1, hy2⟩ := info_parts edge_info
  go_enter Try.func35, Try.ntmps35
  go_wp2_with fail
  refine wp_at fun W0 hW0 => ?_
  have hT : Blk 29 W0 w.heap.size [.bool f, .int .i64 q] := by rw [hW0]; exact Blk.new' rfl
  have hx0 : Ext w W0 := by rw [hW0]; exact (Ext.refl _).alloc _
  clear hW0
  go_loopw [5, 6] (fun v i wr => ∃ k : Nat, k ≤ n ∧ i = .int .i64 k ∧ Blk 29 wr w.heap.size [.bool f, .int .i64 q] ∧ OwnE wr (w.heap.size + 1) v ((turnE f q l).take k) ∧ Ext w wr) (fun _ i _ => n - (intOf i).toNat)
  case atStart => exact ⟨0, Nat.zero_le _, rfl, hT, OwnE.nil _ _, hx0⟩
  case round =>
    clear hT hx0
    obtain ⟨k, hk, rfl, hT, ho, hx⟩ := hrel
    have HT := Lib.hid hT; have HO := Lib.hid ho; have HX := Lib.hid hx; clear hT ho hx
    by_cases hlt : k < n
    · obtain ⟨t0, t1⟩ := blk2 HT.out
      go_upto_region 6 with fail
      go_cut [20] from 8 to 40 (fun cc wc => cc = .bool (f && decide (0 < k)) ∧ wc = wr)
      case first =>
        cases f
        · go_wp2_with fail
          go_meet
          case rel => exact ⟨rfl, rfl⟩
        · by_cases h0 : 0 < k
          · have h0' : (0 : Int) < k := by omega
            go_wp2_with fail
            go_meet
            case rel => exact ⟨by simp [h0], rfl⟩
          · have h0' : ¬ (0 : Int) < k := by omega
            go_wp2_with fail
            go_meet
            case rel => exact ⟨by simp [h0], rfl⟩
      case rest =>
        obtain ⟨h20, hwc⟩ := hcut
        subst h20 hwc
        go_upto_if 20 with fail
        go_cut [7] from 8 to 40 (fun kk wc' => kk = .int .i64 (turnI f n k : Nat) ∧ wc' = wc)
        case first =>
          cases hb : (f && decide (0 < k))
          · have HI : Hid (turnI f n k = k) := by
              show turnI f n k = k
              unfold turnI
              split
              · rename_i hf
                rw [hf] at hb
                simp at hb
                subst hb; simp
              · rfl
            go_wp2_with fail
            go_meet
            case rel => exact ⟨by rw [HI.out], rfl⟩
          · have hb' : f = true ∧ 0 < k := by simpa using hb
            have HI : Hid (turnI f n k = n - k) := by show _ = _; unfold turnI; rw [if_pos hb'.1, Nat.mod_eq_of_lt (by omega)]
            go_wp2_with fail
            go_meet
            case rel => exact ⟨by rw [HI.out]; congr 1; omega, rfl⟩
        case rest =>
          obtain ⟨h7, hwc2⟩ := hcut
          subst h7 hwc2
          obtain ⟨wz, rfl⟩ : ∃ wz : World, wz = wc := ⟨_, rfl⟩
          obtain ⟨j, hj⟩ : ∃ j, j = turnI f n k := ⟨_, rfl⟩
          have hjn : j < n := by rw [hj]; exact turnI_lt hlt
          rw [← hj]
          have HJ := Lib.hid hj; clear hj
          obtain ⟨b, off, L, cL, hA, hc0, hc1, hS, hcL, hcL'⟩ := HA.out.g (k := j) (by rw [HL.out]; exact hjn)
          have hll := HN.out j hjn
          obtain ⟨ln, hln⟩ : ∃ ln, ln = (gE l j).2 := ⟨_, rfl⟩
          obtain ⟨NM, hNM⟩ : ∃ NM, NM = (gE l j).1 := ⟨_, rfl⟩
          rw [← hln] at hc1 hS hll
          rw [← hNM] at hc0
          have HLN := Lib.hid hln; have HNM := Lib.hid hNM; have HS := Lib.hid hS
          have hbl : b < w.heap.size := cell_lt hc0
          have c0' := HX.out.cell hc0
          have c1' := HX.out.cell hc1
          subst hA
          have hwl : w.heap.size + 1 ≤ wz.heap.size := HT.out.lt
          obtain ⟨ps, hps, hor⟩ := HO.out
          have HPS := Lib.hid hps; have HOR := Lib.hid hor
          have start : Ext w wz ∧ wz.cell? ⟨w.heap.size, 0, none⟩ = some (.bool f) ∧ wz.cell? ⟨w.heap.size, 1, none⟩ = some (.int .i64 q) ∧ wz.cell? ⟨b, off + j * 2, none⟩ = some (.string NM) ∧ wz.cell? ⟨b, off + j * 2 + 1, none⟩ = some (.slice L ln.length cL) := ⟨HX.out, t0, t1, c0', c1'⟩
          have START := Lib.hid start
          have keep : ∀ W W1 : World, (Ext w W ∧ W.cell? ⟨w.heap.size, 0, none⟩ = some (.bool f) ∧ W.cell? ⟨w.heap.size, 1, none⟩ = some (.int .i64 q) ∧ W.cell? ⟨b, off + j * 2, none⟩ = some (.string NM) ∧ W.cell? ⟨b, off + j * 2 + 1, none⟩ = some (.slice L ln.length cL)) → Ext W W1 → (Ext w W1 ∧ W1.cell? ⟨w.heap.size, 0, none⟩ = some (.bool f) ∧ W1.cell? ⟨w.heap.size, 1, none⟩ = some (.int .i64 q) ∧ W1.cell? ⟨b, off + j * 2, none⟩ = some (.string NM) ∧ W1.cell? ⟨b, off + j * 2 + 1, none⟩ = some (.slice L ln.length cL)) := fun W W1 ⟨h0, h1, h2, h3, h4⟩ hy => ⟨h0.trans hy, hy.cell h1, hy.cell h2, hy.cell h3, hy.cell h4⟩
          have KEEP := Lib.hid keep
          have getw : ∀ W : World, (Ext w W ∧ W.cell? ⟨w.heap.size, 0, none⟩ = some (.bool f) ∧ W.cell? ⟨w.heap.size, 1, none⟩ = some (.int .i64 q) ∧ W.cell? ⟨b, off + j * 2, none⟩ = some (.string NM) ∧ W.cell? ⟨b, off + j * 2 + 1, none⟩ = some (.slice L ln.length cL)) → Ext w W := fun W h => h.1
          have GETW := Lib.hid getw
          have keepg : ∀ W W1 : World, (Ext w W ∧ W.cell? ⟨w.heap.size, 0, none⟩ = some (.bool f) ∧ W.cell? ⟨w.heap.size, 1, none⟩ = some (.int .i64 q) ∧ W.cell? ⟨b, off + j * 2, none⟩ = some (.string NM) ∧ W.cell? ⟨b, off + j * 2 + 1, none⟩ = some (.slice L ln.length cL)) → W.grownBy W1 u5.ownBlock → (Ext w W1 ∧ W1.cell? ⟨w.heap.size, 0, none⟩ = some (.bool f) ∧ W1.cell? ⟨w.heap.size, 1, none⟩ = some (.int .i64 q) ∧ W1.cell? ⟨b, off + j * 2, none⟩ = some (.string NM) ∧ W1.cell? ⟨b, off + j * 2 + 1, none⟩ = some (.slice L ln.length cL)) := fun W W1 ⟨h0, h1, h2, h3, h4⟩ hg => by
            have hne : ∀ x, x ≤ w.heap.size → some x ≠ u5.ownBlock := fun x hx' e => by have := own_ge HOR.out e.symm; omega
            have hlt' : ∀ x, x ≤ w.heap.size → x < W.heap.size := fun x hx' => by have := cell_lt h1; simp only at this; omega
            exact ⟨h0.grown hg (fun g hg' => by have := own_ge HOR.out hg'; omega), (World.cell?_of_block (hg.block _ (hlt' _ (Nat.le_refl _)) (hne _ (Nat.le_refl _)))).trans h1, (World.cell?_of_block (hg.block _ (hlt' _ (Nat.le_refl _)) (hne _ (Nat.le_refl _)))).trans h2, (World.cell?_of_block (hg.block b (hlt' b (by omega)) (hne b (by omega)))).trans h3, (World.cell?_of_block (hg.block b (hlt' b (by omega)) (hne b (by omega)))).trans h4⟩
          have KEEPG := Lib.hid keepg
          obtain ⟨EL, hEL⟩ : ∃ EL, EL = (turnE f q l).take k := ⟨_, rfl⟩
          rw [← hEL] at HPS HOR
          have hELl : EL.length ≤ 1000 := by rw [hEL, List.length_take]; omega
          have HEL := Lib.hid hEL
          have H63 : Hid (EL.length + 1 ≤ maxLen) := by show _ ≤ _; unfold maxLen; omega
          have H64 : Hid ((EL.length + 1) * 40 ≤ 140737488355328) := by show _ ≤ _; omega
          clear start keep keepg getw hc0 hc1 c0' c1' t0 t1 hps hor hln hNM hS hcL hcL' hEL
          go_wp2_with fail
          go_region_held3 (fun W => Ext w W ∧ W.cell? ⟨w.heap.size, 0, none⟩ = some (.bool f) ∧ W.cell? ⟨w.heap.size, 1, none⟩ = some (.int .i64 q) ∧ W.cell? ⟨b, off + j * 2, none⟩ = some (.string NM) ∧ W.cell? ⟨b, off + j * 2 + 1, none⟩ = some (.slice L ln.length cL))
            (first | assumption | exact KEEP.out wz _ START.out (Ext.drew (Ext.refl _)) | exact KEEP.out _ _ ‹_› ‹_› | exact KEEP.out _ _ ‹_› (Ext.alloc (Ext.refl _) _) | exact KEEPG.out _ _ ‹_› hgrow | fail)
            (first
              | (refine step_append_lies _ (by rfl) (.tmp 25) (.tmp 39) 22 (by rfl) (w.heap.size + 1) 69 e0 (.agg #[.string ⟨#[]⟩, .slice none 0 0]) 2 40 Try.underlying22 he0' hy0 hy1 hy2 rfl (by decide) u5 _ (ecells ps) (by rfl)
                   (own_ext HOR.out (Ext.alloc (Ext.trans (Ext.drew (Ext.refl _)) hxm) _)) ⟨wm.heap.size, 0, none⟩ 1 1 [.string NM, .slice Am ln.length cm] (by rfl) (by rfl)
                   (World.news_of_block (cs := #[.string NM, .slice Am ln.length cm]) (t := 69) (fr := (0, 0)) (heap_alloc_new wm _)) (by simp [Value.oneCell']) (by decide) H63.out H64.out
                   (Nat.le_trans hwl (Ext.size (Ext.alloc (Ext.trans (Ext.drew (Ext.refl wz)) hxm) _))) (wm.heap.size + 1) (by simp) ?_
                 intro gg cap wn hown1 hgrow hat hltn)
              | (go_at_call 59; refine (rline_any L ln.length cL f q ln _ (HS.out.ext (GETW.out _ ‹_›)) rfl hll).mono ?_; rintro e wm ⟨vm, rfl, hom, hxm⟩; obtain ⟨Am, cm, hvm⟩ := hom.form2; rw [turnL_len] at hvm; subst hvm)
              | fail)
          have hch : Ext wz (wm.alloc (.cells #[.string NM, .slice Am ln.length cm] 69)) := Ext.alloc (Ext.trans (Ext.drew (Ext.refl _)) hxm) _
          have hO' : OwnE wn (w.heap.size + 1) (.slice (some ⟨gg, 0, none⟩) (EL.length + 1) cap) ((turnE f q l).take (k + 1)) := by
            have hor1 := own_ext HOR.out hch
            have hp1 := (HPS.out.ext hch).grown hor1 (by decide) hgrow
            have hvm1 : OwnS wn (w.heap.size + 1) (.slice Am ln.length cm) (turnL f q ln) := ((OwnS.ext hom ((Ext.refl _).alloc _)).grown hor1 (by decide) hgrow).base_le (by simpa using hwl)
            rw [turnE_take (by rw [HL.out]; exact hlt), ← HEL.out]
            have e : turnAt f q l k = (NM, turnL f q ln) := by unfold turnAt; rw [HL.out, ← HJ.out, ← HLN.out, ← HNM.out]
            rw [e]
            refine ⟨ps ++ [(NM, .slice Am ln.length cm)], hp1.snoc ⟨rfl, hvm1⟩, ?_⟩
            rw [ecells_append, List.length_append]; exact hown1
          have hxn : Ext w wn := And.left ‹Ext w wn ∧ _›
          have hTn : Blk 29 wn w.heap.size [.bool f, .int .i64 q] := by
            have h1 := HT.out.ext hch
            exact (hgrow.block _ h1.lt (fun e => by have := own_ge HOR.out e.symm; omega)).trans h1
          have HO' := Lib.hid hO'; have HTn := Lib.hid hTn; clear hO' hTn hown1 hgrow hat hltn
          go_wp2_with fail
          exact ⟨⟨k + 1, by omega, by go_num, HTn.out, HO'.out, hxn⟩, by simp [intOf]; omega⟩
    · go_wp2_with fail
      go_ret
      refine ⟨_, rfl, ?_, HX.out⟩
      have h := HO.out
      rw [List.take_of_length_le (by rw [turnE_len, HL.out]; omega)] at h
      exact h.base_le (by omega)
end Go.Proofs.Ytdmamobkgdpefaa
