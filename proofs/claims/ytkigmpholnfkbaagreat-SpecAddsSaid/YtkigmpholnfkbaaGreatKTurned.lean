/- grade.Turned -/
import Derived.Test.YtkigmpholnfkbaaGreatKMirror
import Derived.Test.YtkigmpholnfkbaaGreatKMov
import Derived.Test.YtkigmpholnfkbaaGreatKOTurn
namespace Go.Proofs.YtkigmpholnfkbaaGreat
open Go.RowKit
def turnC (f : Bool) (q : Int) (n : Nat) (cs : List Spot) : List Spot := if f = true then mirC n (cs.map (applyT f q)) else cs.map (applyT f q)
def turnW (f : Bool) (n : Nat) (ws : List Int) : List Int := if f = true then mirW n ws else ws
def turnNs (f : Bool) (es : List Edge) (ns : List Spot) : List Spot := if f = true then mirNs es ns else ns
def RetT (w : World) (nm : ByteArray) (gr : Int) (mt : Bool) (E : List Edge) (C : List Spot) (I : List Int) (N : List Spot) (e : Ending) (w' : World) : Prop :=
  ∃ vE vC vW vN, e = .returned (.agg #[.string nm, vE, .int .i64 gr, vN, vC, vW, .bool mt]) ∧ OwnE w' w.heap.size vE E ∧ OwnT 62 w' w.heap.size vC C ∧ OwnI w' w.heap.size vW I ∧ OwnT 95 w' w.heap.size vN N ∧ Ext w w'
theorem mixS_map {f : Spot → Spot} {cs : List Spot} {L : List Spot} (h : L.length = cs.length) : mixS (fun p => f (gS cs p)) L cs.length = cs.map f :=
  list_ext_gS (by rw [mixS_len, List.length_map, h]) fun p hp => by
    rw [mixS_len, h] at hp
    rw [mixS_get (by omega), if_pos hp, gS_eq (l := cs.map f) (by simpa using hp), gS_eq hp]; simp
theorem pair_cells0 {t : TypeId} {w : World} {g : Nat} {L : List Spot} (h : Blk t w g (scells L)) {k : Nat} (hk : k < L.length) :
    w.cell? ⟨g, k * 2, none⟩ = some (.int .i64 (gS L k).1) ∧ w.cell? ⟨g, k * 2 + 1, none⟩ = some (.int .i64 (gS L k).2) ∧ w.frozen? ⟨g, k * 2, none⟩ = false ∧ w.frozen? ⟨g, k * 2 + 1, none⟩ = false := pair_cells (R := []) (by simpa using h) hk
theorem pair_set0 {t : TypeId} {w : World} {g : Nat} {L : List Spot} (h : Blk t w g (scells L)) {k : Nat} (hk : k < L.length) (s : Spot) :
    Blk t ((w.setCell ⟨g, k * 2, none⟩ (.int .i64 s.1)).setCell ⟨g, k * 2 + 1, none⟩ (.int .i64 s.2)) g (scells (L.set k s)) := by
  have := pair_set (R := []) (by simpa using h) hk s
  simpa using this
def turK (w1 : World) (rb k : Nat) : Prop := k = rb ∨ w1.heap.size ≤ k
theorem retT_of {w W8 W9 : World} {sb : Nat} {sc : List Value} {nm : ByteArray} {gr : Int} {mt : Bool} {E : List Edge} {C : List Spot} {I : List Int} {N : List Spot} {vE vC vW vN : Value} (hk : Kept (fun k => k = sb) W8 W9) (hS : Blk 52 W8 sb sc)
    (hE : OwnE W8 w.heap.size vE E) (hC : OwnT 62 W8 w.heap.size vC C) (hI : OwnI W8 w.heap.size vW I) (hN : OwnT 95 W8 w.heap.size vN N) (hx : Ext w W8) (hsb : w.heap.size ≤ sb) :
    RetT w nm gr mt E C I N (.returned (.agg #[.string nm, vE, .int .i64 gr, vN, vC, vW, .bool mt])) W9 := by
  refine ⟨vE, vC, vW, vN, rfl, hE.kept hk (fun b _ h => ?_), own_kept hC hk (fun b hb h => ?_), own_kept hI hk (fun b hb h => ?_), own_kept hN hk (fun b hb h => ?_), hk.ext hx (fun b h => ?_)⟩
  · subst h; exact ⟨_, _, hS, by decide, by decide⟩
  · subst h; exact own_blk_ne hC hS (by decide) hb
  · subst h; exact own_blk_ne hI hS (by decide) hb
  · subst h; exact own_blk_ne hN hS (by decide) hb
  · subst h; exact hsb
set_option maxRecDepth 100000 in
set_option maxHeartbeats 3200000 in
theorem turned_any0 (nm : ByteArray) (AE AN AC AW : Option Addr) (nE cE nN cN nC cC nW cW : Nat) (gr : Int) (mt f : Bool) (q : Int) (es : List Edge) (cs : List Spot) (ws : List Int) (ns : List Spot) (w : World)
    (hE : EdgesAt w AE es) (hlE : es.length = nE) (hnE : nE ≤ 1000) (hlen : ∀ k, k < nE → (gE es k).2.length ≤ 1000) (hC : SpotsAt w AC cs) (hlC : cs.length = nC) (hnC : nC ≤ 1000)
    (hW : IntsAt w AW ws) (hlW : ws.length = nW) (hnW : nW ≤ 1000) (hN : SpotsAt w AN ns) (hlN : ns.length = nN) (hnN : nN ≤ 1000) :
    Calls Tryz.prog 28 #[.agg #[.string nm, .slice AE nE cE, .int .i64 gr, .slice AN nN cN, .slice AC nC cC, .slice AW nW cW, .bool mt], TV f q] w (RetT w nm gr mt (turnE f q es) (turnC f q nE cs) (turnW f nE ws) (turnNs f es ns)) := by
  have HLE := Lib.hid hlE; clear hlE
  have HLC := Lib.hid hlC; clear hlC
  have HLW := Lib.hid hlW; clear hlW
  have HLN := Lib.hid hlN; clear hlN
  have HE := Lib.hid hE; clear hE
  have HC := Lib.hid hC; clear hC
  have HW := Lib.hid hW; clear hW
  have HN := Lib.hid hN; clear hN
  have HLEN := Lib.hid hlen; clear hlen
  have hmk : ∀ W : World, (Instr.makeSlice 50 (.int .i64 (nC : Int)) (.int .i64 (nC : Int))).run Tryz.prog W = .ok (.slice (some ⟨W.heap.size, 0, none⟩) nC nC) (W.alloc (.cells (scells (List.replicate nC (0, 0))).toArray 62)) := fun W => by
    have h := make_spots nC (by omega) W
    rw [made_two] at h
    simpa using h
  obtain ⟨Z, hZ⟩ : ∃ Z, Z = (scells (List.replicate nC (0, 0))).toArray := ⟨_, rfl⟩
  rw [← hZ] at hmk
  have HZ := Lib.hid hZ; clear hZ
  go_enter Tryz.func28, Tryz.ntmps28
  go_wp2_with fail
  refine (oturned_any AE nE cE f q es _ (HE.out.ext (((((Ext.refl _).alloc _).alloc _).alloc _).alloc _)) HLE.out hnE HLEN.out).mono ?_
  rintro e w1 ⟨vE, rfl, hoE, he1⟩
  have hP : Blk 52 w1 w.heap.size [.string nm, .slice AE nE cE, .int .i64 gr, .slice AN nN cN, .slice AC nC cC, .slice AW nW cW, .bool mt] := ((((Blk.new' rfl).ext ((Ext.refl _).alloc _)).ext ((Ext.refl _).alloc _)).ext ((Ext.refl _).alloc _)).ext he1
  have hT : Blk 66 w1 (w.heap.size + 1) [.bool f, .int .i64 q] := (((Blk.new' (by simp)).ext ((Ext.refl _).alloc _)).ext ((Ext.refl _).alloc _)).ext he1
  have hS : Blk 52 w1 (w.heap.size + 1 + 1) [.string ⟨#[]⟩, .slice none 0 0, .int .i64 0, .slice none 0 0, .slice none 0 0, .slice none 0 0, .bool false] := ((Blk.new' (by simp)).ext ((Ext.refl _).alloc _)).ext he1
  have hR : Blk 52 w1 (w.heap.size + 1 + 1 + 1) [.string nm, .slice AE nE cE, .int .i64 gr, .slice AN nN cN, .slice AC nC cC, .slice AW nW cW, .bool mt] := (Blk.new' (by simp)).ext he1
  have hx1 : Ext w w1 := (((((Ext.refl _).alloc _).alloc _).alloc _).alloc _).trans he1
  have hE1 : OwnE w1 w.heap.size vE (turnE f q es) := hoE.base_le (by simp; omega)
  clear he1 hoE
  obtain ⟨EE, cEE, hvE, _, _, _⟩ := hE1.slice
  subst hvE
  rw [turnE_len, HLE.out] at hE1 ⊢
  have HE1 := Lib.hid hE1; clear hE1
  have p4 := hP.cell 4
  have r1 := hR.cell 1
  have fr1 := hR.frozen 1
  have r4 := hR.cell 4
  have fr4 := hR.frozen 4
  simp only [List.getElem?_cons_succ, List.getElem?_cons_zero] at p4 r1 r4
  have hb3 : w.heap.size + 1 + 1 + 1 < w1.heap.size := hR.lt
  have hb0 : w.heap.size < w1.heap.size := hP.lt
  have HP := Lib.hid hP; have HT := Lib.hid hT; have HS := Lib.hid hS; have HR := Lib.hid hR; have HX1 := Lib.hid hx1
  clear hP hT hS hR hx1
  go_wp2_with fail
  refine wp_at fun W2 hW2 => ?_
  have hk2 : Kept (turK w1 (w.heap.size + 1 + 1 + 1)) w1 W2 := by
    rw [hW2]
    exact (((Kept.refl _ _).set (.inr (.inl rfl)) _).set (.inr (.inl rfl)) _).alloc _
  have hr2 : Blk 52 W2 (w.heap.size + 1 + 1 + 1) [.string nm, .slice EE nE cEE, .int .i64 gr, .slice AN nN cN, .slice (some ⟨w1.heap.size, 0, none⟩) nC nC, .slice AW nW cW, .bool mt] := by
    rw [hW2]
    have h := ((HR.out.set 1 (.slice EE nE cEE)).set 4 (.slice (some ⟨w1.heap.size, 0, none⟩) nC nC)).ext ((Ext.refl _).alloc (.cells Z 62))
    simpa using h
  have hg2 : Blk 62 W2 w1.heap.size (scells (List.replicate nC (0, 0))) := by
    rw [hW2, HZ.out]
    exact Blk.new' (by simp [World.setCell])
  clear hW2 p4 r1 fr1 r4 fr4 hmk
  obtain ⟨ZL, hZL⟩ : ∃ ZL, ZL = List.replicate nC ((0, 0) : Spot) := ⟨_, rfl⟩
  rw [← hZL] at hg2
  have hZll : ZL.length = cs.length := by rw [hZL, List.length_replicate, HLC.out]
  have HZL := Lib.hid hZll; clear hZL hZll
  have HEXT : Hid (∀ wr, Kept (turK w1 (w.heap.size + 1 + 1 + 1)) w1 wr → Ext w wr) := fun wr h => h.ext HX1.out (fun k hk => by rcases hk with hk | hk <;> omega)
  have hpK : ¬ turK w1 (w.heap.size + 1 + 1 + 1) w.heap.size := by rintro (h | h) <;> omega
  have htK : ¬ turK w1 (w.heap.size + 1 + 1 + 1) (w.heap.size + 1) := by rintro (h | h) <;> omega
  have hsK : ¬ turK w1 (w.heap.size + 1 + 1 + 1) (w.heap.size + 1 + 1) := by rintro (h | h) <;> omega
  have HPK := Lib.hid hpK; have HTK := Lib.hid htK; have HSK := Lib.hid hsK; clear hpK htK hsK
  go_loopw [22] (fun i wr => ∃ k : Nat, k ≤ nC ∧ i = .int .i64 k ∧ Kept (turK w1 (w.heap.size + 1 + 1 + 1)) w1 wr ∧ Blk 52 wr (w.heap.size + 1 + 1 + 1) [.string nm, .slice EE nE cEE, .int .i64 gr, .slice AN nN cN, .slice (some ⟨w1.heap.size, 0, none⟩) nC nC, .slice AW nW cW, .bool mt] ∧ Blk 62 wr w1.heap.size (scells (mixS (fun p => applyT f q (gS cs p)) ZL k))) (fun i _ => nC - (intOf i).toNat)
  case atStart => exact ⟨0, Nat.zero_le _, rfl, hk2, hr2, by rw [mixS_zero]; exact hg2⟩
  case round =>
    clear hk2 hr2 hg2
    obtain ⟨k, hk, rfl, hkw, hr, hg⟩ := hrel
    have HKW := Lib.hid hkw; have HRR := Lib.hid hr; have HG := Lib.hid hg; clear hkw hr hg
    by_cases hlt : k < nC
    · obtain ⟨b, off, rfl, i0, i1⟩ := (HC.out.ext (HEXT.out _ HKW.out)).g (k := k) (by rw [HLC.out]; exact hlt)
      go_wp2_with fail
      refine wp_at fun W3 hW3 => ?_
      have hx3 : Ext wr W3 := by rw [hW3]; exact (Ext.refl _).alloc _
      have v0 : W3.cell? ⟨wr.heap.size, 0, none⟩ = some (.int .i64 (gS cs k).1) := by rw [hW3]; simp [go_sem]
      have v1 : W3.cell? ⟨wr.heap.size, 1, none⟩ = some (.int .i64 (gS cs k).2) := by rw [hW3]; simp [go_sem]
      have r4 := (HRR.out.ext hx3).cell 4
      have t0 := ((HKW.out.blk HT.out HTK.out).ext hx3).cell 0
      have t1 := ((HKW.out.blk HT.out HTK.out).ext hx3).cell 1
      simp only [List.getElem?_cons_succ, List.getElem?_cons_zero] at r4 t0 t1
      have HX3 := Lib.hid hx3; clear hx3 hW3 i0 i1
      have d0 := fun z : After W3 => After.cell v0 z
      have d1 := fun z : After W3 => After.cell v1 z
      have d2 := fun z : After W3 => After.cell r4 z
      have d3 := fun z : After W3 => After.cell t0 z
      have d4 := fun z : After W3 => After.cell t1 z
      refine region_tail 7 (by kernel_rfl) (by kernel_rfl) ?_
      simp only [List.take_succ_cons, List.take_zero, List.drop_succ_cons, List.drop_zero]
      repeat (go_big_quiet_step ((go_at_call 54; exact after_call (apply_any f q (gS cs k) _))))
      refine wpQuiet_nil ?_
      rintro w4 ⟨⟨_, he⟩, rfl⟩
      clear d0 d1 d2 d3 d4 v0 v1 r4 t0 t1
      have hx4 : Ext wr w4 := HX3.out.trans he
      have HG4 := Lib.hid (HG.out.ext hx4)
      obtain ⟨c0, c1, f0, f1⟩ := pair_cells0 HG4.out (k := k) (by rw [mixS_len, HZL.out, HLC.out]; exact hlt)
      have HX4 := Lib.hid hx4; clear hx4 he
      go_wp2_with fail
      go_roundw
      case rel =>
        refine ⟨k + 1, by omega, by go_num, ?_, ?_, ?_⟩
        · exact ((HKW.out.trans (HX4.out.kept _)).set (.inr (.inr (Nat.le_refl _))) _).set (.inr (.inr (Nat.le_refl _))) _
        · exact ((HRR.out.ext HX4.out).other (by simp; omega) _).other (by simp; omega) _
        · have h := pair_set0 HG4.out (k := k) (by rw [mixS_len, HZL.out, HLC.out]; exact hlt) (applyT f q (gS cs k))
          rw [mixS_succ (f := fun p => applyT f q (gS cs p)) (by rw [HZL.out, HLC.out]; exact hlt)] at h
          exact h
      case measure => simp [intOf]; omega
    · obtain rfl : k = nC := by omega
      have p5 := (HKW.out.blk HP.out HPK.out).cell 5
      simp only [List.getElem?_cons_succ, List.getElem?_cons_zero] at p5
      go_wp2_with fail
      refine (clone_ints AW nW cW ws _ (HW.out.ext (HEXT.out _ HKW.out)) HLW.out (by omega)).mono ?_
      rintro e w5 ⟨vW, rfl, hoW, he5⟩
      obtain ⟨WW, cWW, hvW, _, _, _⟩ := hoW.slice
      rw [HLW.out] at hvW
      subst hvW
      have HK5 := Lib.hid (HKW.out.trans (he5.kept _))
      have HR5 := Lib.hid (HRR.out.ext he5)
      have HG5 := Lib.hid (HG.out.ext he5)
      have hsz5 : w1.heap.size < w5.heap.size := HG5.out.lt
      have hszr : w1.heap.size < wr.heap.size := HG.out.lt
      have HOW := Lib.hid hoW
      clear hoW he5 p5
      have r5 := HR5.out.cell 5
      have fr5 := HR5.out.frozen 5
      have p3 := (HK5.out.blk HP.out HPK.out).cell 3
      simp only [List.getElem?_cons_succ, List.getElem?_cons_zero] at r5 p3
      go_wp2_with fail
      have HK5' := Lib.hid (HK5.out.set (p := ⟨w.heap.size + 1 + 1 + 1, 5, none⟩) (.inr (.inl rfl)) (.slice WW nW cWW))
      refine (clone_notches AN nN cN ns _ (HN.out.ext (HEXT.out _ HK5'.out)) HLN.out (by omega)).mono ?_
      rintro e w6 ⟨vN, rfl, hoN, he6⟩
      have hvN : ∃ NN cNN, vN = .slice NN nN cNN := by
        rcases hoN.2 with ⟨h, h0⟩ | ⟨g, cap, cur, h, _⟩
        · rw [HLN.out] at h0; subst h0; exact ⟨_, _, h⟩
        · rw [HLN.out] at h; exact ⟨_, _, h⟩
      obtain ⟨NN, cNN, hvN⟩ := hvN
      subst hvN
      have HK6 := Lib.hid (HK5'.out.trans (he6.kept _))
      have HR6 := Lib.hid ((HR5.out.set 5 (.slice WW nW cWW)).ext he6)
      have HG6 := Lib.hid ((HG5.out.other (p := ⟨w.heap.size + 1 + 1 + 1, 5, none⟩) (by simp; omega) (.slice WW nW cWW)).ext he6)
      have HOW6 : Hid (OwnI w6 w.heap.size (.slice WW nW cWW) ws) := own_base_le (own_ext (own_set HOW.out (p := ⟨w.heap.size + 1 + 1 + 1, 5, none⟩) (fun h => by have := own_ge HOW.out h; simp at this; omega) (.slice WW nW cWW)) he6) (by omega)
      have HON : Hid (OwnT 95 w6 w1.heap.size (.slice NN nN cNN) ns) := own_base_le hoN (by simp [World.setCell]; omega)
      have hsz6 : w1.heap.size < w6.heap.size := HG6.out.lt
      clear hoN he6 r5 fr5 p3
      have r3 := HR6.out.cell 3
      have fr3 := HR6.out.frozen 3
      have t0 := (HK6.out.blk HT.out HTK.out).cell 0
      simp only [List.set_cons_succ, List.set_cons_zero, List.getElem?_cons_succ, List.getElem?_cons_zero] at r3 t0
      have HK7 := Lib.hid (HK6.out.set (p := ⟨w.heap.size + 1 + 1 + 1, 3, none⟩) (.inr (.inl rfl)) (.slice NN nN cNN))
      have HR7 : Hid (Blk 52 (w6.setCell ⟨w.heap.size + 1 + 1 + 1, 3, none⟩ (.slice NN nN cNN)) (w.heap.size + 1 + 1 + 1) [.string nm, .slice EE nE cEE, .int .i64 gr, .slice NN nN cNN, .slice (some ⟨w1.heap.size, 0, none⟩) k k, .slice WW nW cWW, .bool mt]) := by
        have h := HR6.out.set 3 (.slice NN nN cNN)
        simp at h
        exact h
      have HC7 : Hid (OwnT 62 (w6.setCell ⟨w.heap.size + 1 + 1 + 1, 3, none⟩ (.slice NN nN cNN)) w.heap.size (.slice (some ⟨w1.heap.size, 0, none⟩) k k) (cs.map (applyT f q))) := by
        have h := own_of_blk (base := w.heap.size) (HG6.out.other (p := ⟨w.heap.size + 1 + 1 + 1, 3, none⟩) (by simp; omega) (.slice NN nN cNN)) (by omega) (by rw [mixS_len, HZL.out, HLC.out]; omega)
        rw [mixS_len, HZL.out, HLC.out] at h
        rwa [show k = cs.length from HLC.out.symm, mixS_map HZL.out, ← show k = cs.length from HLC.out.symm] at h
      have HI7 : Hid (OwnI (w6.setCell ⟨w.heap.size + 1 + 1 + 1, 3, none⟩ (.slice NN nN cNN)) w.heap.size (.slice WW nW cWW) ws) := own_set HOW6.out (fun h => own_blk_ne HOW6.out HR6.out (by decide) h) _
      have HN7 : Hid (OwnT 95 (w6.setCell ⟨w.heap.size + 1 + 1 + 1, 3, none⟩ (.slice NN nN cNN)) w.heap.size (.slice NN nN cNN) ns) := own_base_le (own_set HON.out (fun h => own_blk_ne HON.out HR6.out (by decide) h) _) (by omega)
      have HE7 : Hid (OwnE (w6.setCell ⟨w.heap.size + 1 + 1 + 1, 3, none⟩ (.slice NN nN cNN)) w.heap.size (.slice EE nE cEE) (turnE f q es)) := HE1.out.kept HK7.out (fun b hb h => by
        rcases h with h | h
        · subst h; exact ⟨_, _, HR.out, by decide, by decide⟩
        · omega)
      cases f
      · obtain ⟨W8, hW8⟩ : ∃ W8, W8 = w6.setCell ⟨w.heap.size + 1 + 1 + 1, 3, none⟩ (.slice NN nN cNN) := ⟨_, rfl⟩
        go_upto_if 44 with fail
        refine wp_at fun W8' hW8' => ?_
        rw [← hW8] at hW8' HK7 HR7 HC7 HI7 HN7 HE7
        subst hW8'
        have HR8 := Lib.hid HR7.out
        have HS8 := Lib.hid (HK7.out.blk HS.out HSK.out)
        clear hW8 r3 fr3 t0
        have q0 := HR8.out.cell 0
        have q1 := HR8.out.cell 1
        have q2 := HR8.out.cell 2
        have q3 := HR8.out.cell 3
        have q4 := HR8.out.cell 4
        have q5 := HR8.out.cell 5
        have q6 := HR8.out.cell 6
        have s0 := HS8.out.cell 0
        have s1 := HS8.out.cell 1
        have s2 := HS8.out.cell 2
        have s3 := HS8.out.cell 3
        have s4 := HS8.out.cell 4
        have s5 := HS8.out.cell 5
        have s6 := HS8.out.cell 6
        have e0 := HS8.out.frozen 0
        have e1 := HS8.out.frozen 1
        have e2 := HS8.out.frozen 2
        have e3 := HS8.out.frozen 3
        have e4 := HS8.out.frozen 4
        have e5 := HS8.out.frozen 5
        have e6 := HS8.out.frozen 6
        simp only [List.getElem?_cons_succ, List.getElem?_cons_zero] at q0 q1 q2 q3 q4 q5 q6 s0 s1 s2 s3 s4 s5 s6
        go_wp2_with fail
        refine bodyPost_ret (v := .agg #[.string nm, .slice EE nE cEE, .int .i64 gr, .slice NN nN cNN, .slice (some ⟨w1.heap.size, 0, none⟩) k k, .slice WW nW cWW, .bool mt]) (by simp [results, Tryz.results28, go_sem, s0, s1, s2, s3, s4, s5, s6]) rfl ?_
        refine retT_of (W8 := W8') (sb := w.heap.size + 1 + 1) ?_ HS8.out HE7.out HC7.out HI7.out HN7.out (HEXT.out _ HK7.out) (by omega)
        exact kset (kset (kset (kset (kset (kset (kset (Kept.refl _ _) _ _) _ _) _ _) _ _) _ _) _ _) _ _
      · obtain ⟨W8, hW8⟩ : ∃ W8, W8 = w6.setCell ⟨w.heap.size + 1 + 1 + 1, 3, none⟩ (.slice NN nN cNN) := ⟨_, rfl⟩
        go_upto_if 44 with fail
        refine wp_at fun W8' hW8' => ?_
        rw [← hW8] at hW8' HK7 HR7 HC7 HI7 HN7 HE7
        subst hW8'
        have HP8 := Lib.hid (HK7.out.blk HP.out HPK.out)
        clear hW8 r3 fr3 t0
        have p0 := HP8.out.cell 0
        have p1 := HP8.out.cell 1
        have p2 := HP8.out.cell 2
        have p3 := HP8.out.cell 3
        have p4 := HP8.out.cell 4
        have p5 := HP8.out.cell 5
        have p6 := HP8.out.cell 6
        simp only [List.getElem?_cons_succ, List.getElem?_cons_zero] at p0 p1 p2 p3 p4 p5 p6
        go_wp2_with fail
        refine (mirror_any nm nm AE AN AC AW (some ⟨w1.heap.size, 0, none⟩) WW NN nE cE nN cN k cC nW cW k cWW cNN gr gr mt mt (.slice EE nE cEE) es (cs.map (applyT true q)) ws ns w W8' w.heap.size (w.heap.size + 1 + 1 + 1) (HEXT.out _ HK7.out) (Nat.le_refl _) (Ext.size (HEXT.out _ HK7.out)) HE.out HLE.out hnE HW.out HLW.out hnW HN.out HLN.out hnN hnC HC7.out HI7.out HN7.out HR7.out).mono ?_
        rintro e w9 ⟨rfl, hC9, hI9, hN9, hk9, hx9⟩
        clear p0 p1 p2 p3 p4 p5 p6
        have hmK : ∀ b, mirK (.slice (some ⟨w1.heap.size, 0, none⟩) k k) (.slice WW nW cWW) (.slice NN nN cNN) b → w1.heap.size ≤ b := by
          rintro b (h | h | h)
          · simp [Value.ownBlock] at h; omega
          · have := own_ge HOW.out h; omega
          · exact own_ge HON.out h
        have hK9 : Kept (turK w1 (w.heap.size + 1 + 1 + 1)) w1 w9 := HK7.out.trans (hk9.mono fun b _ h => .inr (hmK b h))
        have hR9 : Blk 52 w9 (w.heap.size + 1 + 1 + 1) _ := hk9.blk HR7.out (fun h => by have := hmK _ h; omega)
        have hS9 : Blk 52 w9 (w.heap.size + 1 + 1) _ := hK9.blk HS.out HSK.out
        have hE9 : OwnE w9 w.heap.size (.slice EE nE cEE) (turnE true q es) := HE1.out.kept hK9 (fun b hb h => by
          rcases h with h | h
          · subst h; exact ⟨_, _, HR.out, by decide, by decide⟩
          · omega)
        have HR8 := Lib.hid hR9; have HS8 := Lib.hid hS9; have HE9 := Lib.hid hE9; have HC9 := Lib.hid hC9; have HI9 := Lib.hid hI9; have HN9 := Lib.hid hN9; have HX9 := Lib.hid hx9
        clear hR9 hS9 hE9 hC9 hI9 hN9 hx9 hK9 hk9 hmK
        have q0 := HR8.out.cell 0
        have q1 := HR8.out.cell 1
        have q2 := HR8.out.cell 2
        have q3 := HR8.out.cell 3
        have q4 := HR8.out.cell 4
        have q5 := HR8.out.cell 5
        have q6 := HR8.out.cell 6
        have s0 := HS8.out.cell 0
        have s1 := HS8.out.cell 1
        have s2 := HS8.out.cell 2
        have s3 := HS8.out.cell 3
        have s4 := HS8.out.cell 4
        have s5 := HS8.out.cell 5
        have s6 := HS8.out.cell 6
        have e0 := HS8.out.frozen 0
        have e1 := HS8.out.frozen 1
        have e2 := HS8.out.frozen 2
        have e3 := HS8.out.frozen 3
        have e4 := HS8.out.frozen 4
        have e5 := HS8.out.frozen 5
        have e6 := HS8.out.frozen 6
        simp only [List.getElem?_cons_succ, List.getElem?_cons_zero] at q0 q1 q2 q3 q4 q5 q6 s0 s1 s2 s3 s4 s5 s6
        go_wp2_with fail
        refine bodyPost_ret (v := .agg #[.string nm, .slice EE nE cEE, .int .i64 gr, .slice NN nN cNN, .slice (some ⟨w1.heap.size, 0, none⟩) k k, .slice WW nW cWW, .bool mt]) (by simp [results, Tryz.results28, go_sem, s0, s1, s2, s3, s4, s5, s6]) rfl ?_
        refine retT_of (W8 := w9) (sb := w.heap.size + 1 + 1) ?_ HS8.out HE9.out HC9.out HI9.out HN9.out HX9.out (by omega)
        exact kset (kset (kset (kset (kset (kset (kset (Kept.refl _ _) _ _) _ _) _ _) _ _) _ _) _ _) _ _
theorem turned_any (nm : ByteArray) (AE AN AC AW : Option Addr) (nE cE nN cN nC cC nW cW : Nat) (gr : Int) (mt f : Bool) (q : Int) (es : List Edge) (cs : List Spot) (ws : List Int) (ns : List Spot) (w : World)
    (hE : EdgesAt w AE es) (hlE : es.length = nE) (hnE : nE ≤ 1000) (hlen : ∀ k, k < nE → (gE es k).2.length ≤ 1000) (hC : SpotsAt w AC cs) (hlC : cs.length = nC) (hnC : nC ≤ 1000)
    (hW : IntsAt w AW ws) (hlW : ws.length = nW) (hnW : nW ≤ 1000) (hN : SpotsAt w AN ns) (hlN : ns.length = nN) (hnN : nN ≤ 1000) (_ : plainA AW) (_ : plainA AN) :
    Calls Tryz.prog 28 #[.agg #[.string nm, .slice AE nE cE, .int .i64 gr, .slice AN nN cN, .slice AC nC cC, .slice AW nW cW, .bool mt], TV f q] w (RetT w nm gr mt (turnE f q es) (turnC f q nE cs) (turnW f nE ws) (turnNs f es ns)) :=
  turned_any0 nm AE AN AC AW nE cE nN cN nC cC nW cW gr mt f q es cs ws ns w hE hlE hnE hlen hC hlC hnC hW hlW hnW hN hlN hnN
end Go.Proofs.YtkigmpholnfkbaaGreat
