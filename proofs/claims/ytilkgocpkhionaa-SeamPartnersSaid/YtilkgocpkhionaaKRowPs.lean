/- The law SeamPartners: for every input it returns true and leaves its arguments as they were. No conditions. -/
import Derived.Deep.CutRange
import Derived.Deep.CutBlock
import Derived.Test.YtilkgocpkhionaaRows
import Derived.OpenShut
import Derived.Test.YtilkgocpkhionaaKOpenS
import Derived.Test.YtilkgocpkhionaaKAlive
/- the reference: garmentref22.share, Partner -/
namespace Go.Proofs.Ytilkgocpkhionaa
open Go.RowKit
theorem digs_q {a R c k q l : Nat} (h : Digs a R c k q l) (hR : R < c) : q ≤ a := by
  have hs := h.sum
  have h1 : a / 2 ^ k * R ≤ a * c := Nat.mul_le_mul (Nat.div_le_self _ _) (Nat.le_of_lt hR)
  exact Nat.le_of_mul_le_mul_right (show q * c ≤ a * c by omega) (by omega)
theorem part_le_b {a b c : Nat} (hc : 1 ≤ c) (ha : a ≤ c) : partQ a b c ≤ b := part_le hc ha
set_option maxRecDepth 100000 in
set_option maxHeartbeats 1600000 in
theorem share_any (a b c : Nat) (w : World) (hc : 1 ≤ c) (hc2 : c ≤ 1099511627776) (hb : b ≤ 1099511627776) (ha : a ≤ c) :
    Calls Try.prog 26 #[.int .i64 (a : Int), .int .i64 (b : Int), .int .i64 (c : Int)] w fun e w' => e = .returned (.int .i64 (partQ a b c : Int)) ∧ Ext w w' := by
  have hc0 : ((c : Int) == 0) = false := by simp; omega
  have hc1 : ¬ (c : Int) = 0 := by omega
  have hcn : ¬ c = 0 := by omega
  go_enter Try.func26, Try.ntmps26
  go_wp2_with fail
  go_quiet (fail)
  go_wp2_with fail
  obtain ⟨D, hD⟩ : ∃ D, D = b / c := ⟨_, rfl⟩
  obtain ⟨R, hR⟩ : ∃ R, R = b % c := ⟨_, rfl⟩
  obtain ⟨O, hO⟩ : ∃ O, O = a * D := ⟨_, rfl⟩
  have hRl : R < c := by rw [hR]; exact Nat.mod_lt _ (by omega)
  have hOb : O ≤ b := by
    rw [hO, hD]
    exact Nat.le_trans (Nat.mul_le_mul_right _ ha) (Nat.mul_div_le _ _)
  have hDb : D ≤ b := by rw [hD]; exact Nat.div_le_self _ _
  have g1 : wrap64 ((b : Int) / (c : Int)) = (D : Int) := by rw [← Int.natCast_ediv, ← hD]; exact IntWalk.wrap64_in _ ⟨by omega, by omega⟩
  have g2 : (b : Int) % (c : Int) = (R : Int) := by rw [← Int.natCast_emod, ← hR]
  have g3 : wrap64 ((a : Int) * (D : Int)) = (O : Int) := by rw [← Int.natCast_mul, ← hO]; exact IntWalk.wrap64_in _ ⟨by omega, by omega⟩
  simp only [g1, g2, g3]
  clear g1 g2 g3 hc0 hDb
  have HFIN : Hid (∀ q l : Nat, Digs a R c 0 q l → O + (q + if c ≤ 2 * l then 1 else 0) = partQ a b c) := fun q l h => by rw [hO, hD]; rw [hR] at h; exact digs_end h hc
  clear hD hR hO
  have hPb := part_le (t := b) hc ha
  refine wp_at fun W0 hW0 => ?_
  have hx0 : Ext w W0 := by rw [hW0]; exact Ext.drewN (Ext.refl _) _
  have HX0 := Lib.hid hx0; clear hW0 hx0
  go_loopw [10, 11, 12] (fun x y i wr => ∃ k q l : Nat, k ≤ 41 ∧ i = .int .i64 ((k : Int) - 1) ∧ x = .int .i64 (q : Int) ∧ y = .int .i64 (l : Int) ∧ Digs a R c k q l ∧ wr = W0) (fun _ _ i _ => ((intOf i) + 1).toNat)
  case atStart => exact ⟨41, 0, 0, Nat.le_refl _, rfl, rfl, rfl, digs_start (by omega) hc, rfl⟩
  case round =>
    obtain ⟨k, q, l, hk, rfl, rfl, rfl, hd, rfl⟩ := hrel
    have hll := hd.lt
    have HD := Lib.hid hd; clear hd
    match k, hk, HD with
    | 0, hk, HD =>
      have hfin := HFIN.out q l HD.out
      by_cases hcl : c ≤ 2 * l
      · rw [if_pos hcl] at hfin
        have hci : (c : Int) ≤ 2 * (l : Int) := by omega
        go_wp2_with fail
        go_ret
        exact ⟨ret_int (by omega), HX0.out⟩
      · rw [if_neg hcl] at hfin
        have hci : ¬ (c : Int) ≤ 2 * (l : Int) := by omega
        go_wp2_with fail
        go_ret
        exact ⟨ret_int (by omega), HX0.out⟩
    | j + 1, hk, HD =>
      obtain ⟨B, hB⟩ : ∃ B, B = a / 2 ^ j % 2 := ⟨_, rfl⟩
      have hon := digs_on HD.out hc hB
      have hq := digs_q HD.out hRl
      rw [show ((j + 1 : Nat) : Int) - 1 = (j : Int) from by omega]
      have hq' := digs_q hon hRl
      have ebit : ((a : Int) / 2 ^ j).tmod 2 = (B : Int) := by
        have e1 : (a : Int) / 2 ^ j = ((a / 2 ^ j : Nat) : Int) := by simp
        rw [e1, Int.tmod_eq_emod_of_nonneg (Int.natCast_nonneg _), hB]; exact (Int.natCast_emod _ _).symm
      have hB2 : B < 2 := by rw [hB]; exact Nat.mod_lt _ (by omega)
      clear hB
      by_cases hB1 : B = 1
      · subst hB1
        rw [Nat.one_mul] at hon hq'
        have hbit : (((a : Int) / 2 ^ j).tmod 2 == 1) = true := by rw [ebit]; rfl
        have HON := Lib.hid hon
        have HQ' := Lib.hid hq'
        clear ebit hon hq' hB2
        go_wp2_with fail
        refine ⟨⟨j, 2 * q + (2 * l + R) / c, (2 * l + R) % c, by omega, rfl, ?_, ?_, HON.out, trivial⟩, by simp [intOf]⟩
        · have h := HQ'.out
          have e : (2 * (q : Int) + (2 * (l : Int) + (R : Int)) / (c : Int)) = ((2 * q + (2 * l + R) / c : Nat) : Int) := by simp
          rw [e]
          generalize 2 * q + (2 * l + R) / c = q2 at *
          rw [IntWalk.wrap64_in _ ⟨by omega, by omega⟩]
        · simp
      · obtain rfl : B = 0 := by omega
        rw [Nat.zero_mul, Nat.add_zero] at hon hq'
        have hbit : (((a : Int) / 2 ^ j).tmod 2 == 1) = false := by rw [ebit]; rfl
        have HON := Lib.hid hon
        have HQ' := Lib.hid hq'
        clear ebit hon hq' hB2
        go_wp2_with fail
        refine ⟨⟨j, 2 * q + (2 * l) / c, (2 * l) % c, by omega, rfl, ?_, ?_, HON.out, trivial⟩, by simp [intOf]⟩
        · have h := HQ'.out
          have e : (2 * (q : Int) + (2 * (l : Int)) / (c : Int)) = ((2 * q + (2 * l) / c : Nat) : Int) := by simp
          rw [e]
          generalize 2 * q + (2 * l) / c = q2 at *
          rw [IntWalk.wrap64_in _ ⟨by omega, by omega⟩]
        · simp
set_option maxRecDepth 100000 in
set_option maxHeartbeats 1600000 in
theorem rpartner_any (f t a : Int) (r : Bool) (w : World) :
    Calls Try.prog 11 #[.int .i64 f, .int .i64 t, .bool r, .int .i64 a] w (RetPt w f t r a) := by
  by_cases h1 : f < 1
  · go_enter Try.func11, Try.ntmps11
    go_wp2_with fail
    go_ret2
    exact retPt_bad (by omega)
  by_cases h2 : 1099511627776 < f
  · go_enter Try.func11, Try.ntmps11
    go_wp2_with fail
    go_ret2
    exact retPt_bad (by omega)
  by_cases h3 : t < 0
  · go_enter Try.func11, Try.ntmps11
    go_wp2_with fail
    go_ret2
    exact retPt_bad (by omega)
  by_cases h4 : 1099511627776 < t
  · go_enter Try.func11, Try.ntmps11
    go_wp2_with fail
    go_ret2
    exact retPt_bad (by omega)
  by_cases h5 : a < 0
  · go_enter Try.func11, Try.ntmps11
    go_wp2_with fail
    go_ret2
    exact retPt_bad (by omega)
  by_cases h6 : f < a
  · go_enter Try.func11, Try.ntmps11
    go_wp2_with fail
    go_ret2
    exact retPt_bad (by omega)
  obtain ⟨F, rfl⟩ := Int.eq_ofNat_of_zero_le (show 0 ≤ f by omega)
  obtain ⟨T, rfl⟩ := Int.eq_ofNat_of_zero_le (show 0 ≤ t by omega)
  obtain ⟨X, rfl⟩ := Int.eq_ofNat_of_zero_le (show 0 ≤ a by omega)
  have HOK : Hid (1 ≤ (F : Int) ∧ (F : Int) ≤ 1099511627776 ∧ 0 ≤ (T : Int) ∧ (T : Int) ≤ 1099511627776 ∧ 0 ≤ (X : Int) ∧ (X : Int) ≤ (F : Int)) := ⟨by omega, by omega, by omega, by omega, by omega, by omega⟩
  have hF1 : 1 ≤ F := by omega
  have hX2 : X ≤ F := by omega
  have hle2 : partQ X T F ≤ T := part_le hF1 hX2
  have HN : Hid (∀ r, partN (F : Int) (T : Int) r (X : Int) = if r = true then (T : Int) - (partQ X T F : Int) else (partQ X T F : Int)) := fun r => by unfold partN; simp
  go_enter Try.func11, Try.ntmps11
  go_wp2_with fail
  refine (share_any X T F _ hF1 (by omega) (by omega) hX2).mono ?_
  rintro e w1 ⟨rfl, he1⟩
  obtain ⟨N, hN⟩ : ∃ N, N = partQ X T F := ⟨_, rfl⟩
  rw [← hN] at hle2 HN ⊢
  have HX := Lib.hid he1; clear he1 hN
  cases r
  · go_wp2_with fail
    go_ret2
    exact retPt_ok HOK.out (by rw [HN.out]; simp) HX.out
  · go_wp2_with fail
    go_ret2
    exact retPt_ok HOK.out (by rw [HN.out]; simp) HX.out
end Go.Proofs.Ytilkgocpkhionaa
/- the arguments opened: numbers of 32 bits, places -/
namespace Go.Proofs.Ytilkgocpkhionaa
open Go.ChangeShapes Go.WideShapes Go.ChangeAt Go.RowKit Go.Deep Go.Joins
section
variable {H : Type} {enc : TypeId × Value → H} {w : World} {base : Nat} {spare : Nat → Bool} {held : Bool}
set_option maxRecDepth 100000 in
theorem u32_open {r : Reach} {b0 : Nat} {v : Value} {d : DataW H} {p : List MemPlace} (hv : Value.okWide Try.prog w r b0 37 v) (h : DataW.Trod enc Try.prog w base spare held 37 v d p) : ∃ n : Nat, v = .int .u32 (n : Int) ∧ n < 4294967296 := by
  obtain ⟨a, rfl⟩ := okWide_int Try.underlying37 hv
  obtain ⟨fuel, hf⟩ := h
  obtain ⟨b, eb, _, wb⟩ := DataW.trod_int Try.underlying37 hf
  simp [Value.cells] at eb
  subst eb
  obtain ⟨h1, h2⟩ := bounds_u32 wb
  obtain ⟨n, rfl⟩ := Int.eq_ofNat_of_zero_le h1
  exact ⟨n, rfl, by omega⟩
set_option maxRecDepth 100000 in
theorem places_open {r : Reach} {b0 : Nat} {v : Value} {d : DataW H} {p : List MemPlace} (hv : Value.okWide Try.prog w r b0 23 v) (h : DataW.Trod enc Try.prog w base spare held 23 v d p) : ∃ f t rv a, v = .agg #[.int .i64 f, .int .i64 t, .bool rv, .int .i64 a] := by
  obtain ⟨cs, rfl, hsz⟩ := okWide_struct Try.underlying23 hv
  obtain ⟨l⟩ := cs
  have hC : Try.prog.cellsOf 23 = 4 := by kernel_rfl
  match l, hsz.trans hC with
  | [c0, c1, c2, c3], _ =>
    obtain ⟨fuel, hf⟩ := h
    obtain ⟨xs, n, _, hx, _, hlen, hg⟩ := DataW.trod_struct Try.underlying23 hf
    have g0 : DataW.trod enc Try.prog w base spare held n 3 (([c0, c1, c2, c3].drop 0).take (Try.prog.cellsOf 3)) = xs[0]? := hg 0 _ rfl
    have g1 : DataW.trod enc Try.prog w base spare held n 3 (([c0, c1, c2, c3].drop 1).take (Try.prog.cellsOf 3)) = xs[1]? := hg 1 _ rfl
    have g2 : DataW.trod enc Try.prog w base spare held n 4 (([c0, c1, c2, c3].drop 2).take (Try.prog.cellsOf 4)) = xs[2]? := hg 2 _ rfl
    have g3 : DataW.trod enc Try.prog w base spare held n 3 (([c0, c1, c2, c3].drop 3).take (Try.prog.cellsOf 3)) = xs[3]? := hg 3 _ rfl
    rw [show Try.prog.cellsOf 3 = 1 from by kernel_rfl] at g0 g1 g3
    rw [show Try.prog.cellsOf 4 = 1 from by kernel_rfl] at g2
    match xs, hlen with
    | [y0, y1, y2, y3], _ =>
      simp at g0 g1 g2 g3
      obtain ⟨a0, e0, _, _⟩ := DataW.trod_int Try.underlying3 g0
      obtain ⟨a1, e1, _, _⟩ := DataW.trod_int Try.underlying3 g1
      obtain ⟨a2, e2, _⟩ := DataW.trod_bool Try.underlying4 g2
      obtain ⟨a3, e3, _, _⟩ := DataW.trod_int Try.underlying3 g3
      simp at e0 e1 e2 e3
      exact ⟨a0, a1, a2, a3, by rw [e0, e1, e2, e3]⟩
set_option maxRecDepth 100000 in
theorem three_open {r : Reach} {b0 : Nat} {v : Value} {d : DataW H} {p : List MemPlace} (hv : Value.okWide Try.prog w r b0 61 v) (h : DataW.Trod enc Try.prog w base spare held 61 v d p) : ∃ a b c, v = .agg #[.int .i64 a, .int .i64 b, .int .i64 c] := by
  obtain ⟨cs, rfl, hsz⟩ := okWide_struct Try.underlying61 hv
  obtain ⟨l⟩ := cs
  have hC : Try.prog.cellsOf 61 = 3 := by kernel_rfl
  match l, hsz.trans hC with
  | [c0, c1, c2], _ =>
    obtain ⟨fuel, hf⟩ := h
    obtain ⟨xs, n, _, hx, _, hlen, hg⟩ := DataW.trod_struct Try.underlying61 hf
    have g0 : DataW.trod enc Try.prog w base spare held n 3 (([c0, c1, c2].drop 0).take (Try.prog.cellsOf 3)) = xs[0]? := hg 0 _ rfl
    have g1 : DataW.trod enc Try.prog w base spare held n 3 (([c0, c1, c2].drop 1).take (Try.prog.cellsOf 3)) = xs[1]? := hg 1 _ rfl
    have g2 : DataW.trod enc Try.prog w base spare held n 3 (([c0, c1, c2].drop 2).take (Try.prog.cellsOf 3)) = xs[2]? := hg 2 _ rfl
    rw [show Try.prog.cellsOf 3 = 1 from by kernel_rfl] at g0 g1 g2
    match xs, hlen with
    | [y0, y1, y2], _ =>
      simp at g0 g1 g2
      obtain ⟨a0, e0, _, _⟩ := DataW.trod_int Try.underlying3 g0
      obtain ⟨a1, e1, _, _⟩ := DataW.trod_int Try.underlying3 g1
      obtain ⟨a2, e2, _, _⟩ := DataW.trod_int Try.underlying3 g2
      simp at e0 e1 e2
      exact ⟨a0, a1, a2, by rw [e0, e1, e2]⟩
end
end Go.Proofs.Ytilkgocpkhionaa
/- SeamPartners returns true -/
namespace Go.Proofs.Ytilkgocpkhionaa
open Go.RowKit
set_option maxRecDepth 100000 in
set_option maxHeartbeats 1600000 in
theorem partnersL_any (f t : Int) (r : Bool) (a : Int) (w : World) :
    Calls Try.prog 3 #[.agg #[.int .i64 f, .int .i64 t, .bool r, .int .i64 a]] w fun e w' => e = .returned (.bool true) ∧ Ext w w' := by
  go_enter Try.func3, Try.ntmps3
  go_wp2_with fail
  refine (partner_any f t a r _).mono ?_
  rintro e w1 ⟨rfl, he1⟩
  have HB1 : Hid (Blk 23 w1 w.heap.size [.int .i64 f, .int .i64 t, .bool r, .int .i64 a]) := (Blk.new' rfl).ext he1
  have b0 := HB1.out.cell 0
  have b1 := HB1.out.cell 1
  have b2 := HB1.out.cell 2
  have b3 := HB1.out.cell 3
  simp only [List.getElem?_cons_succ, List.getElem?_cons_zero] at b0 b1 b2 b3
  have HX1 := Lib.hid (((Ext.refl w).alloc _).trans he1); clear he1
  go_wp2_with fail
  refine (rpartner_any f t a r _).mono ?_
  rintro e w2 ⟨rfl, he2⟩
  have HX2 := Lib.hid (HX1.out.trans he2); clear he2 b0 b1 b2 b3
  have s1 : (partV f t r a == partV f t r a) = true := by simp
  have s2 : (partE f t a == partE f t a) = true := by simp
  go_wp2_with fail
  refine (alive_any _).mono ?_
  rintro e w3 ⟨rfl, he3⟩
  go_wp2_with fail
  go_ret
  exact ⟨rfl, HX2.out.trans he3⟩
end Go.Proofs.Ytilkgocpkhionaa
namespace Go.Proofs.Ytilkgocpkhionaa
open Go.ChangeShapes Go.WideShapes Go.ChangeAt Go.RowKit Go.Deep Go.Joins
set_option maxRecDepth 100000 in
theorem seamPartners_lifted (os : Os) (started : os.Started) (H : Type) (enc : TypeId × Value → H) :
    ReturnsInHanded {} Try.checked os 3 .any (Rows.seamPartnersSpec.pre6 enc Try.prog Try.f3 Rows.seamPartnersRow.domain false) (Rows.seamPartnersSpec.post enc Try.prog Try.f3 false true false false) := by
  refine returnsInHanded_of_change (C := Try.checked) Try.own started (by kernel_rfl) Try.func3
    (ChangeSpec.witness6 (enc := enc) (C := Try.checked) false ⟨#[], #[.agg #[.int .i64 0, .int .i64 0, .bool false, .int .i64 0]], []⟩ 8 (by kernel_rfl) (by kernel_rfl) (by kernel_rfl) (by kernel_rfl)) ?_
  intro W base args ds gs before hval0 hW hcnd _
  have hval : ∀ (j : Nat) t v, Try.f3.params[j]? = some t → args[j]? = some v → Value.okWide Try.prog W .any base t v := hval0
  have hW' := hW
  obtain ⟨p, q, hA0, hV, rfl, hfz, hnd⟩ := hW
  have hA : DataW.TrodAll enc Try.prog W 0 (fun _ => true) true Try.f3.params.toList args.toList ds p := hA0
  rw [Try.params3] at hA hval
  obtain ⟨v0, vs0, d0, ds0, p0, q0, hargs, rfl, rfl, h0, r0⟩ := trodAll_cons hA
  obtain ⟨rfl, rfl, rfl⟩ := trodAll_nil r0
  obtain rfl : args = #[v0] := by cases args; simp_all
  obtain ⟨rfl, rfl⟩ := trodVars_none hV
  have k0 := h0
  have lt0 : ∀ x ∈ p0, x.block < W.heap.size := by obtain ⟨m, hm⟩ := k0; exact DataW.trod_lt m _ _ _ hm
  obtain ⟨f0, t0, rv0, a0, hv0⟩ := places_open (hval 0 23 v0 rfl rfl) h0
  subst hv0
  clear hA0 hval0
  refine (partnersL_any f0 t0 rv0 a0 W).mono fun e W' ⟨he, bel⟩ => ?_
  subst he
  exact ⟨_, rfl, _, _, _, [], _, [], hW', trodAll_mk1 (shut_bool Try.underlying4 _), (trodAll_cons_mk (Below.trod Try.laidOut (by kernel_rfl) (of_decide_eq_true (by kernel_rfl)) k0 bel lt0) trodAll_mk0), rfl, Below.frame bel _, fun h => by cases h⟩
theorem seamPartners_holds : Rows.SeamPartnersSaid :=
  OpenClaim.holds_of_wide 3 Try.f3 rfl rfl rfl rfl rfl rfl rfl ⟨rfl, rfl, rfl, rfl, rfl⟩ rfl rfl rfl rfl rfl (by kernel_rfl) Try.func3 (by kernel_rfl)
    (of_decide_eq_true (by kernel_rfl)) (by unfold Func.isWrapper; first | (rw [if_pos (by decide +kernel)]; kernel_rfl) | (rw [if_neg (by decide +kernel)]; exact ⟨rfl, rfl⟩))
    (fun os started H enc _ => seamPartners_lifted os started H enc)
end Go.Proofs.Ytilkgocpkhionaa

