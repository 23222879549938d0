/- The law SeamPartner: for every input it returns true and leaves its arguments as they were. No conditions. -/
import Derived.Test.YtilkgocpkhionaaRows
import Derived.OpenShut
import Derived.Test.YtilkgocpkhionaaKAlive
import Derived.Test.YtilkgocpkhionaaKOpenS
/- SeamPartner returns true -/
namespace Go.Proofs.Ytilkgocpkhionaa
open Go.RowKit
theorem partV_ok {f t a : Nat} (r : Bool) (h1 : 1 ≤ f) (h2 : f ≤ 1099511627776) (h3 : t ≤ 1099511627776) (h4 : a ≤ f) : partV (f : Int) (t : Int) r (a : Int) = (if r = true then (t : Int) - (partQ a t f : Int) else (partQ a t f : Int)) ∧ partE (f : Int) (t : Int) (a : Int) = 0 := by
  have hb : prtB (f : Int) (t : Int) (a : Int) = true := decide_eq_true (by omega)
  unfold partV partE partN
  rw [hb]
  simp
set_option maxRecDepth 100000 in
set_option maxHeartbeats 3200000 in
theorem partnerL_any (x y z : Nat) (w : World) (hx : x < 4294967296) (hy : y < 4294967296) (hz : z < 4294967296) :
    Calls Try.prog 5 #[.int .u32 (x : Int), .int .u32 (y : Int), .int .u32 (z : Int)] w fun e w' => e = .returned (.bool true) ∧ Ext w w' := by
  go_enter Try.func5, Try.ntmps5
  go_wp2_with fail
  obtain ⟨F, hF⟩ : ∃ F : Nat, 1 + (x : Int) % 1073741824 = (F : Int) := ⟨1 + x % 1073741824, by omega⟩
  obtain ⟨T, hT⟩ : ∃ T : Nat, (y : Int) % 1073741824 = (T : Int) := ⟨y % 1073741824, by omega⟩
  have hF1 : 1 ≤ F := by omega
  have hF2 : F ≤ 1073741824 := by omega
  have hT2 : T ≤ 1073741824 := by omega
  simp only [hF, hT]
  obtain ⟨X, hX⟩ : ∃ X : Nat, (z : Int) % ((F : Int) + 1) = (X : Int) := ⟨z % (F + 1), by simp⟩
  have hX2 : X ≤ F := by
    have := Int.emod_lt_of_pos (z : Int) (show (0 : Int) < (F : Int) + 1 by omega)
    omega
  simp only [hX]
  clear hX hF hT
  obtain ⟨va, ea⟩ := partV_ok (t := T) false hF1 (by omega) (by omega) hX2
  obtain ⟨vb, eb⟩ := partV_ok (t := T) true hF1 (by omega) (by omega) hX2
  obtain ⟨vc, ec⟩ := partV_ok (t := T) (a := 0) false hF1 (by omega) (by omega) (by omega)
  obtain ⟨vd, ed⟩ := partV_ok (t := T) (a := F) false hF1 (by omega) (by omega) (Nat.le_refl _)
  rw [part_zero hF1] at vc
  rw [part_full hF1] at vd
  simp only [Bool.false_eq_true, if_false, if_true] at va vb vc vd
  have hNl := part_le (t := T) hF1 hX2
  obtain ⟨hn1, hn2⟩ := part_near (a := X) (t := T) hF1
  have HNX := Lib.hid (fun (h : X < F) => (partV_ok (t := T) (a := X + 1) false hF1 (by omega) (by omega) h))
  have HMO : Hid (partQ X T F ≤ partQ (X + 1) T F) := part_mono (Nat.le_succ _)
  obtain ⟨N, hN⟩ : ∃ N, N = partQ X T F := ⟨_, rfl⟩
  rw [← hN] at va vb hNl hn1 hn2 HMO
  clear hN
  have b1 : N * F ≤ 1073741824 * 1073741824 := Nat.mul_le_mul (by omega) hF2
  have b2 : X * T ≤ 1073741824 * 1073741824 := Nat.mul_le_mul (by omega) hT2
  obtain ⟨P1, hP1⟩ : ∃ P, P = N * F := ⟨_, rfl⟩
  obtain ⟨P2, hP2⟩ : ∃ P, P = X * T := ⟨_, rfl⟩
  rw [← hP1] at hn1 hn2 b1
  rw [← hP2] at hn1 hn2 b2
  have m1 : IntKind.i64.wrap ((N : Int) * (F : Int)) = (P1 : Int) := by rw [← Int.natCast_mul, ← hP1]; exact IntWalk.i64_in _ (by omega)
  have m2 : IntKind.i64.wrap ((X : Int) * (T : Int)) = (P2 : Int) := by rw [← Int.natCast_mul, ← hP2]; exact IntWalk.i64_in _ (by omega)
  clear hP1 hP2
  refine (partner_any (F : Int) (T : Int) (X : Int) false _).mono ?_
  rintro e w1 ⟨rfl, he1⟩
  rw [va, ea]
  have HX1 := Lib.hid he1; clear he1 va ea
  go_wp2_with fail
  refine (partner_any (F : Int) (T : Int) (X : Int) true _).mono ?_
  rintro e w2 ⟨rfl, he2⟩
  rw [vb, eb]
  have HX2 := Lib.hid (HX1.out.trans he2); clear he2 vb eb
  go_wp2_with fail
  refine (partner_any (F : Int) (T : Int) 0 false _).mono ?_
  rintro e w3 ⟨rfl, he3⟩
  rw [show (0 : Int) = ((0 : Nat) : Int) from rfl, vc, ec]
  have HX3 := Lib.hid (HX2.out.trans he3); clear he3 vc ec
  go_wp2_with fail
  refine (partner_any (F : Int) (T : Int) (F : Int) false _).mono ?_
  rintro e w4 ⟨rfl, he4⟩
  rw [vd, ed]
  have HX4 := Lib.hid (HX3.out.trans he4); clear he4 vd ed
  have s1 : IntKind.i64.wrap ((T : Int) - (N : Int)) = (T : Int) - (N : Int) := IntWalk.i64_in _ (by omega)
  have s2 : ((T : Int) != T) = false := by simp
  have s3 : ((T : Int) - (N : Int) != (T : Int) - (N : Int)) = false := by simp
  have s4 : ¬ (T : Int) < N := by omega
  by_cases hlt : X < F
  · obtain ⟨vn, en⟩ := HNX.out hlt
    simp only [Bool.false_eq_true, if_false] at vn
    obtain ⟨M, hM⟩ : ∃ M, M = partQ (X + 1) T F := ⟨_, rfl⟩
    rw [← hM] at vn
    have hMN : N ≤ M := by rw [hM]; exact HMO.out
    clear hM
    rw [Int.natCast_add] at vn en
    go_wp2_with fail
    refine (partner_any (F : Int) (T : Int) ((X : Int) + 1) false _).mono ?_
    rintro e w5 ⟨rfl, he5⟩
    have vn' : partV (F : Int) (T : Int) false ((X : Int) + 1) = (M : Int) := vn
    have en' : partE (F : Int) (T : Int) ((X : Int) + 1) = 0 := en
    rw [vn', en']
    have HX5 := Lib.hid (HX4.out.trans he5); clear he5 vn en vn' en'
    go_wp2_with fail
    refine (alive_any _).mono ?_
    rintro e w6 ⟨rfl, he6⟩
    go_wp2_with fail
    go_ret
    exact ⟨rfl, HX5.out.trans he6⟩
  · go_wp2_with fail
    refine (alive_any _).mono ?_
    rintro e w6 ⟨rfl, he6⟩
    go_wp2_with fail
    go_ret
    exact ⟨rfl, HX4.out.trans he6⟩
end Go.Proofs.Ytilkgocpkhionaa
/- the arguments opened: numbers of 32 bits, places -/
namespace Go.Proofs.Ytilkgocpkhionaa
open Go.ChangeShapes Go.WideShapes Go.ChangeAt Go.RowKit Go.Deep Go.Joins
section
variable {H : Type} {enc : TypeId × Value → H} {w : World} {base : Nat} {spare : Nat → Bool} {held : Bool}
set_option maxRecDepth 100000 in
theorem u32_open {r : Reach} {b0 : Nat} {v : Value} {d : DataW H} {p : List MemPlace} (hv : Value.okWide Try.prog w r b0 37 v) (h : DataW.Trod enc Try.prog w base spare held 37 v d p) : ∃ n : Nat, v = .int .u32 (n : Int) ∧ n < 4294967296 := by
  obtain ⟨a, rfl⟩ := okWide_int Try.underlying37 hv
  obtain ⟨fuel, hf⟩ := h
  obtain ⟨b, eb, _, wb⟩ := DataW.trod_int Try.underlying37 hf
  simp [Value.cells] at eb
  subst eb
  obtain ⟨h1, h2⟩ := bounds_u32 wb
  obtain ⟨n, rfl⟩ := Int.eq_ofNat_of_zero_le h1
  exact ⟨n, rfl, by omega⟩
set_option maxRecDepth 100000 in
theorem places_open {r : Reach} {b0 : Nat} {v : Value} {d : DataW H} {p : List MemPlace} (hv : Value.okWide Try.prog w r b0 23 v) (h : DataW.Trod enc Try.prog w base spare held 23 v d p) : ∃ f t rv a, v = .agg #[.int .i64 f, .int .i64 t, .bool rv, .int .i64 a] := by
  obtain ⟨cs, rfl, hsz⟩ := okWide_struct Try.underlying23 hv
  obtain ⟨l⟩ := cs
  have hC : Try.prog.cellsOf 23 = 4 := by kernel_rfl
  match l, hsz.trans hC with
  | [c0, c1, c2, c3], _ =>
    obtain ⟨fuel, hf⟩ := h
    obtain ⟨xs, n, _, hx, _, hlen, hg⟩ := DataW.trod_struct Try.underlying23 hf
    have g0 : DataW.trod enc Try.prog w base spare held n 3 (([c0, c1, c2, c3].drop 0).take (Try.prog.cellsOf 3)) = xs[0]? := hg 0 _ rfl
    have g1 : DataW.trod enc Try.prog w base spare held n 3 (([c0, c1, c2, c3].drop 1).take (Try.prog.cellsOf 3)) = xs[1]? := hg 1 _ rfl
    have g2 : DataW.trod enc Try.prog w base spare held n 4 (([c0, c1, c2, c3].drop 2).take (Try.prog.cellsOf 4)) = xs[2]? := hg 2 _ rfl
    have g3 : DataW.trod enc Try.prog w base spare held n 3 (([c0, c1, c2, c3].drop 3).take (Try.prog.cellsOf 3)) = xs[3]? := hg 3 _ rfl
    rw [show Try.prog.cellsOf 3 = 1 from by kernel_rfl] at g0 g1 g3
    rw [show Try.prog.cellsOf 4 = 1 from by kernel_rfl] at g2
    match xs, hlen with
    | [y0, y1, y2, y3], _ =>
      simp at g0 g1 g2 g3
      obtain ⟨a0, e0, _, _⟩ := DataW.trod_int Try.underlying3 g0
      obtain ⟨a1, e1, _, _⟩ := DataW.trod_int Try.underlying3 g1
      obtain ⟨a2, e2, _⟩ := DataW.trod_bool Try.underlying4 g2
      obtain ⟨a3, e3, _, _⟩ := DataW.trod_int Try.underlying3 g3
      simp at e0 e1 e2 e3
      exact ⟨a0, a1, a2, a3, by rw [e0, e1, e2, e3]⟩
set_option maxRecDepth 100000 in
theorem three_open {r : Reach} {b0 : Nat} {v : Value} {d : DataW H} {p : List MemPlace} (hv : Value.okWide Try.prog w r b0 61 v) (h : DataW.Trod enc Try.prog w base spare held 61 v d p) : ∃ a b c, v = .agg #[.int .i64 a, .int .i64 b, .int .i64 c] := by
  obtain ⟨cs, rfl, hsz⟩ := okWide_struct Try.underlying61 hv
  obtain ⟨l⟩ := cs
  have hC : Try.prog.cellsOf 61 = 3 := by kernel_rfl
  match l, hsz.trans hC with
  | [c0, c1, c2], _ =>
    obtain ⟨fuel, hf⟩ := h
    obtain ⟨xs, n, _, hx, _, hlen, hg⟩ := DataW.trod_struct Try.underlying61 hf
    have g0 : DataW.trod enc Try.prog w base spare held n 3 (([c0, c1, c2].drop 0).take (Try.prog.cellsOf 3)) = xs[0]? := hg 0 _ rfl
    have g1 : DataW.trod enc Try.prog w base spare held n 3 (([c0, c1, c2].drop 1).take (Try.prog.cellsOf 3)) = xs[1]? := hg 1 _ rfl
    have g2 : DataW.trod enc Try.prog w base spare held n 3 (([c0, c1, c2].drop 2).take (Try.prog.cellsOf 3)) = xs[2]? := hg 2 _ rfl
    rw [show Try.prog.cellsOf 3 = 1 from by kernel_rfl] at g0 g1 g2
    match xs, hlen with
    | [y0, y1, y2], _ =>
      simp at g0 g1 g2
      obtain ⟨a0, e0, _, _⟩ := DataW.trod_int Try.underlying3 g0
      obtain ⟨a1, e1, _, _⟩ := DataW.trod_int Try.underlying3 g1
      obtain ⟨a2, e2, _, _⟩ := DataW.trod_int Try.underlying3 g2
      simp at e0 e1 e2
      exact ⟨a0, a1, a2, by rw [e0, e1, e2]⟩
end
end Go.Proofs.Ytilkgocpkhionaa
namespace Go.Proofs.Ytilkgocpkhionaa
open Go.ChangeShapes Go.WideShapes Go.ChangeAt Go.RowKit Go.Deep Go.Joins
set_option maxRecDepth 100000 in
theorem seamPartner_lifted (os : Os) (started : os.Started) (H : Type) (enc : TypeId × Value → H) :
    ReturnsInHanded {} Try.checked os 5 .any (Rows.seamPartnerSpec.pre6 enc Try.prog Try.f5 Rows.seamPartnerRow.domain false) (Rows.seamPartnerSpec.post enc Try.prog Try.f5 false true false false) := by
  refine returnsInHanded_of_change (C := Try.checked) Try.own started (by kernel_rfl) Try.func5
    (ChangeSpec.witness6 (enc := enc) (C := Try.checked) false ⟨#[], #[.int .u32 0, .int .u32 0, .int .u32 0], []⟩ 8 (by kernel_rfl) (by kernel_rfl) (by kernel_rfl) (by kernel_rfl)) ?_
  intro W base args ds gs before hval0 hW hcnd _
  have hval : ∀ (j : Nat) t v, Try.f5.params[j]? = some t → args[j]? = some v → Value.okWide Try.prog W .any base t v := hval0
  have hW' := hW
  obtain ⟨p, q, hA0, hV, rfl, hfz, hnd⟩ := hW
  have hA : DataW.TrodAll enc Try.prog W 0 (fun _ => true) true Try.f5.params.toList args.toList ds p := hA0
  rw [Try.params5] at hA hval
  obtain ⟨v0, vs0, d0, ds0, p0, q0, hargs, rfl, rfl, h0, r0⟩ := trodAll_cons hA
  obtain ⟨v1, vs1, d1, ds1, p1, q1, rfl, rfl, rfl, h1, r1⟩ := trodAll_cons r0
  obtain ⟨v2, vs2, d2, ds2, p2, q2, rfl, rfl, rfl, h2, r2⟩ := trodAll_cons r1
  obtain ⟨rfl, rfl, rfl⟩ := trodAll_nil r2
  obtain rfl : args = #[v0, v1, v2] := by cases args; simp_all
  obtain ⟨rfl, rfl⟩ := trodVars_none hV
  have k0 := h0
  have lt0 : ∀ x ∈ p0, x.block < W.heap.size := by obtain ⟨m, hm⟩ := k0; exact DataW.trod_lt m _ _ _ hm
  obtain ⟨a0, hv0, wf0⟩ := u32_open (hval 0 37 v0 rfl rfl) h0
  subst hv0
  have k1 := h1
  have lt1 : ∀ x ∈ p1, x.block < W.heap.size := by obtain ⟨m, hm⟩ := k1; exact DataW.trod_lt m _ _ _ hm
  obtain ⟨a1, hv1, wf1⟩ := u32_open (hval 1 37 v1 rfl rfl) h1
  subst hv1
  have k2 := h2
  have lt2 : ∀ x ∈ p2, x.block < W.heap.size := by obtain ⟨m, hm⟩ := k2; exact DataW.trod_lt m _ _ _ hm
  obtain ⟨a2, hv2, wf2⟩ := u32_open (hval 2 37 v2 rfl rfl) h2
  subst hv2
  clear hA0 hval0
  refine (partnerL_any a0 a1 a2 W wf0 wf1 wf2).mono fun e W' ⟨he, bel⟩ => ?_
  subst he
  exact ⟨_, rfl, _, _, _, [], _, [], hW', trodAll_mk1 (shut_bool Try.underlying4 _), (trodAll_cons_mk (Below.trod Try.laidOut (by kernel_rfl) (of_decide_eq_true (by kernel_rfl)) k0 bel lt0) (trodAll_cons_mk (Below.trod Try.laidOut (by kernel_rfl) (of_decide_eq_true (by kernel_rfl)) k1 bel lt1) (trodAll_cons_mk (Below.trod Try.laidOut (by kernel_rfl) (of_decide_eq_true (by kernel_rfl)) k2 bel lt2) trodAll_mk0))), rfl, Below.frame bel _, fun h => by cases h⟩
theorem seamPartner_holds : Rows.SeamPartnerSaid :=
  OpenClaim.holds_of_wide 5 Try.f5 rfl rfl rfl rfl rfl rfl rfl ⟨rfl, rfl, rfl, rfl, rfl⟩ rfl rfl rfl rfl rfl (by kernel_rfl) Try.func5 (by kernel_rfl)
    (of_decide_eq_true (by kernel_rfl)) (by unfold Func.isWrapper; first | (rw [if_pos (by decide +kernel)]; kernel_rfl) | (rw [if_neg (by decide +kernel)]; exact ⟨rfl, rfl⟩))
    (fun os started H enc _ => seamPartner_lifted os started H enc)
end Go.Proofs.Ytilkgocpkhionaa

