/- Plain: turning a piece twice is turning it by the composition; the inverse leads back. -/
import Derived.Test.YtpmfikkcidgoeaaTurnR
import Derived.Test.YtpmfikkcidgoeaaComp
namespace Go.Proofs.Ytpmfikkcidgoeaa
open Go.RowKit
theorem neg_neg64 {x : Int} (h0 : -9223372036854775808 ≤ x) (h1 : x ≤ 9223372036854775807) : wrap64 (-wrap64 (-x)) = x := by
  by_cases h : x = -9223372036854775808
  · subst h; unfold wrap64; omega
  · rw [w64 (x := -x) (by omega) (by omega), w64 (by omega) (by omega)]; omega
theorem apply_comp (fa fb : Bool) (qa qb : Int) {s : Spot} (h : wfS s) : applyT fb qb (applyT fa qa s) = applyT (fa != fb) (compQ fb qa qb) s := by
  obtain ⟨x, y⟩ := s
  obtain ⟨x0, x1, y0, y1⟩ := h
  have hx := neg_neg64 x0 x1
  have hy := neg_neg64 y0 y1
  have ra : qa % 4 = 0 ∨ qa % 4 = 1 ∨ qa % 4 = 2 ∨ qa % 4 = 3 := by omega
  have rb : qb % 4 = 0 ∨ qb % 4 = 1 ∨ qb % 4 = 2 ∨ qb % 4 = 3 := by omega
  unfold applyT compQ
  rcases ra with ra | ra | ra | ra <;> rcases rb with rb | rb | rb | rb <;> cases fa <;> cases fb <;> simp [ra, rb, quarts, quart, flipS, hx, hy]
theorem turnI_comp (fa fb : Bool) {n i : Nat} (hi : i < n) : turnI fa n (turnI fb n i) = turnI (fa != fb) n i := by
  cases fa <;> cases fb
  · rfl
  · rfl
  · rfl
  · rw [turnI_turnI hi]; rfl
theorem turnJ_comp (fa fb : Bool) {n i : Nat} (hi : i < n) : (if fa = true then (n - (if fb = true then (n - i + 1) % n else i) + 1) % n else (if fb = true then (n - i + 1) % n else i)) = (if (fa != fb) = true then (n - i + 1) % n else i) := by
  cases fa <;> cases fb
  · rfl
  · rfl
  · rfl
  · exact turnJ_turnJ (f := true) hi
theorem turnL_comp (fa fb : Bool) (qa qb : Int) {l : List Spot} (h : WfL l) : turnL fb qb (turnL fa qa l) = turnL (fa != fb) (compQ fb qa qb) l := by
  refine list_ext_gS' (by rw [turnL_len, turnL_len, turnL_len]) fun k hk => ?_
  rw [turnL_len, turnL_len] at hk
  rw [turnL_get (by rw [turnL_len]; exact hk), turnL_len, turnL_get (by split <;> omega), turnL_get hk, apply_comp fa fb qa qb (h _ (by split <;> split <;> omega))]
  congr 2
  cases fa <;> cases fb <;> simp
  omega
theorem turnE_comp (fa fb : Bool) (qa qb : Int) {es : List Edge} (h : WfE es) : turnE fb qb (turnE fa qa es) = turnE (fa != fb) (compQ fb qa qb) es := by
  refine list_ext_gE (by rw [turnE_len, turnE_len, turnE_len]) fun i hi => ?_
  rw [turnE_len, turnE_len] at hi
  rw [turnE_get (by rw [turnE_len]; exact hi), turnE_len, turnE_get (turnI_lt hi), turnE_get hi, turnI_comp fa fb hi, turnL_comp fa fb qa qb (h _ (turnI_lt hi))]
theorem turnC_comp (fa fb : Bool) (qa qb : Int) {cs : List Spot} {n : Nat} (hn : cs.length = n) (h : WfL cs) : turnC fb qb n (turnC fa qa n cs) = turnC (fa != fb) (compQ fb qa qb) n cs := by
  refine list_ext_gS' (by rw [turnC_len, turnC_len, turnC_len]) fun i hi => ?_
  rw [turnC_len, turnC_len, hn] at hi
  have hj := turnJ_lt (f := fb) hi
  rw [turnC_get fb qb (by rw [turnC_len]; exact hn) hi, turnC_get fa qa hn hj, turnC_get _ _ hn hi, turnJ_comp fa fb hi]
  refine apply_comp fa fb qa qb (h _ ?_)
  rw [hn]; exact turnJ_lt hi
theorem turnW_len (f : Bool) (n : Nat) (ws : List Int) : (turnW f n ws).length = ws.length := by
  unfold turnW mirW
  split
  · split
    · rw [mixI_len]
    · rfl
  · rfl
theorem turnW_get (f : Bool) {ws : List Int} {n i : Nat} (hn : ws.length = n) (hi : i < n) : gI (turnW f n ws) i = gI ws (turnI f n i) := by
  unfold turnW turnI
  cases f
  · rfl
  · simp only [if_true]
    unfold mirW
    rw [if_pos hn, mixI_get (by omega), if_pos hi]; rfl
theorem turnW_comp (fa fb : Bool) {ws : List Int} {n : Nat} (hn : ws.length = n) : turnW fb n (turnW fa n ws) = turnW (fa != fb) n ws := by
  refine list_ext_gI (by rw [turnW_len, turnW_len, turnW_len]) fun i hi => ?_
  rw [turnW_len, turnW_len, hn] at hi
  rw [turnW_get fb (by rw [turnW_len]; exact hn) hi, turnW_get fa hn (turnI_lt hi), turnW_get _ hn hi, turnI_comp fa fb hi]
/- lengths -/
theorem sqN_dot (p q : Spot) : sqN p q = (dotX q p q).toNat := rfl
theorem sqN_comm (p q : Spot) : sqN p q = sqN q p := by
  unfold sqN
  rw [show p.1 - q.1 = -(q.1 - p.1) from by omega, show p.2 - q.2 = -(q.2 - p.2) from by omega, Int.neg_mul_neg, Int.neg_mul_neg]
theorem seg_turn (f : Bool) (q : Int) {a b : Spot} (ha : inB a) (hb : inB b) : seg (applyT f q a) (applyT f q b) = seg a b := by
  unfold seg; rw [sqN_dot, sqN_dot, (pres_apply f q).dt b a b hb ha hb]
def sumN (g : Nat → Nat) : Nat → Nat
  | 0 => 0
  | k + 1 => sumN g k + g k
theorem lenTo_sum (l : List Spot) : ∀ k, lenTo l k = sumN (fun i => seg (gS l i) (gS l (i + 1))) k
  | 0 => rfl
  | k + 1 => by simp only [lenTo, sumN]; rw [lenTo_sum l k]
theorem sumN_congr {g h : Nat → Nat} {n : Nat} (e : ∀ i, i < n → g i = h i) : ∀ k, k ≤ n → sumN g k = sumN h k
  | 0, _ => rfl
  | k + 1, hk => by simp only [sumN]; rw [sumN_congr e k (by omega), e k (by omega)]
theorem sumN_first (g : Nat → Nat) : ∀ n, sumN g (n + 1) = g 0 + sumN (fun i => g (i + 1)) n
  | 0 => by simp [sumN]
  | n + 1 => by have h := sumN_first g n; simp only [sumN] at h ⊢; omega
theorem sumN_rev : ∀ (n : Nat) (g : Nat → Nat), sumN (fun i => g (n - 1 - i)) n = sumN g n
  | 0, _ => rfl
  | n + 1, g => by
    have h := sumN_first (fun i => g (n + 1 - 1 - i)) n
    rw [h]
    have e : sumN (fun i => g (n + 1 - 1 - (i + 1))) n = sumN (fun i => g (n - 1 - i)) n := sumN_congr (n := n) (fun i _ => by congr 1; omega) n (Nat.le_refl _)
    rw [e, sumN_rev n g]
    simp only [sumN, Nat.add_sub_cancel, Nat.sub_zero]; omega
theorem lengthN_turn (f : Bool) (q : Int) {l : List Spot} (h : lcheck l = 0) : lengthN (turnL f q l) = lengthN l := by
  obtain ⟨h2, h40, hin, _⟩ := (lcheck_iff l).1 h
  have hw : WfL l := fun k hk => inB_wf (hin k hk)
  unfold lengthN
  rw [if_neg (by rw [(turnL_lcheck hw).2 h]; decide), if_neg (by rw [h]; decide), turnL_len, lenTo_sum, lenTo_sum]
  cases f
  · refine sumN_congr (n := l.length - 1) (fun i hi => ?_) _ (Nat.le_refl _)
    rw [turnL_get (by omega), turnL_get (by omega)]
    simp only [Bool.false_eq_true, if_false]
    exact seg_turn false q (hin _ (by omega)) (hin _ (by omega))
  · rw [← sumN_rev (l.length - 1) (fun i => seg (gS l i) (gS l (i + 1)))]
    refine sumN_congr (n := l.length - 1) (fun i hi => ?_) _ (Nat.le_refl _)
    rw [turnL_get (by omega), turnL_get (by omega)]
    simp only [if_true]
    rw [seg_turn true q (hin _ (by omega)) (hin _ (by omega))]
    unfold seg
    rw [sqN_comm, show l.length - 1 - 1 - i = l.length - 1 - (i + 1) from by omega, show l.length - 1 - (i + 1) + 1 = l.length - 1 - i from by omega]
/- notches on the edges -/
def NOk (es : List Edge) (ns : List Spot) : Prop := ∀ k, k < ns.length → 0 ≤ (gS ns k).1 ∧ (gS ns k).1 < es.length ∧ 0 ≤ (gS ns k).2 ∧ (gS ns k).2 ≤ lengthN (gE es (gS ns k).1.toNat).2
theorem mirNs_len (es : List Edge) (ns : List Spot) : (mirNs es ns).length = ns.length := by unfold mirNs; rw [mixS_len]
theorem turnNs_len (f : Bool) (es : List Edge) (ns : List Spot) : (turnNs f es ns).length = ns.length := by unfold turnNs; split <;> simp [mirNs_len]
theorem mirNs_get {es : List Edge} {ns : List Spot} (h : NOk es ns) {k : Nat} (hk : k < ns.length) : gS (mirNs es ns) k = ((((es.length - (gS ns k).1.toNat) % es.length : Nat) : Int), (lengthN (gE es (gS ns k).1.toNat).2 : Int) - (gS ns k).2) := by
  obtain ⟨a, b, c, d⟩ := h k hk
  unfold mirNs
  rw [mixS_get hk, if_pos hk]
  unfold mirNF mirN mirAt
  rw [if_pos ⟨a, b⟩, if_pos ⟨c, d⟩]
theorem turnNs_comp (fa fb : Bool) (qa : Int) {es : List Edge} {ns : List Spot} (hl : ∀ i, i < es.length → lcheck (gE es i).2 = 0) (h : NOk es ns) : turnNs fb (turnE fa qa es) (turnNs fa es ns) = turnNs (fa != fb) es ns := by
  have hlen : ∀ i, i < es.length → lengthN (gE (turnE fa qa es) i).2 = lengthN (gE es (turnI fa es.length i)).2 := fun i hi => by
    rw [turnE_get hi]; exact lengthN_turn fa qa (hl _ (turnI_lt hi))
  cases fb
  · cases fa <;> rfl
  · cases fa
    · show mirNs (turnE false qa es) ns = mirNs es ns
      have h' : NOk (turnE false qa es) ns := fun k hk => by
        obtain ⟨a, b, c, d⟩ := h k hk
        refine ⟨a, by rw [turnE_len]; exact b, c, ?_⟩
        rw [hlen _ (by omega)]; exact d
      refine list_ext_gS' (by rw [mirNs_len, mirNs_len]) fun k hk => ?_
      rw [mirNs_len] at hk
      obtain ⟨a, b, _, _⟩ := h k hk
      rw [mirNs_get h' hk, mirNs_get h hk, turnE_len, hlen _ (by omega)]; rfl
    · show mirNs (turnE true qa es) (mirNs es ns) = ns
      have hi : ∀ k, k < ns.length → ((((es.length - (gS ns k).1.toNat) % es.length : Nat) : Int)).toNat = turnI true es.length (gS ns k).1.toNat := fun k hk => by unfold turnI; rw [if_pos rfl]; omega
      have h' : NOk (turnE true qa es) (mirNs es ns) := fun k hk => by
        rw [mirNs_len] at hk
        obtain ⟨a, b, c, d⟩ := h k hk
        have hlt := turnI_lt (f := true) (n := es.length) (i := (gS ns k).1.toNat) (by omega)
        rw [mirNs_get h hk]
        simp only
        refine ⟨by omega, ?_, by omega, ?_⟩
        · rw [turnE_len]
          have := Nat.mod_lt (es.length - (gS ns k).1.toNat) (show 0 < es.length by omega)
          omega
        · rw [hi k hk, hlen _ hlt, turnI_turnI (by omega)]; omega
      refine list_ext_gS' (by rw [mirNs_len, mirNs_len]) fun k hk => ?_
      rw [mirNs_len, mirNs_len] at hk
      obtain ⟨a, b, c, d⟩ := h k hk
      have hlt := turnI_lt (f := true) (n := es.length) (i := (gS ns k).1.toNat) (by omega)
      rw [mirNs_get h' (by rw [mirNs_len]; exact hk), mirNs_get h hk]
      simp only
      rw [hi k hk, hlen _ hlt, turnI_turnI (by omega), turnE_len]
      have e : (es.length - turnI true es.length (gS ns k).1.toNat) % es.length = (gS ns k).1.toNat := turnI_turnI (f := true) (n := es.length) (i := (gS ns k).1.toNat) (by omega)
      rw [e]
      exact Prod.ext (by simp only; omega) (by simp only; omega)
/- the inverse -/
theorem compQ_inv (f : Bool) (q : Int) : compQ f q (invQ f q) = 0 := by
  unfold compQ invQ
  cases f <;> simp only [Bool.false_eq_true, if_false, if_true] <;> omega
theorem apply_id {s : Spot} : applyT false 0 s = s := rfl
theorem turnL_id (l : List Spot) : turnL false 0 l = l := by
  unfold turnL; rw [if_neg (by decide)]
  conv => rhs; rw [← List.map_id l]
  rfl
theorem turnE_id (es : List Edge) : turnE false 0 es = es := by
  refine list_ext_gE (turnE_len _ _ _) fun i hi => ?_
  rw [turnE_len] at hi
  rw [turnE_get hi, turnL_id]; rfl
theorem turnC_id (n : Nat) (cs : List Spot) : turnC false 0 n cs = cs := by
  unfold turnC; rw [if_neg (by decide)]
  conv => rhs; rw [← List.map_id cs]
  rfl
end Go.Proofs.Ytpmfikkcidgoeaa
