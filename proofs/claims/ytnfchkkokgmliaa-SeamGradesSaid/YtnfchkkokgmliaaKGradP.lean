/- plain: congruent edges whose ends are shifted alike stay congruent and equally long; no program in sight -/
import Derived.Test.YtnfchkkokgmliaaKTurnP
import Derived.Test.YtnfchkkokgmliaaKCong
/- Plain: moves and multiples under turns. No program in sight. -/
namespace Go.Proofs.Ytnfchkkokgmliaa
open Go.RowKit
def inR (B : Int) (s : Spot) : Prop := -B ≤ s.1 ∧ s.1 ≤ B ∧ -B ≤ s.2 ∧ s.2 ≤ B
theorem inR_wf {B : Int} {s : Spot} (hB : B ≤ 9223372036854775807) (h : inR B s) : wfS s := by obtain ⟨h1, h2, h3, h4⟩ := h; exact ⟨by omega, by omega, by omega, by omega⟩
theorem inR_quart {B : Int} (_ : B ≤ 9223372036854775807) {s : Spot} (h : wfS s) : inR B (quart s) ↔ inR B s := by
  obtain ⟨h1, h2, h3, h4⟩ := h
  unfold quart inR
  rw [wneg h3 h4]
  split <;> (simp only; omega)
theorem inR_flip {B : Int} (_ : B ≤ 9223372036854775807) {s : Spot} (h : wfS s) : inR B (flipS true s) ↔ inR B s := by
  obtain ⟨h1, h2, h3, h4⟩ := h
  have e : flipS true s = (if s.1 = -9223372036854775808 then s.1 else -s.1, s.2) := by unfold flipS; rw [if_pos rfl, wneg h1 h2]
  rw [e]
  unfold inR
  by_cases h : s.1 = -9223372036854775808
  · simp only [if_pos h]
  · simp only [if_neg h]; omega
theorem inR_quarts {B : Int} (hB : B ≤ 9223372036854775807) {s : Spot} (h : wfS s) : ∀ n, inR B (quarts n s) ↔ inR B s
  | 0 => Iff.rfl
  | n + 1 => (inR_quart hB (wfS_quarts h n).1).trans (inR_quarts hB h n)
theorem inR_apply {B : Int} (hB : B ≤ 9223372036854775807) {s : Spot} (h : wfS s) (f : Bool) (q : Int) : inR B (applyT f q s) ↔ inR B s := by
  cases f
  · exact inR_quarts hB h _
  · exact (inR_quarts hB (wfS_flip h).1 _).trans (inR_flip hB h)
theorem quart_R {B : Int} (hB : B ≤ 9223372036854775807) {s : Spot} (h : inR B s) : quart s = (-s.2, s.1) := by
  obtain ⟨h1, h2, h3, h4⟩ := h
  unfold quart; rw [w64 (by omega) (by omega)]
theorem flip_R {B : Int} (hB : B ≤ 9223372036854775807) {s : Spot} (h : inR B s) : flipS true s = (-s.1, s.2) := by
  obtain ⟨h1, h2, h3, h4⟩ := h
  unfold flipS; rw [if_pos rfl, w64 (by omega) (by omega)]
/- one moved vertex -/
def mv1 (v a b : Spot) (s k : Int) : Spot := (mvx a.1 b.1 v.1 s k, mvx a.2 b.2 v.2 s k)
theorem mix_bd {a b s k : Int} (hs : 1 ≤ s) (hk : 0 ≤ k) (hks : k ≤ s) (ha : -100000 ≤ a ∧ a ≤ 100000) (hb : -100000 ≤ b ∧ b ≤ 100000) : -100000 ≤ rnd ((s - k) * a + k * b) s ∧ rnd ((s - k) * a + k * b) s ≤ 100000 := by
  have a1 := Int.mul_le_mul_of_nonneg_left ha.2 (show 0 ≤ s - k by omega)
  have a2 := Int.mul_le_mul_of_nonneg_left ha.1 (show 0 ≤ s - k by omega)
  have b1 := Int.mul_le_mul_of_nonneg_left hb.2 hk
  have b2 := Int.mul_le_mul_of_nonneg_left hb.1 hk
  refine rnd_bd _ _ 100000 hs ?_ ?_
  · omega
  · omega
theorem mvx_eq {a b v s k : Int} (hs : 1 ≤ s) (hk : 0 ≤ k) (hks : k ≤ s) (ha : -100000 ≤ a ∧ a ≤ 100000) (hb : -100000 ≤ b ∧ b ≤ 100000) (hv : -1048576 ≤ v ∧ v ≤ 1048576) : mvx a b v s k = v + rnd ((s - k) * a + k * b) s := by
  have := mix_bd hs hk hks ha hb
  unfold mvx; exact w64 (by omega) (by omega)
theorem mvx_neg {a b v s k : Int} (hs : 1 ≤ s) (hk : 0 ≤ k) (hks : k ≤ s) (ha : -100000 ≤ a ∧ a ≤ 100000) (hb : -100000 ≤ b ∧ b ≤ 100000) (hv : -1048576 ≤ v ∧ v ≤ 1048576) : mvx (-a) (-b) (-v) s k = - mvx a b v s k := by
  rw [mvx_eq hs hk hks (by omega) (by omega) (by omega), mvx_eq hs hk hks ha hb hv]
  rw [show (s - k) * -a + k * -b = -((s - k) * a + k * b) from by rw [Int.mul_neg, Int.mul_neg]; omega, rnd_neg _ _ hs]; omega
theorem mv1_in {v a b : Spot} {s k : Int} (hs : 1 ≤ s) (hk : 0 ≤ k) (hks : k ≤ s) (hv : inR 1048576 v) (ha : inR 100000 a) (hb : inR 100000 b) : inR 2000000 (mv1 v a b s k) := by
  obtain ⟨v1, v2, v3, v4⟩ := hv; obtain ⟨a1, a2, a3, a4⟩ := ha; obtain ⟨b1, b2, b3, b4⟩ := hb
  have m1 := mix_bd hs hk hks ⟨a1, a2⟩ ⟨b1, b2⟩
  have m2 := mix_bd hs hk hks ⟨a3, a4⟩ ⟨b3, b4⟩
  unfold mv1 inR
  simp only
  rw [mvx_eq hs hk hks ⟨a1, a2⟩ ⟨b1, b2⟩ ⟨v1, v2⟩, mvx_eq hs hk hks ⟨a3, a4⟩ ⟨b3, b4⟩ ⟨v3, v4⟩]
  omega
def Comm (T : Spot → Spot) : Prop := ∀ v a b s k, 1 ≤ s → 0 ≤ k → k ≤ s → inR 1048576 v → inR 100000 a → inR 100000 b → mv1 (T v) (T a) (T b) s k = T (mv1 v a b s k)
theorem comm_quart : Comm quart := fun v a b s k hs hk hks hv ha hb => by
  rw [quart_R (by omega) hv, quart_R (by omega) ha, quart_R (by omega) hb, quart_R (B := 2000000) (by omega) (mv1_in hs hk hks hv ha hb)]
  unfold mv1
  simp only
  rw [mvx_neg hs hk hks ⟨ha.2.2.1, ha.2.2.2⟩ ⟨hb.2.2.1, hb.2.2.2⟩ ⟨hv.2.2.1, hv.2.2.2⟩]
theorem comm_flip : Comm (flipS true) := fun v a b s k hs hk hks hv ha hb => by
  rw [flip_R (by omega) hv, flip_R (by omega) ha, flip_R (by omega) hb, flip_R (B := 2000000) (by omega) (mv1_in hs hk hks hv ha hb)]
  unfold mv1
  simp only
  rw [mvx_neg hs hk hks ⟨ha.1, ha.2.1⟩ ⟨hb.1, hb.2.1⟩ ⟨hv.1, hv.2.1⟩]
theorem comm_quarts : ∀ n, Comm (quarts n)
  | 0 => fun _ _ _ _ _ _ _ _ _ _ _ => rfl
  | n + 1 => fun v a b s k hs hk hks hv ha hb => by
    show mv1 (quart (quarts n v)) (quart (quarts n a)) (quart (quarts n b)) s k = quart (quarts n (mv1 v a b s k))
    rw [comm_quart _ _ _ s k hs hk hks ((inR_quarts (by omega) (inR_wf (by omega) hv) n).2 hv) ((inR_quarts (by omega) (inR_wf (by omega) ha) n).2 ha) ((inR_quarts (by omega) (inR_wf (by omega) hb) n).2 hb), comm_quarts n v a b s k hs hk hks hv ha hb]
theorem comm_apply (f : Bool) (q : Int) : Comm (applyT f q) := by
  cases f
  · exact comm_quarts _
  · intro v a b s k hs hk hks hv ha hb
    show mv1 (quarts _ (flipS true v)) (quarts _ (flipS true a)) (quarts _ (flipS true b)) s k = quarts _ (flipS true (mv1 v a b s k))
    rw [comm_quarts _ _ _ _ s k hs hk hks ((inR_flip (by omega) (inR_wf (by omega) hv)).2 hv) ((inR_flip (by omega) (inR_wf (by omega) ha)).2 ha) ((inR_flip (by omega) (inR_wf (by omega) hb)).2 hb), comm_flip v a b s k hs hk hks hv ha hb]
def CommM (m : Int) (T : Spot → Spot) : Prop := ∀ c, inR 1000 c → mulS m (T c) = T (mulS m c)
theorem mulS_R {m : Int} (h0 : -100 ≤ m) (h1 : m ≤ 100) {c : Spot} (h : inR 1000 c) : mulS m c = (m * c.1, m * c.2) ∧ inR 100000 (mulS m c) := by
  have e := mulS_eq h0 h1 h
  rw [e]
  exact ⟨rfl, (mul_100 h0 h1 h.1 h.2.1).1, (mul_100 h0 h1 h.1 h.2.1).2, (mul_100 h0 h1 h.2.2.1 h.2.2.2).1, (mul_100 h0 h1 h.2.2.1 h.2.2.2).2⟩
section
variable {m : Int} (h0 : -100 ≤ m) (h1 : m ≤ 100)
include h0 h1
theorem commM_quart : CommM m quart := fun c hc => by
  obtain ⟨e, hr⟩ := mulS_R h0 h1 hc
  have hc' := (inR_quart (by omega) (inR_wf (by omega) hc)).2 hc
  rw [(mulS_R h0 h1 hc').1, quart_R (by omega) hr, quart_R (by omega) hc, e]
  simp [Int.mul_neg]
theorem commM_flip : CommM m (flipS true) := fun c hc => by
  obtain ⟨e, hr⟩ := mulS_R h0 h1 hc
  have hc' := (inR_flip (by omega) (inR_wf (by omega) hc)).2 hc
  rw [(mulS_R h0 h1 hc').1, flip_R (by omega) hr, flip_R (by omega) hc, e]
  simp [Int.mul_neg]
theorem commM_quarts : ∀ n, CommM m (quarts n)
  | 0 => fun _ _ => rfl
  | n + 1 => fun c hc => by
    show mulS m (quart (quarts n c)) = quart (quarts n (mulS m c))
    rw [commM_quart h0 h1 _ ((inR_quarts (by omega) (inR_wf (by omega) hc) n).2 hc), commM_quarts n c hc]
theorem commM_apply (f : Bool) (q : Int) : CommM m (applyT f q) := by
  cases f
  · exact commM_quarts h0 h1 _
  · intro c hc
    show mulS m (quarts _ (flipS true c)) = quarts _ (flipS true (mulS m c))
    rw [commM_quarts h0 h1 _ _ ((inR_flip (by omega) (inR_wf (by omega) hc)).2 hc), commM_flip h0 h1 c hc]
end
theorem mv1_rev (v a b : Spot) (s k : Int) : mv1 v b a s k = mv1 v a b s (s - k) := by
  unfold mv1 mvx
  rw [show s - (s - k) = k from by omega, Int.add_comm ((s - k) * b.1), Int.add_comm ((s - k) * b.2)]
theorem cornF_iff (cs : List Spot) : allB (cornF cs) cs.length = true ↔ ∀ j, j < cs.length → inR 1000 (gS cs j) := by
  rw [allB_iff]
  constructor
  · intro h j hj
    have := h j hj
    simp only [cornF, Bool.and_eq_true, decide_eq_true_eq] at this
    exact ⟨this.1.1, this.1.2, this.2.1, this.2.2⟩
  · intro h j hj
    obtain ⟨a, b, c, d⟩ := h j hj
    simp only [cornF, Bool.and_eq_true, decide_eq_true_eq]
    exact ⟨⟨a, b⟩, c, d⟩
end Go.Proofs.Ytnfchkkokgmliaa
/- Plain: lengths under turns. No program in sight. -/
namespace Go.Proofs.Ytnfchkkokgmliaa
open Go.RowKit
theorem sqN_dot (p q : Spot) : sqN p q = (dotX q p q).toNat := rfl
theorem sqN_comm (p q : Spot) : sqN p q = sqN q p := by
  unfold sqN
  rw [show p.1 - q.1 = -(q.1 - p.1) from by omega, show p.2 - q.2 = -(q.2 - p.2) from by omega, Int.neg_mul_neg, Int.neg_mul_neg]
theorem seg_turn (f : Bool) (q : Int) {a b : Spot} (ha : inB a) (hb : inB b) : seg (applyT f q a) (applyT f q b) = seg a b := by
  unfold seg; rw [sqN_dot, sqN_dot, (pres_apply f q).dt b a b hb ha hb]
def sumN (g : Nat → Nat) : Nat → Nat
  | 0 => 0
  | k + 1 => sumN g k + g k
theorem lenTo_sum (l : List Spot) : ∀ k, lenTo l k = sumN (fun i => seg (gS l i) (gS l (i + 1))) k
  | 0 => rfl
  | k + 1 => by simp only [lenTo, sumN]; rw [lenTo_sum l k]
theorem sumN_congr {g h : Nat → Nat} {n : Nat} (e : ∀ i, i < n → g i = h i) : ∀ k, k ≤ n → sumN g k = sumN h k
  | 0, _ => rfl
  | k + 1, hk => by simp only [sumN]; rw [sumN_congr e k (by omega), e k (by omega)]
theorem sumN_first (g : Nat → Nat) : ∀ n, sumN g (n + 1) = g 0 + sumN (fun i => g (i + 1)) n
  | 0 => by simp [sumN]
  | n + 1 => by have h := sumN_first g n; simp only [sumN] at h ⊢; omega
theorem sumN_rev : ∀ (n : Nat) (g : Nat → Nat), sumN (fun i => g (n - 1 - i)) n = sumN g n
  | 0, _ => rfl
  | n + 1, g => by
    have h := sumN_first (fun i => g (n + 1 - 1 - i)) n
    rw [h]
    have e : sumN (fun i => g (n + 1 - 1 - (i + 1))) n = sumN (fun i => g (n - 1 - i)) n := sumN_congr (n := n) (fun i _ => by congr 1; omega) n (Nat.le_refl _)
    rw [e, sumN_rev n g]
    simp only [sumN, Nat.add_sub_cancel, Nat.sub_zero]; omega
end Go.Proofs.Ytnfchkkokgmliaa
/- plain: congruent lists; no program in sight -/
namespace Go.Proofs.Ytnfchkkokgmliaa
open Go.RowKit
/- the image of a spot under a turn and a move -/
def imgS (f : Bool) (q : Int) (d s : Spot) : Spot := (wrap64 ((applyT f q s).1 + d.1), wrap64 ((applyT f q s).2 + d.2))
theorem tkF_iff (f : Bool) (q : Int) (d : Spot) (a b : List Spot) (i : Nat) : tkF f q d a b i = true ↔ imgS f q d (gS a i) = gS b i := by
  unfold tkF imgS
  rw [Bool.and_eq_true, beq_iff_eq, beq_iff_eq]
  exact ⟨fun h => Prod.ext h.1 h.2, fun h => by rw [← h]; exact ⟨rfl, rfl⟩⟩
def cgI8 (f : Bool) (q : Int) : Nat := (if f = true then 4 else 0) + (q % 4).toNat
theorem cgI8_lt (f : Bool) (q : Int) : cgI8 f q < 8 := by unfold cgI8; split <;> omega
theorem cgI8_f (f : Bool) (q : Int) : cgF (cgI8 f q) = f := by
  unfold cgF cgI8
  cases f
  · simp; omega
  · simp
theorem cgI8_q (f : Bool) (q : Int) : cgQ (cgI8 f q) = q % 4 := by
  unfold cgQ cgI8
  split <;> omega
theorem apply_mod (f : Bool) (q : Int) (s : Spot) : applyT f (q % 4) s = applyT f q s := by unfold applyT; rw [Int.emod_emod]
theorem cgQ_range (i : Nat) : 0 ≤ cgQ i ∧ cgQ i ≤ 3 := by unfold cgQ; omega
/- a list and its image -/
theorem cgB_img {f : Bool} {q : Int} {d : Spot} {a b : List Spot} (hn : a.length ≠ 0) (h : ∀ i, i < a.length → gS b i = imgS f q d (gS a i)) : cgB a b (cgI8 f q) = true := by
  unfold cgB
  rw [allB_iff]
  intro i hi
  rw [tkF_iff, h i hi]
  unfold cgD cgI
  rw [h 0 (by omega), cgI8_f, cgI8_q]
  unfold imgS
  simp only [apply_mod]
  generalize applyT f q (gS a i) = p
  generalize applyT f q (gS a 0) = p0
  simp only [wrap64]
  refine Prod.ext ?_ ?_ <;> simp only <;> omega
theorem cgN_lt {a b : List Spot} {i : Nat} (hi : i < 8) (h : cgB a b i = true) : cgN a b < 8 := by
  rcases Classical.em (∀ j, j < 8 → cgB a b j = false) with h0 | h0
  · rw [h0 i hi] at h; cases h
  · unfold cgN
    have : ((List.range 8).findIdx? (cgB a b)).isSome = true := by
      rw [List.findIdx?_isSome, List.any_eq_true]
      exact ⟨i, List.mem_range.2 hi, h⟩
    obtain ⟨j, hj⟩ := Option.isSome_iff_exists.1 this
    rw [hj]
    rw [List.findIdx?_eq_some_iff_getElem] at hj
    simpa using hj.1
theorem cgN_true {a b : List Spot} (h : cgN a b < 8) : cgB a b (cgN a b) = true := by
  unfold cgN at h ⊢
  cases hj : (List.range 8).findIdx? (cgB a b) with
  | none => rw [hj] at h; simp at h
  | some j =>
    rw [List.findIdx?_eq_some_iff_getElem] at hj
    obtain ⟨hj1, hj2, _⟩ := hj
    simpa using hj2
theorem cgN_img {a b : List Spot} (h : cgN a b < 8) {i : Nat} (hi : i < a.length) : imgS (cgF (cgN a b)) (cgQ (cgN a b)) (cgD a b (cgN a b)) (gS a i) = gS b i := by
  have := cgN_true h
  unfold cgB at this
  rw [allB_iff] at this
  exact (tkF_iff _ _ _ _ _ _).1 (this i hi)
end Go.Proofs.Ytnfchkkokgmliaa
namespace Go.Proofs.Ytnfchkkokgmliaa
open Go.RowKit
theorem inR_inB (s : Spot) : inR 1048576 s ↔ inB s := Iff.rfl
/- the move between two lists within the limits is exact -/
theorem img_exact {f : Bool} {q : Int} {a b : List Spot} {d : Spot} {i : Nat} (ha : inB (gS a 0)) (hb : inB (gS b 0)) (hd : d = (wrap64 ((gS b 0).1 - (applyT f q (gS a 0)).1), wrap64 ((gS b 0).2 - (applyT f q (gS a 0)).2)))
    (hi : inB (gS a i)) (h : imgS f q d (gS a i) = gS b i) : gS b i = ((applyT f q (gS a i)).1 + d.1, (applyT f q (gS a i)).2 + d.2) ∧ inR 4000000 d := by
  have h0 := (wfS_apply (inB_wf ha) f q).2.2 ha
  have h1 := (wfS_apply (inB_wf hi) f q).2.2 hi
  obtain ⟨a1, a2, a3, a4⟩ := h0
  obtain ⟨c1, c2, c3, c4⟩ := h1
  obtain ⟨b1, b2, b3, b4⟩ := hb
  have e1 : wrap64 ((gS b 0).1 - (applyT f q (gS a 0)).1) = (gS b 0).1 - (applyT f q (gS a 0)).1 := w64 (by omega) (by omega)
  have e2 : wrap64 ((gS b 0).2 - (applyT f q (gS a 0)).2) = (gS b 0).2 - (applyT f q (gS a 0)).2 := w64 (by omega) (by omega)
  rw [e1, e2] at hd
  have hdR : inR 4000000 d := by rw [hd]; unfold inR; simp only; omega
  refine ⟨?_, hdR⟩
  rw [← h]
  obtain ⟨d1, d2, d3, d4⟩ := hdR
  unfold imgS
  rw [w64 (by omega) (by omega), w64 (by omega) (by omega)]
/- one vertex -/
theorem mv1_img {f : Bool} {q : Int} {v a b d : Spot} {s k : Int} (hs : 1 ≤ s) (hk : 0 ≤ k) (hks : k ≤ s) (hv : inR 1048576 v) (ha : inR 100000 a) (hb : inR 100000 b) (hw : inR 1048576 ((applyT f q v).1 + d.1, (applyT f q v).2 + d.2)) (hd : inR 4000000 d) :
    mv1 ((applyT f q v).1 + d.1, (applyT f q v).2 + d.2) (applyT f q a) (applyT f q b) s k = imgS f q d (mv1 v a b s k) := by
  have hTv := (inR_apply (B := 1048576) (by omega) (inR_wf (by omega) hv) f q).2 hv
  have hTa := (inR_apply (B := 100000) (by omega) (inR_wf (by omega) ha) f q).2 ha
  have hTb := (inR_apply (B := 100000) (by omega) (inR_wf (by omega) hb) f q).2 hb
  have e := comm_apply f q v a b s k hs hk hks hv ha hb
  have hin := mv1_in hs hk hks hTv hTa hTb
  unfold imgS
  rw [← e]
  obtain ⟨d1, d2, d3, d4⟩ := hd
  obtain ⟨i1, i2, i3, i4⟩ := hin
  rw [w64 (by omega) (by omega), w64 (by omega) (by omega)]
  unfold mv1
  simp only
  rw [mvx_eq hs hk hks ⟨hTa.1, hTa.2.1⟩ ⟨hTb.1, hTb.2.1⟩ ⟨hTv.1, hTv.2.1⟩, mvx_eq hs hk hks ⟨hTa.2.2.1, hTa.2.2.2⟩ ⟨hTb.2.2.1, hTb.2.2.2⟩ ⟨hTv.2.2.1, hTv.2.2.2⟩,
    mvx_eq hs hk hks ⟨hTa.1, hTa.2.1⟩ ⟨hTb.1, hTb.2.1⟩ ⟨hw.1, hw.2.1⟩, mvx_eq hs hk hks ⟨hTa.2.2.1, hTa.2.2.2⟩ ⟨hTb.2.2.1, hTb.2.2.2⟩ ⟨hw.2.2.1, hw.2.2.2⟩]
  refine Prod.ext ?_ ?_ <;> simp only <;> omega
/- a moved line -/
theorem movedS_img {f : Bool} {q : Int} {la lb : List Spot} {d c0 c1 : Spot} (ha : lcheck la = 0) (hb : lcheck lb = 0) (hlen : la.length = lb.length) (hc0 : inR 100000 c0) (hc1 : inR 100000 c1)
    (hd : d = (wrap64 ((gS lb 0).1 - (applyT f q (gS la 0)).1), wrap64 ((gS lb 0).2 - (applyT f q (gS la 0)).2))) (h : ∀ i, i < la.length → imgS f q d (gS la i) = gS lb i) {i : Nat} (hi : i < la.length) :
    gS (movedS lb (applyT f q c0) (applyT f q c1)) i = imgS f q d (gS (movedS la c0 c1) i) := by
  obtain ⟨h2, h40, hin, _⟩ := (lcheck_iff la).1 ha
  obtain ⟨_, _, hin', _⟩ := (lcheck_iff lb).1 hb
  obtain ⟨e, hdR⟩ := img_exact (hin 0 (by omega)) (hin' 0 (by omega)) hd (hin i hi) (h i hi)
  rw [movedS_g (by omega), movedS_g hi]
  have e1 : mvS la c0 c1 i = mv1 (gS la i) c0 c1 ((la.length : Int) - 1) i := rfl
  have e2 : mvS lb (applyT f q c0) (applyT f q c1) i = mv1 (gS lb i) (applyT f q c0) (applyT f q c1) ((la.length : Int) - 1) i := by unfold mvS mv1; rw [hlen]
  have hw := hin' i (by omega)
  rw [e] at hw
  rw [e1, e2, e]
  exact mv1_img (by omega) (by omega) (by omega) (hin i hi) hc0 hc1 hw hdR
/- lengths of images -/
theorem seg_move (a b d : Spot) : seg (a.1 + d.1, a.2 + d.2) (b.1 + d.1, b.2 + d.2) = seg a b := by
  unfold seg sqN
  simp only
  rw [show b.1 + d.1 - (a.1 + d.1) = b.1 - a.1 from by omega, show b.2 + d.2 - (a.2 + d.2) = b.2 - a.2 from by omega]
theorem lengthN_img {f : Bool} {q : Int} {la lb : List Spot} {d : Spot} (ha : lcheck la = 0) (hb : lcheck lb = 0) (hlen : la.length = lb.length) (hd : inR 4000000 d) (h : ∀ i, i < la.length → gS lb i = imgS f q d (gS la i)) : lengthN lb = lengthN la := by
  obtain ⟨h2, h40, hin, _⟩ := (lcheck_iff la).1 ha
  have key : ∀ i, i < la.length → gS lb i = ((applyT f q (gS la i)).1 + d.1, (applyT f q (gS la i)).2 + d.2) := fun i hi => by
    rw [h i hi]
    obtain ⟨c1, c2, c3, c4⟩ := (wfS_apply (inB_wf (hin i hi)) f q).2.2 (hin i hi)
    obtain ⟨d1, d2, d3, d4⟩ := hd
    unfold imgS
    rw [w64 (by omega) (by omega), w64 (by omega) (by omega)]
  unfold lengthN
  rw [if_neg (by rw [hb]; decide), if_neg (by rw [ha]; decide), lenTo_sum, lenTo_sum, ← hlen]
  refine sumN_congr (n := la.length - 1) (fun i hi => ?_) _ (Nat.le_refl _)
  rw [key i (by omega), key (i + 1) (by omega), seg_move, seg_turn f q (hin _ (by omega)) (hin _ (by omega))]
/- two edges of graded pieces -/
theorem grades_plain {es es' : List Edge} {cs cs' : List Spot} {m : Int} {i k : Nat} (hp : GOk es cs m) (hq : GOk es' cs' m) (hi : i < es.length) (hk : k < es'.length)
    (hlen : (gE es i).2.length = (gE es' k).2.length) (hn : cgN (gE es i).2 (gE es' k).2 < 8)
    (h0 : applyT (cgF (cgN (gE es i).2 (gE es' k).2)) (cgQ (cgN (gE es i).2 (gE es' k).2)) (gS cs i) = gS cs' k)
    (h1 : applyT (cgF (cgN (gE es i).2 (gE es' k).2)) (cgQ (cgN (gE es i).2 (gE es' k).2)) (gS cs ((i + 1) % es.length)) = gS cs' ((k + 1) % es'.length)) :
    (gE (gradedE es cs m) i).2.length = (gE (gradedE es' cs' m) k).2.length ∧ cgN (gE (gradedE es cs m) i).2 (gE (gradedE es' cs' m) k).2 < 8 ∧ lengthN (gE (gradedE es cs m) i).2 = lengthN (gE (gradedE es' cs' m) k).2 := by
  have la := ocheck_line hp.ok hi
  have lb := ocheck_line hq.ok hk
  have ga := ocheck_line hp.ok' (i := i) (by rw [gradedE_len]; exact hi)
  have gb := ocheck_line hq.ok' (i := k) (by rw [gradedE_len]; exact hk)
  obtain ⟨h2, h40, hin, _⟩ := (lcheck_iff _).1 la
  obtain ⟨_, _, hin', _⟩ := (lcheck_iff _).1 lb
  have hbd := (cornF_iff cs).1 hp.corn
  have c0 := mulS_R hp.m0 hp.m1 (hbd i (by rw [hp.len]; exact hi))
  have c1 := mulS_R hp.m0 hp.m1 (hbd ((i + 1) % es.length) (by rw [hp.len]; exact Nat.mod_lt _ (by omega)))
  have t0 := commM_apply hp.m0 hp.m1 (cgF (cgN (gE es i).2 (gE es' k).2)) (cgQ (cgN (gE es i).2 (gE es' k).2)) _ (hbd i (by rw [hp.len]; exact hi))
  have t1 := commM_apply hp.m0 hp.m1 (cgF (cgN (gE es i).2 (gE es' k).2)) (cgQ (cgN (gE es i).2 (gE es' k).2)) _ (hbd ((i + 1) % es.length) (by rw [hp.len]; exact Nat.mod_lt _ (by omega)))
  rw [h0] at t0
  rw [h1] at t1
  have himg : ∀ j, j < (gE es i).2.length → imgS _ _ _ (gS (gE es i).2 j) = gS (gE es' k).2 j := fun j hj => cgN_img hn hj
  have hm : ∀ j, j < (gE es i).2.length → gS (movedS (gE es' k).2 (mulS m (gS cs' k)) (mulS m (gS cs' ((k + 1) % es'.length)))) j = imgS (cgF (cgN (gE es i).2 (gE es' k).2)) (cgQ (cgN (gE es i).2 (gE es' k).2)) (cgD (gE es i).2 (gE es' k).2 (cgN (gE es i).2 (gE es' k).2)) (gS (movedS (gE es i).2 (mulS m (gS cs i)) (mulS m (gS cs ((i + 1) % es.length)))) j) := fun j hj => by
    rw [t0, t1]
    exact movedS_img la lb hlen c0.2 c1.2 rfl himg hj
  have eA : (gE (gradedE es cs m) i).2 = movedS (gE es i).2 (mulS m (gS cs i)) (mulS m (gS cs ((i + 1) % es.length))) := by
    rw [gradedE_get hi]; unfold gradedAt; simp only; rw [hp.len, Nat.mod_eq_of_lt hi]
  have eB : (gE (gradedE es' cs' m) k).2 = movedS (gE es' k).2 (mulS m (gS cs' k)) (mulS m (gS cs' ((k + 1) % es'.length))) := by
    rw [gradedE_get hk]; unfold gradedAt; simp only; rw [hq.len, Nat.mod_eq_of_lt hk]
  rw [← eA, ← eB] at hm
  have lA : (gE (gradedE es cs m) i).2.length = (gE es i).2.length := by rw [eA, movedS_len]
  have lB : (gE (gradedE es' cs' m) k).2.length = (gE es i).2.length := by rw [eB, movedS_len, hlen]
  rw [← lA] at hm
  refine ⟨by rw [lA, lB], cgN_lt (cgI8_lt _ _) (cgB_img (by rw [lA]; omega) hm), ?_⟩
  exact (lengthN_img ga gb (by rw [lA, lB]) (img_exact (i := 0) (hin 0 (by omega)) (hin' 0 (by omega)) rfl (hin 0 (by omega)) (himg 0 (by omega))).2 hm).symm
end Go.Proofs.Ytnfchkkokgmliaa
