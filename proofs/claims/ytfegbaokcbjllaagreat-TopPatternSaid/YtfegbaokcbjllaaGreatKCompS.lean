/- Plain: lengths under turns. No program in sight. -/
import Derived.Test.YtfegbaokcbjllaaGreatKTurnP
/- Plain: moves and multiples under turns. No program in sight. -/
namespace Go.Proofs.YtfegbaokcbjllaaGreat
open Go.RowKit
def inR (B : Int) (s : Spot) : Prop := -B ≤ s.1 ∧ s.1 ≤ B ∧ -B ≤ s.2 ∧ s.2 ≤ B
theorem inR_wf {B : Int} {s : Spot} (hB : B ≤ 9223372036854775807) (h : inR B s) : wfS s := by obtain ⟨h1, h2, h3, h4⟩ := h; exact ⟨by omega, by omega, by omega, by omega⟩
theorem inR_quart {B : Int} (_ : B ≤ 9223372036854775807) {s : Spot} (h : wfS s) : inR B (quart s) ↔ inR B s := by
 obtain ⟨h1, h2, h3, h4⟩ := h
 unfold quart inR
 rw [wneg h3 h4]
 split <;> (simp only; omega)
theorem inR_flip {B : Int} (_ : B ≤ 9223372036854775807) {s : Spot} (h : wfS s) : inR B (flipS true s) ↔ inR B s := by
 obtain ⟨h1, h2, h3, h4⟩ := h
 have e : flipS true s = (if s.1 = -9223372036854775808 then s.1 else -s.1, s.2) := by unfold flipS; rw [if_pos rfl, wneg h1 h2]
 rw [e]
 unfold inR
 by_cases h : s.1 = -9223372036854775808
 ·simp only [if_pos h]
 ·simp only [if_neg h]; omega
theorem inR_quarts {B : Int} (hB : B ≤ 9223372036854775807) {s : Spot} (h : wfS s) : ∀ n, inR B (quarts n s) ↔ inR B s
 |0 => Iff.rfl
 |n + 1 => (inR_quart hB (wfS_quarts h n).1).trans (inR_quarts hB h n)
theorem inR_apply {B : Int} (hB : B ≤ 9223372036854775807) {s : Spot} (h : wfS s) (f : Bool) (q : Int) : inR B (applyT f q s) ↔ inR B s := by
 cases f
 ·exact inR_quarts hB h _
 ·exact (inR_quarts hB (wfS_flip h).1 _).trans (inR_flip hB h)
theorem quart_R {B : Int} (hB : B ≤ 9223372036854775807) {s : Spot} (h : inR B s) : quart s = (-s.2, s.1) := by
 obtain ⟨h1, h2, h3, h4⟩ := h
 unfold quart; rw [w64 (by omega) (by omega)]
theorem flip_R {B : Int} (hB : B ≤ 9223372036854775807) {s : Spot} (h : inR B s) : flipS true s = (-s.1, s.2) := by
 obtain ⟨h1, h2, h3, h4⟩ := h
 unfold flipS; rw [if_pos rfl, w64 (by omega) (by omega)]
/- one moved vertex -/
def mv1 (v a b : Spot) (s k : Int) : Spot := (mvx a.1 b.1 v.1 s k, mvx a.2 b.2 v.2 s k)
theorem mix_bd {a b s k : Int} (hs : 1 ≤ s) (hk : 0 ≤ k) (hks : k ≤ s) (ha : -100000 ≤ a ∧ a ≤ 100000) (hb : -100000 ≤ b ∧ b ≤ 100000) : -100000 ≤ rnd ((s - k) * a + k * b) s ∧ rnd ((s - k) * a + k * b) s ≤ 100000 := by
 have a1 := Int.mul_le_mul_of_nonneg_left ha.2 (show 0 ≤ s - k by omega)
 have a2 := Int.mul_le_mul_of_nonneg_left ha.1 (show 0 ≤ s - k by omega)
 have b1 := Int.mul_le_mul_of_nonneg_left hb.2 hk
 have b2 := Int.mul_le_mul_of_nonneg_left hb.1 hk
 refine rnd_bd _ _ 100000 hs ?_ ?_
 ·omega
 ·omega
theorem mvx_eq {a b v s k : Int} (hs : 1 ≤ s) (hk : 0 ≤ k) (hks : k ≤ s) (ha : -100000 ≤ a ∧ a ≤ 100000) (hb : -100000 ≤ b ∧ b ≤ 100000) (hv : -1048576 ≤ v ∧ v ≤ 1048576) : mvx a b v s k = v + rnd ((s - k) * a + k * b) s := by
 have := mix_bd hs hk hks ha hb
 unfold mvx; exact w64 (by omega) (by omega)
theorem mvx_neg {a b v s k : Int} (hs : 1 ≤ s) (hk : 0 ≤ k) (hks : k ≤ s) (ha : -100000 ≤ a ∧ a ≤ 100000) (hb : -100000 ≤ b ∧ b ≤ 100000) (hv : -1048576 ≤ v ∧ v ≤ 1048576) : mvx (-a) (-b) (-v) s k = - mvx a b v s k := by
 rw [mvx_eq hs hk hks (by omega) (by omega) (by omega), mvx_eq hs hk hks ha hb hv]
 rw [show (s - k) * -a + k * -b = -((s - k) * a + k * b) from by rw [Int.mul_neg, Int.mul_neg]; omega, rnd_neg _ _ hs]; omega
theorem mv1_in {v a b : Spot} {s k : Int} (hs : 1 ≤ s) (hk : 0 ≤ k) (hks : k ≤ s) (hv : inR 1048576 v) (ha : inR 100000 a) (hb : inR 100000 b) : inR 2000000 (mv1 v a b s k) := by
 obtain ⟨v1, v2, v3, v4⟩ := hv; obtain ⟨a1, a2, a3, a4⟩ := ha; obtain ⟨b1, b2, b3, b4⟩ := hb
 have m1 := mix_bd hs hk hks ⟨a1, a2⟩ ⟨b1, b2⟩
 have m2 := mix_bd hs hk hks ⟨a3, a4⟩ ⟨b3, b4⟩
 unfold mv1 inR
 simp only
 rw [mvx_eq hs hk hks ⟨a1, a2⟩ ⟨b1, b2⟩ ⟨v1, v2⟩, mvx_eq hs hk hks ⟨a3, a4⟩ ⟨b3, b4⟩ ⟨v3, v4⟩]
 omega
def Comm (T : Spot → Spot) : Prop := ∀ v a b s k, 1 ≤ s → 0 ≤ k → k ≤ s → inR 1048576 v → inR 100000 a → inR 100000 b → mv1 (T v) (T a) (T b) s k = T (mv1 v a b s k)
theorem comm_quart : Comm quart := fun v a b s k hs hk hks hv ha hb => by
 rw [quart_R (by omega) hv, quart_R (by omega) ha, quart_R (by omega) hb, quart_R (B := 2000000) (by omega) (mv1_in hs hk hks hv ha hb)]
 unfold mv1
 simp only
 rw [mvx_neg hs hk hks ⟨ha.2.2.1, ha.2.2.2⟩ ⟨hb.2.2.1, hb.2.2.2⟩ ⟨hv.2.2.1, hv.2.2.2⟩]
theorem comm_flip : Comm (flipS true) := fun v a b s k hs hk hks hv ha hb => by
 rw [flip_R (by omega) hv, flip_R (by omega) ha, flip_R (by omega) hb, flip_R (B := 2000000) (by omega) (mv1_in hs hk hks hv ha hb)]
 unfold mv1
 simp only
 rw [mvx_neg hs hk hks ⟨ha.1, ha.2.1⟩ ⟨hb.1, hb.2.1⟩ ⟨hv.1, hv.2.1⟩]
theorem comm_quarts : ∀ n, Comm (quarts n)
 |0 => fun _ _ _ _ _ _ _ _ _ _ _ => rfl
 |n + 1 => fun v a b s k hs hk hks hv ha hb => by
  show mv1 (quart (quarts n v)) (quart (quarts n a)) (quart (quarts n b)) s k = quart (quarts n (mv1 v a b s k))
  rw [comm_quart _ _ _ s k hs hk hks ((inR_quarts (by omega) (inR_wf (by omega) hv) n).2 hv) ((inR_quarts (by omega) (inR_wf (by omega) ha) n).2 ha) ((inR_quarts (by omega) (inR_wf (by omega) hb) n).2 hb), comm_quarts n v a b s k hs hk hks hv ha hb]
theorem comm_apply (f : Bool) (q : Int) : Comm (applyT f q) := by
 cases f
 ·exact comm_quarts _
 ·intro v a b s k hs hk hks hv ha hb
  show mv1 (quarts _ (flipS true v)) (quarts _ (flipS true a)) (quarts _ (flipS true b)) s k = quarts _ (flipS true (mv1 v a b s k))
  rw [comm_quarts _ _ _ _ s k hs hk hks ((inR_flip (by omega) (inR_wf (by omega) hv)).2 hv) ((inR_flip (by omega) (inR_wf (by omega) ha)).2 ha) ((inR_flip (by omega) (inR_wf (by omega) hb)).2 hb), comm_flip v a b s k hs hk hks hv ha hb]
def CommM (m : Int) (T : Spot → Spot) : Prop := ∀ c, inR 1000 c → mulS m (T c) = T (mulS m c)
theorem mulS_R {m : Int} (h0 : -100 ≤ m) (h1 : m ≤ 100) {c : Spot} (h : inR 1000 c) : mulS m c = (m * c.1, m * c.2) ∧ inR 100000 (mulS m c) := by
 have e := mulS_eq h0 h1 h
 rw [e]
 exact ⟨rfl, (mul_100 h0 h1 h.1 h.2.1).1, (mul_100 h0 h1 h.1 h.2.1).2, (mul_100 h0 h1 h.2.2.1 h.2.2.2).1, (mul_100 h0 h1 h.2.2.1 h.2.2.2).2⟩
section
variable {m : Int} (h0 : -100 ≤ m) (h1 : m ≤ 100)
include h0 h1
theorem commM_quart : CommM m quart := fun c hc => by
 obtain ⟨e, hr⟩ := mulS_R h0 h1 hc
 have hc' := (inR_quart (by omega) (inR_wf (by omega) hc)).2 hc
 rw [(mulS_R h0 h1 hc').1, quart_R (by omega) hr, quart_R (by omega) hc, e]
 simp [Int.mul_neg]
theorem commM_flip : CommM m (flipS true) := fun c hc => by
 obtain ⟨e, hr⟩ := mulS_R h0 h1 hc
 have hc' := (inR_flip (by omega) (inR_wf (by omega) hc)).2 hc
 rw [(mulS_R h0 h1 hc').1, flip_R (by omega) hr, flip_R (by omega) hc, e]
 simp [Int.mul_neg]
theorem commM_quarts : ∀ n, CommM m (quarts n)
 |0 => fun _ _ => rfl
 |n + 1 => fun c hc => by
  show mulS m (quart (quarts n c)) = quart (quarts n (mulS m c))
  rw [commM_quart h0 h1 _ ((inR_quarts (by omega) (inR_wf (by omega) hc) n).2 hc), commM_quarts n c hc]
theorem commM_apply (f : Bool) (q : Int) : CommM m (applyT f q) := by
 cases f
 ·exact commM_quarts h0 h1 _
 ·intro c hc
  show mulS m (quarts _ (flipS true c)) = quarts _ (flipS true (mulS m c))
  rw [commM_quarts h0 h1 _ _ ((inR_flip (by omega) (inR_wf (by omega) hc)).2 hc), commM_flip h0 h1 c hc]
end
theorem mv1_rev (v a b : Spot) (s k : Int) : mv1 v b a s k = mv1 v a b s (s - k) := by
 unfold mv1 mvx
 rw [show s - (s - k) = k from by omega, Int.add_comm ((s - k) * b.1), Int.add_comm ((s - k) * b.2)]
theorem cornF_iff (cs : List Spot) : allB (cornF cs) cs.length = true ↔ ∀ j, j < cs.length → inR 1000 (gS cs j) := by
 rw [allB_iff]
 constructor
 ·intro h j hj
  have := h j hj
  simp only [cornF, Bool.and_eq_true, decide_eq_true_eq] at this
  exact ⟨this.1.1, this.1.2, this.2.1, this.2.2⟩
 ·intro h j hj
  obtain ⟨a, b, c, d⟩ := h j hj
  simp only [cornF, Bool.and_eq_true, decide_eq_true_eq]
  exact ⟨⟨a, b⟩, c, d⟩
theorem sqN_dot (p q : Spot) : sqN p q = (dotX q p q).toNat := rfl
theorem sqN_comm (p q : Spot) : sqN p q = sqN q p := by
 unfold sqN
 rw [show p.1 - q.1 = -(q.1 - p.1) from by omega, show p.2 - q.2 = -(q.2 - p.2) from by omega, Int.neg_mul_neg, Int.neg_mul_neg]
theorem seg_turn (f : Bool) (q : Int) {a b : Spot} (ha : inB a) (hb : inB b) : seg (applyT f q a) (applyT f q b) = seg a b := by
 unfold seg; rw [sqN_dot, sqN_dot, (pres_apply f q).dt b a b hb ha hb]
def sumN (g : Nat → Nat) : Nat → Nat
 |0 => 0
 |k + 1 => sumN g k + g k
theorem lenTo_sum (l : List Spot) : ∀ k, lenTo l k = sumN (fun i => seg (gS l i) (gS l (i + 1))) k
 |0 => rfl
 |k + 1 => by simp only [lenTo, sumN]; rw [lenTo_sum l k]
theorem sumN_congr {g h : Nat → Nat} {n : Nat} (e : ∀ i, i < n → g i = h i) : ∀ k, k ≤ n → sumN g k = sumN h k
 |0, _ => rfl
 |k + 1, hk => by simp only [sumN]; rw [sumN_congr e k (by omega), e k (by omega)]
theorem sumN_first (g : Nat → Nat) : ∀ n, sumN g (n + 1) = g 0 + sumN (fun i => g (i + 1)) n
 |0 => by simp [sumN]
 |n + 1 => by have h := sumN_first g n; simp only [sumN] at h ⊢; omega
theorem sumN_rev : ∀ (n : Nat) (g : Nat → Nat), sumN (fun i => g (n - 1 - i)) n = sumN g n
 |0, _ => rfl
 |n + 1, g => by
  have h := sumN_first (fun i => g (n + 1 - 1 - i)) n
  rw [h]
  have e : sumN (fun i => g (n + 1 - 1 - (i + 1))) n = sumN (fun i => g (n - 1 - i)) n := sumN_congr (n := n) (fun i _ => by congr 1; omega) n (Nat.le_refl _)
  rw [e, sumN_rev n g]
  simp only [sumN, Nat.add_sub_cancel, Nat.sub_zero]; omega
/- lengths -/
theorem lengthN_turn (f : Bool) (q : Int) {l : List Spot} (h : lcheck l = 0) : lengthN (turnL f q l) = lengthN l := by
 obtain ⟨h2, h40, hin, _⟩ := (lcheck_iff l).1 h
 have hw : WfL l := fun k hk => inB_wf (hin k hk)
 unfold lengthN
 rw [if_neg (by rw [(turnL_lcheck hw).2 h]; decide), if_neg (by rw [h]; decide), turnL_len, lenTo_sum, lenTo_sum]
 cases f
 ·refine sumN_congr (n := l.length - 1) (fun i hi => ?_) _ (Nat.le_refl _)
  rw [turnL_get (by omega), turnL_get (by omega)]
  simp only [Bool.false_eq_true, if_false]
  exact seg_turn false q (hin _ (by omega)) (hin _ (by omega))
 ·rw [← sumN_rev (l.length - 1) (fun i => seg (gS l i) (gS l (i + 1)))]
  refine sumN_congr (n := l.length - 1) (fun i hi => ?_) _ (Nat.le_refl _)
  rw [turnL_get (by omega), turnL_get (by omega)]
  simp only [if_true]
  rw [seg_turn true q (hin _ (by omega)) (hin _ (by omega))]
  unfold seg
  rw [sqN_comm, show l.length - 1 - 1 - i = l.length - 1 - (i + 1) from by omega, show l.length - 1 - (i + 1) + 1 = l.length - 1 - i from by omega]
end Go.Proofs.YtfegbaokcbjllaaGreat
