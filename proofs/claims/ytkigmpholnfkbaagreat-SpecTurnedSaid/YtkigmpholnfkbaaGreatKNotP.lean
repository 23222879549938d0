/- plain: notches: places, points, counterparts. No program in sight. -/
import Derived.Test.YtkigmpholnfkbaaGreatKTurnP
import Derived.Test.YtkigmpholnfkbaaGreatKDiv64
import Derived.Test.YtkigmpholnfkbaaGreatKSty
/- Plain: moves and multiples under turns. No program in sight. -/
namespace Go.Proofs.YtkigmpholnfkbaaGreat
open Go.RowKit
def inR (B : Int) (s : Spot) : Prop := -B ≤ s.1 ∧ s.1 ≤ B ∧ -B ≤ s.2 ∧ s.2 ≤ B
theorem inR_wf {B : Int} {s : Spot} (hB : B ≤ 9223372036854775807) (h : inR B s) : wfS s := by obtain ⟨h1, h2, h3, h4⟩ := h; exact ⟨by omega, by omega, by omega, by omega⟩
theorem inR_quart {B : Int} (_ : B ≤ 9223372036854775807) {s : Spot} (h : wfS s) : inR B (quart s) ↔ inR B s := by
  obtain ⟨h1, h2, h3, h4⟩ := h
  unfold quart inR
  rw [wneg h3 h4]
  split <;> (simp only; omega)
theorem inR_flip {B : Int} (_ : B ≤ 9223372036854775807) {s : Spot} (h : wfS s) : inR B (flipS true s) ↔ inR B s := by
  obtain ⟨h1, h2, h3, h4⟩ := h
  have e : flipS true s = (if s.1 = -9223372036854775808 then s.1 else -s.1, s.2) := by unfold flipS; rw [if_pos rfl, wneg h1 h2]
  rw [e]
  unfold inR
  by_cases h : s.1 = -9223372036854775808
  · simp only [if_pos h]
  · simp only [if_neg h]; omega
theorem inR_quarts {B : Int} (hB : B ≤ 9223372036854775807) {s : Spot} (h : wfS s) : ∀ n, inR B (quarts n s) ↔ inR B s
  | 0 => Iff.rfl
  | n + 1 => (inR_quart hB (wfS_quarts h n).1).trans (inR_quarts hB h n)
theorem inR_apply {B : Int} (hB : B ≤ 9223372036854775807) {s : Spot} (h : wfS s) (f : Bool) (q : Int) : inR B (applyT f q s) ↔ inR B s := by
  cases f
  · exact inR_quarts hB h _
  · exact (inR_quarts hB (wfS_flip h).1 _).trans (inR_flip hB h)
theorem quart_R {B : Int} (hB : B ≤ 9223372036854775807) {s : Spot} (h : inR B s) : quart s = (-s.2, s.1) := by
  obtain ⟨h1, h2, h3, h4⟩ := h
  unfold quart; rw [w64 (by omega) (by omega)]
theorem flip_R {B : Int} (hB : B ≤ 9223372036854775807) {s : Spot} (h : inR B s) : flipS true s = (-s.1, s.2) := by
  obtain ⟨h1, h2, h3, h4⟩ := h
  unfold flipS; rw [if_pos rfl, w64 (by omega) (by omega)]
/- one moved vertex -/
def mv1 (v a b : Spot) (s k : Int) : Spot := (mvx a.1 b.1 v.1 s k, mvx a.2 b.2 v.2 s k)
theorem mix_bd {a b s k : Int} (hs : 1 ≤ s) (hk : 0 ≤ k) (hks : k ≤ s) (ha : -100000 ≤ a ∧ a ≤ 100000) (hb : -100000 ≤ b ∧ b ≤ 100000) : -100000 ≤ rnd ((s - k) * a + k * b) s ∧ rnd ((s - k) * a + k * b) s ≤ 100000 := by
  have a1 := Int.mul_le_mul_of_nonneg_left ha.2 (show 0 ≤ s - k by omega)
  have a2 := Int.mul_le_mul_of_nonneg_left ha.1 (show 0 ≤ s - k by omega)
  have b1 := Int.mul_le_mul_of_nonneg_left hb.2 hk
  have b2 := Int.mul_le_mul_of_nonneg_left hb.1 hk
  refine rnd_bd _ _ 100000 hs ?_ ?_
  · omega
  · omega
theorem mvx_eq {a b v s k : Int} (hs : 1 ≤ s) (hk : 0 ≤ k) (hks : k ≤ s) (ha : -100000 ≤ a ∧ a ≤ 100000) (hb : -100000 ≤ b ∧ b ≤ 100000) (hv : -1048576 ≤ v ∧ v ≤ 1048576) : mvx a b v s k = v + rnd ((s - k) * a + k * b) s := by
  have := mix_bd hs hk hks ha hb
  unfold mvx; exact w64 (by omega) (by omega)
theorem mvx_neg {a b v s k : Int} (hs : 1 ≤ s) (hk : 0 ≤ k) (hks : k ≤ s) (ha : -100000 ≤ a ∧ a ≤ 100000) (hb : -100000 ≤ b ∧ b ≤ 100000) (hv : -1048576 ≤ v ∧ v ≤ 1048576) : mvx (-a) (-b) (-v) s k = - mvx a b v s k := by
  rw [mvx_eq hs hk hks (by omega) (by omega) (by omega), mvx_eq hs hk hks ha hb hv]
  rw [show (s - k) * -a + k * -b = -((s - k) * a + k * b) from by rw [Int.mul_neg, Int.mul_neg]; omega, rnd_neg _ _ hs]; omega
theorem mv1_in {v a b : Spot} {s k : Int} (hs : 1 ≤ s) (hk : 0 ≤ k) (hks : k ≤ s) (hv : inR 1048576 v) (ha : inR 100000 a) (hb : inR 100000 b) : inR 2000000 (mv1 v a b s k) := by
  obtain ⟨v1, v2, v3, v4⟩ := hv; obtain ⟨a1, a2, a3, a4⟩ := ha; obtain ⟨b1, b2, b3, b4⟩ := hb
  have m1 := mix_bd hs hk hks ⟨a1, a2⟩ ⟨b1, b2⟩
  have m2 := mix_bd hs hk hks ⟨a3, a4⟩ ⟨b3, b4⟩
  unfold mv1 inR
  simp only
  rw [mvx_eq hs hk hks ⟨a1, a2⟩ ⟨b1, b2⟩ ⟨v1, v2⟩, mvx_eq hs hk hks ⟨a3, a4⟩ ⟨b3, b4⟩ ⟨v3, v4⟩]
  omega
def Comm (T : Spot → Spot) : Prop := ∀ v a b s k, 1 ≤ s → 0 ≤ k → k ≤ s → inR 1048576 v → inR 100000 a → inR 100000 b → mv1 (T v) (T a) (T b) s k = T (mv1 v a b s k)
theorem comm_quart : Comm quart := fun v a b s k hs hk hks hv ha hb => by
  rw [quart_R (by omega) hv, quart_R (by omega) ha, quart_R (by omega) hb, quart_R (B := 2000000) (by omega) (mv1_in hs hk hks hv ha hb)]
  unfold mv1
  simp only
  rw [mvx_neg hs hk hks ⟨ha.2.2.1, ha.2.2.2⟩ ⟨hb.2.2.1, hb.2.2.2⟩ ⟨hv.2.2.1, hv.2.2.2⟩]
theorem comm_flip : Comm (flipS true) := fun v a b s k hs hk hks hv ha hb => by
  rw [flip_R (by omega) hv, flip_R (by omega) ha, flip_R (by omega) hb, flip_R (B := 2000000) (by omega) (mv1_in hs hk hks hv ha hb)]
  unfold mv1
  simp only
  rw [mvx_neg hs hk hks ⟨ha.1, ha.2.1⟩ ⟨hb.1, hb.2.1⟩ ⟨hv.1, hv.2.1⟩]
theorem comm_quarts : ∀ n, Comm (quarts n)
  | 0 => fun _ _ _ _ _ _ _ _ _ _ _ => rfl
  | n + 1 => fun v a b s k hs hk hks hv ha hb => by
    show mv1 (quart (quarts n v)) (quart (quarts n a)) (quart (quarts n b)) s k = quart (quarts n (mv1 v a b s k))
    rw [comm_quart _ _ _ s k hs hk hks ((inR_quarts (by omega) (inR_wf (by omega) hv) n).2 hv) ((inR_quarts (by omega) (inR_wf (by omega) ha) n).2 ha) ((inR_quarts (by omega) (inR_wf (by omega) hb) n).2 hb), comm_quarts n v a b s k hs hk hks hv ha hb]
theorem comm_apply (f : Bool) (q : Int) : Comm (applyT f q) := by
  cases f
  · exact comm_quarts _
  · intro v a b s k hs hk hks hv ha hb
    show mv1 (quarts _ (flipS true v)) (quarts _ (flipS true a)) (quarts _ (flipS true b)) s k = quarts _ (flipS true (mv1 v a b s k))
    rw [comm_quarts _ _ _ _ s k hs hk hks ((inR_flip (by omega) (inR_wf (by omega) hv)).2 hv) ((inR_flip (by omega) (inR_wf (by omega) ha)).2 ha) ((inR_flip (by omega) (inR_wf (by omega) hb)).2 hb), comm_flip v a b s k hs hk hks hv ha hb]
def CommM (m : Int) (T : Spot → Spot) : Prop := ∀ c, inR 1000 c → mulS m (T c) = T (mulS m c)
theorem mulS_R {m : Int} (h0 : -100 ≤ m) (h1 : m ≤ 100) {c : Spot} (h : inR 1000 c) : mulS m c = (m * c.1, m * c.2) ∧ inR 100000 (mulS m c) := by
  have e := mulS_eq h0 h1 h
  rw [e]
  exact ⟨rfl, (mul_100 h0 h1 h.1 h.2.1).1, (mul_100 h0 h1 h.1 h.2.1).2, (mul_100 h0 h1 h.2.2.1 h.2.2.2).1, (mul_100 h0 h1 h.2.2.1 h.2.2.2).2⟩
section
variable {m : Int} (h0 : -100 ≤ m) (h1 : m ≤ 100)
include h0 h1
theorem commM_quart : CommM m quart := fun c hc => by
  obtain ⟨e, hr⟩ := mulS_R h0 h1 hc
  have hc' := (inR_quart (by omega) (inR_wf (by omega) hc)).2 hc
  rw [(mulS_R h0 h1 hc').1, quart_R (by omega) hr, quart_R (by omega) hc, e]
  simp [Int.mul_neg]
theorem commM_flip : CommM m (flipS true) := fun c hc => by
  obtain ⟨e, hr⟩ := mulS_R h0 h1 hc
  have hc' := (inR_flip (by omega) (inR_wf (by omega) hc)).2 hc
  rw [(mulS_R h0 h1 hc').1, flip_R (by omega) hr, flip_R (by omega) hc, e]
  simp [Int.mul_neg]
theorem commM_quarts : ∀ n, CommM m (quarts n)
  | 0 => fun _ _ => rfl
  | n + 1 => fun c hc => by
    show mulS m (quart (quarts n c)) = quart (quarts n (mulS m c))
    rw [commM_quart h0 h1 _ ((inR_quarts (by omega) (inR_wf (by omega) hc) n).2 hc), commM_quarts n c hc]
theorem commM_apply (f : Bool) (q : Int) : CommM m (applyT f q) := by
  cases f
  · exact commM_quarts h0 h1 _
  · intro c hc
    show mulS m (quarts _ (flipS true c)) = quarts _ (flipS true (mulS m c))
    rw [commM_quarts h0 h1 _ _ ((inR_flip (by omega) (inR_wf (by omega) hc)).2 hc), commM_flip h0 h1 c hc]
end
theorem mv1_rev (v a b : Spot) (s k : Int) : mv1 v b a s k = mv1 v a b s (s - k) := by
  unfold mv1 mvx
  rw [show s - (s - k) = k from by omega, Int.add_comm ((s - k) * b.1), Int.add_comm ((s - k) * b.2)]
theorem cornF_iff (cs : List Spot) : allB (cornF cs) cs.length = true ↔ ∀ j, j < cs.length → inR 1000 (gS cs j) := by
  rw [allB_iff]
  constructor
  · intro h j hj
    have := h j hj
    simp only [cornF, Bool.and_eq_true, decide_eq_true_eq] at this
    exact ⟨this.1.1, this.1.2, this.2.1, this.2.2⟩
  · intro h j hj
    obtain ⟨a, b, c, d⟩ := h j hj
    simp only [cornF, Bool.and_eq_true, decide_eq_true_eq]
    exact ⟨⟨a, b⟩, c, d⟩
end Go.Proofs.YtkigmpholnfkbaaGreat
/- Plain: lengths under turns. No program in sight. -/
namespace Go.Proofs.YtkigmpholnfkbaaGreat
open Go.RowKit
theorem sqN_dot (p q : Spot) : sqN p q = (dotX q p q).toNat := rfl
theorem sqN_comm (p q : Spot) : sqN p q = sqN q p := by
  unfold sqN
  rw [show p.1 - q.1 = -(q.1 - p.1) from by omega, show p.2 - q.2 = -(q.2 - p.2) from by omega, Int.neg_mul_neg, Int.neg_mul_neg]
theorem seg_turn (f : Bool) (q : Int) {a b : Spot} (ha : inB a) (hb : inB b) : seg (applyT f q a) (applyT f q b) = seg a b := by
  unfold seg; rw [sqN_dot, sqN_dot, (pres_apply f q).dt b a b hb ha hb]
def sumN (g : Nat → Nat) : Nat → Nat
  | 0 => 0
  | k + 1 => sumN g k + g k
theorem lenTo_sum (l : List Spot) : ∀ k, lenTo l k = sumN (fun i => seg (gS l i) (gS l (i + 1))) k
  | 0 => rfl
  | k + 1 => by simp only [lenTo, sumN]; rw [lenTo_sum l k]
theorem sumN_congr {g h : Nat → Nat} {n : Nat} (e : ∀ i, i < n → g i = h i) : ∀ k, k ≤ n → sumN g k = sumN h k
  | 0, _ => rfl
  | k + 1, hk => by simp only [sumN]; rw [sumN_congr e k (by omega), e k (by omega)]
theorem sumN_first (g : Nat → Nat) : ∀ n, sumN g (n + 1) = g 0 + sumN (fun i => g (i + 1)) n
  | 0 => by simp [sumN]
  | n + 1 => by have h := sumN_first g n; simp only [sumN] at h ⊢; omega
theorem sumN_rev : ∀ (n : Nat) (g : Nat → Nat), sumN (fun i => g (n - 1 - i)) n = sumN g n
  | 0, _ => rfl
  | n + 1, g => by
    have h := sumN_first (fun i => g (n + 1 - 1 - i)) n
    rw [h]
    have e : sumN (fun i => g (n + 1 - 1 - (i + 1))) n = sumN (fun i => g (n - 1 - i)) n := sumN_congr (n := n) (fun i _ => by congr 1; omega) n (Nat.le_refl _)
    rw [e, sumN_rev n g]
    simp only [sumN, Nat.add_sub_cancel, Nat.sub_zero]; omega
end Go.Proofs.YtkigmpholnfkbaaGreat
/- plain: the point of a polyline at a length; under turns and moves. No program in sight. -/
namespace Go.Proofs.YtkigmpholnfkbaaGreat
open Go.RowKit
def midS (p q : Spot) (t n : Int) : Spot := (p.1 + rnd (t * (q.1 - p.1)) n, p.2 + rnd (t * (q.2 - p.2)) n)
def locB (l : List Spot) (s : Int) (i : Nat) : Bool := decide (s ≤ (lenTo l (i + 1) : Int))
/- the segment at a length -/
def locI (l : List Spot) (s : Int) : Nat := ((List.range (l.length - 1)).findIdx? (locB l s)).getD 0
def ptS (l : List Spot) (s : Int) (i : Nat) : Spot := midS (gS l i) (gS l (i + 1)) (s - lenTo l i) (seg (gS l i) (gS l (i + 1)))
def alongS (l : List Spot) (s : Int) : Spot := ptS l s (locI l s)
def alongE (l : List Spot) (s : Int) : Int := if lcheck l ≠ 0 then lcheck l else if s < 0 ∨ (lengthN l : Int) < s then 3 else 0
def alongV (l : List Spot) (s : Int) : Spot := if alongE l s ≠ 0 then (0, 0) else alongS l s
theorem locI_at {l : List Spot} {s : Int} {i : Nat} (hi : i < l.length - 1) (h0 : ∀ j, j < i → locB l s j = false) (h : locB l s i = true) : locI l s = i := by
  unfold locI
  have : (List.range (l.length - 1)).findIdx? (locB l s) = some i := by
    rw [List.findIdx?_eq_some_iff_getElem]
    refine ⟨by simpa using hi, by simpa using h, fun j hj => ?_⟩
    simpa using h0 j hj
  rw [this]; rfl
theorem locI_is {l : List Spot} {s : Int} (h2 : 2 ≤ l.length) (h : s ≤ (lenTo l (l.length - 1) : Int)) : locI l s < l.length - 1 ∧ (∀ j, j < locI l s → locB l s j = false) ∧ locB l s (locI l s) = true := by
  have hs : ((List.range (l.length - 1)).findIdx? (locB l s)).isSome = true := by
    rw [List.findIdx?_isSome, List.any_eq_true]
    refine ⟨l.length - 2, List.mem_range.2 (by omega), ?_⟩
    unfold locB
    rw [show l.length - 2 + 1 = l.length - 1 from by omega]
    exact decide_eq_true h
  obtain ⟨i, hi⟩ := Option.isSome_iff_exists.1 hs
  have e : locI l s = i := by unfold locI; rw [hi]; rfl
  rw [List.findIdx?_eq_some_iff_getElem] at hi
  obtain ⟨h1, h3, h4⟩ := hi
  rw [e]
  refine ⟨by simpa using h1, fun j hj => ?_, by simpa using h3⟩
  have := h4 j hj
  simpa using this
theorem seg_pos {p q : Spot} (hp : inB p) (hq : inB q) (hne : p ≠ q) : 1 ≤ seg p q := by
  have hs : 1 ≤ sqN p q := by
    obtain ⟨p1, p2, p3, p4⟩ := hp; obtain ⟨q1, q2, q3, q4⟩ := hq
    have h1 := (sq_bound (d := q.1 - p.1) (by omega) (by omega)).1
    have h2 := (sq_bound (d := q.2 - p.2) (by omega) (by omega)).1
    rcases Nat.eq_zero_or_pos (sqN p q) with h | h
    · exfalso
      unfold sqN at h
      have e1 : (q.1 - p.1) * (q.1 - p.1) = 0 := by omega
      have e2 : (q.2 - p.2) * (q.2 - p.2) = 0 := by omega
      have f1 : q.1 - p.1 = 0 := by rcases Int.mul_eq_zero.1 e1 with h | h <;> exact h
      have f2 : q.2 - p.2 = 0 := by rcases Int.mul_eq_zero.1 e2 with h | h <;> exact h
      exact hne (Prod.ext (by omega) (by omega))
    · exact h
  have hb := sqN_le hp hq
  have h1 := (rootN_is (1000000 * sqN p q) (by omega)).2
  unfold seg
  rcases Nat.eq_zero_or_pos (rootN (1000000 * sqN p q)) with h | h
  · rw [h] at h1; omega
  · exact h
theorem lenTo_mono {l : List Spot} {i j : Nat} (h : i ≤ j) : lenTo l i ≤ lenTo l j := by
  induction j with
  | zero => obtain rfl : i = 0 := by omega
            exact Nat.le_refl _
  | succ j ih =>
    rcases Nat.lt_or_ge j i with h1 | h1
    · obtain rfl : i = j + 1 := by omega
      exact Nat.le_refl _
    · have := ih h1
      simp only [lenTo]; omega
/- what holds at the segment that is found -/
theorem loc_facts {l : List Spot} {s : Int} (hl : lcheck l = 0) (h0 : 0 ≤ s) (h : s ≤ (lengthN l : Int)) :
    locI l s < l.length - 1 ∧ 0 ≤ s - lenTo l (locI l s) ∧ s - lenTo l (locI l s) ≤ (seg (gS l (locI l s)) (gS l (locI l s + 1)) : Int) ∧ 1 ≤ seg (gS l (locI l s)) (gS l (locI l s + 1)) ∧ inB (gS l (locI l s)) ∧ inB (gS l (locI l s + 1)) := by
  obtain ⟨h2, h40, hin, hne⟩ := (lcheck_iff l).1 hl
  unfold lengthN at h
  rw [if_neg (by rw [hl]; decide)] at h
  obtain ⟨h1, h3, h4⟩ := locI_is h2 h
  refine ⟨h1, ?_, ?_, seg_pos (hin _ (by omega)) (hin _ (by omega)) (hne _ (by omega)), hin _ (by omega), hin _ (by omega)⟩
  · rcases Nat.eq_zero_or_pos (locI l s) with h5 | h5
    · rw [h5]; simp only [lenTo]; omega
    · have := h3 (locI l s - 1) (by omega)
      unfold locB at this
      rw [show locI l s - 1 + 1 = locI l s from by omega] at this
      have := of_decide_eq_false this
      omega
  · have := of_decide_eq_true h4
    simp only [lenTo] at this
    omega
theorem mid_bd {a b t n : Int} (hn : 1 ≤ n) (h0 : 0 ≤ t) (h1 : t ≤ n) (ha : -1048576 ≤ a ∧ a ≤ 1048576) (hb : -1048576 ≤ b ∧ b ≤ 1048576) : -4000000 ≤ a + rnd (t * (b - a)) n ∧ a + rnd (t * (b - a)) n ≤ 4000000 := by
  have k1 := Int.mul_le_mul_of_nonneg_left (show b - a ≤ 2097152 by omega) h0
  have k2 := Int.mul_le_mul_of_nonneg_left (show -2097152 ≤ b - a by omega) h0
  have k3 : t * 2097152 ≤ n * 2097152 := Int.mul_le_mul_of_nonneg_right h1 (by omega)
  have := rnd_bd (t * (b - a)) n 2097152 hn (by omega) (by omega)
  omega
theorem mid_in {p q : Spot} {t n : Int} (hn : 1 ≤ n) (h0 : 0 ≤ t) (h1 : t ≤ n) (hp : inR 1048576 p) (hq : inR 1048576 q) : inR 4000000 (midS p q t n) := by
  obtain ⟨p1, p2, p3, p4⟩ := hp; obtain ⟨q1, q2, q3, q4⟩ := hq
  have a := mid_bd hn h0 h1 ⟨p1, p2⟩ ⟨q1, q2⟩
  have b := mid_bd hn h0 h1 ⟨p3, p4⟩ ⟨q3, q4⟩
  exact ⟨a.1, a.2, b.1, b.2⟩
theorem mid_neg (a b t n : Int) (hn : 1 ≤ n) : -a + rnd (t * (-b - -a)) n = -(a + rnd (t * (b - a)) n) := by
  rw [show -b - -a = -(b - a) from by omega, Int.mul_neg, rnd_neg _ _ hn]; omega
def CommP (T : Spot → Spot) : Prop := ∀ p q t n, 1 ≤ n → 0 ≤ t → t ≤ n → inR 1048576 p → inR 1048576 q → midS (T p) (T q) t n = T (midS p q t n)
theorem commP_quart : CommP quart := fun p q t n hn h0 h1 hp hq => by
  rw [quart_R (by omega) hp, quart_R (by omega) hq, quart_R (B := 4000000) (by omega) (mid_in hn h0 h1 hp hq)]
  unfold midS
  simp only
  rw [mid_neg _ _ _ _ hn]
theorem commP_flip : CommP (flipS true) := fun p q t n hn h0 h1 hp hq => by
  rw [flip_R (by omega) hp, flip_R (by omega) hq, flip_R (B := 4000000) (by omega) (mid_in hn h0 h1 hp hq)]
  unfold midS
  simp only
  rw [mid_neg _ _ _ _ hn]
theorem commP_quarts : ∀ k, CommP (quarts k)
  | 0 => fun _ _ _ _ _ _ _ _ _ => rfl
  | k + 1 => fun p q t n hn h0 h1 hp hq => by
    show midS (quart (quarts k p)) (quart (quarts k q)) t n = quart (quarts k (midS p q t n))
    rw [commP_quart _ _ t n hn h0 h1 ((inR_quarts (by omega) (inR_wf (by omega) hp) k).2 hp) ((inR_quarts (by omega) (inR_wf (by omega) hq) k).2 hq), commP_quarts k p q t n hn h0 h1 hp hq]
theorem commP_apply (f : Bool) (r : Int) : CommP (applyT f r) := by
  cases f
  · exact commP_quarts _
  · intro p q t n hn h0 h1 hp hq
    show midS (quarts _ (flipS true p)) (quarts _ (flipS true q)) t n = quarts _ (flipS true (midS p q t n))
    rw [commP_quarts _ _ _ t n hn h0 h1 ((inR_flip (by omega) (inR_wf (by omega) hp)).2 hp) ((inR_flip (by omega) (inR_wf (by omega) hq)).2 hq), commP_flip p q t n hn h0 h1 hp hq]
theorem lenTo_map {T : Spot → Spot} {l : List Spot} (hT : ∀ a b, inB a → inB b → seg (T a) (T b) = seg a b) (hl : ∀ k, k < l.length → inB (gS l k)) : ∀ k, k ≤ l.length - 1 → lenTo (l.map T) k = lenTo l k
  | 0, _ => rfl
  | k + 1, hk => by
    simp only [lenTo]
    rw [lenTo_map hT hl k (by omega), gS_map (by omega), gS_map (by omega), hT _ _ (hl _ (by omega)) (hl _ (by omega))]
/- the point of a turned line -/
theorem along_map {T : Spot → Spot} (hT : ∀ a b, inB a → inB b → seg (T a) (T b) = seg a b) (hC : CommP T) {l : List Spot} {s : Int} (hl : lcheck l = 0) (h0 : 0 ≤ s) (h : s ≤ (lengthN l : Int)) : alongS (l.map T) s = T (alongS l s) := by
  obtain ⟨h2, h40, hin, hne⟩ := (lcheck_iff l).1 hl
  obtain ⟨g1, g2, g3, g4, g5, g6⟩ := loc_facts hl h0 h
  have hlen : s ≤ (lenTo l (l.length - 1) : Int) := by unfold lengthN at h; rwa [if_neg (by rw [hl]; decide)] at h
  obtain ⟨f1, f2, f3⟩ := locI_is h2 hlen
  have eB : ∀ j, j < l.length - 1 → locB (l.map T) s j = locB l s j := fun j hj => by
    unfold locB; rw [lenTo_map hT hin (j + 1) (by omega)]
  have e : locI (l.map T) s = locI l s := locI_at (by rw [List.length_map]; exact f1) (fun j hj => by rw [eB j (by omega)]; exact f2 j hj) (by rw [eB _ f1]; exact f3)
  unfold alongS
  rw [e]
  unfold ptS
  rw [gS_map (by omega), gS_map (by omega), hT _ _ g5 g6, lenTo_map hT hin _ (by omega)]
  exact hC _ _ _ _ (by omega) g2 g3 g5 g6
theorem along_turn (f : Bool) (q : Int) {l : List Spot} {s : Int} (hl : lcheck l = 0) (h0 : 0 ≤ s) (h : s ≤ (lengthN l : Int)) : alongS (l.map (applyT f q)) s = applyT f q (alongS l s) :=
  along_map (fun _ _ ha hb => seg_turn f q ha hb) (commP_apply f q) hl h0 h
/- the point of a moved line -/
theorem along_move (d : Spot) {l l' : List Spot} {s : Int} (hl : lcheck l = 0) (hlen : l'.length = l.length) (hd : ∀ k, k < l.length → gS l' k = ((gS l k).1 + d.1, (gS l k).2 + d.2)) (h0 : 0 ≤ s) (h : s ≤ (lengthN l : Int)) : alongS l' s = ((alongS l s).1 + d.1, (alongS l s).2 + d.2) := by
  obtain ⟨h2, h40, hin, hne⟩ := (lcheck_iff l).1 hl
  have hmap : l' = l.map (fun p => (p.1 + d.1, p.2 + d.2)) := list_ext_gS' (by rw [List.length_map, hlen]) fun k hk => by rw [hlen] at hk; rw [hd k hk, gS_map hk]
  rw [hmap]
  exact along_map (T := fun p => (p.1 + d.1, p.2 + d.2)) (fun a b _ _ => by
    unfold seg sqN
    simp only
    rw [show b.1 + d.1 - (a.1 + d.1) = b.1 - a.1 from by omega, show b.2 + d.2 - (a.2 + d.2) = b.2 - a.2 from by omega]) (fun p q t n _ _ _ _ _ => by
    unfold midS
    simp only
    rw [show q.1 + d.1 - (p.1 + d.1) = q.1 - p.1 from by omega, show q.2 + d.2 - (p.2 + d.2) = q.2 - p.2 from by omega]
    refine Prod.ext ?_ ?_ <;> simp only <;> omega) hl h0 h
end Go.Proofs.YtkigmpholnfkbaaGreat
/- plain: the partner of a place; no program in sight -/
namespace Go.Proofs.YtkigmpholnfkbaaGreat
def partQ (a t f : Nat) : Nat := (2 * (a * t) + f) / (2 * f)
theorem part_code {a t f : Nat} (hf : 1 ≤ f) : a * t / f + (if f ≤ 2 * (a * t % f) then 1 else 0) = partQ a t f := by
  unfold partQ
  have e := Nat.div_add_mod (a * t) f
  have hm := Nat.mod_lt (a * t) (show f > 0 by omega)
  generalize a * t = X at *
  generalize X / f = q at *
  generalize X % f = r at *
  have e2 : 2 * X + f = (2 * r + f) + 2 * f * q := by rw [← e, Nat.mul_add, Nat.mul_assoc]; omega
  rw [e2, Nat.add_mul_div_left _ _ (by omega)]
  split
  · rename_i h
    have : (2 * r + f) / (2 * f) = 1 := by rw [Nat.div_eq_iff (by omega)]; omega
    omega
  · rename_i h
    have : (2 * r + f) / (2 * f) = 0 := Nat.div_eq_of_lt (by omega)
    omega
theorem part_zero {t f : Nat} (hf : 1 ≤ f) : partQ 0 t f = 0 := by
  unfold partQ; rw [Nat.zero_mul]; exact Nat.div_eq_of_lt (by omega)
theorem part_full {t f : Nat} (hf : 1 ≤ f) : partQ f t f = t := by
  rw [← part_code hf, Nat.mul_mod_right, Nat.mul_div_cancel_left _ (by omega), if_neg (by omega)]; rfl
theorem part_mono {a b t f : Nat} (h : a ≤ b) : partQ a t f ≤ partQ b t f := by
  unfold partQ
  exact Nat.div_le_div_right (by have := Nat.mul_le_mul_right t h; omega)
theorem part_le {a t f : Nat} (hf : 1 ≤ f) (h : a ≤ f) : partQ a t f ≤ t := by
  have := part_mono (t := t) (f := f) h
  rwa [part_full hf] at this
theorem part_near {a t f : Nat} (hf : 1 ≤ f) : 2 * (partQ a t f * f) ≤ 2 * (a * t) + f ∧ 2 * (a * t) < 2 * (partQ a t f * f) + f := by
  unfold partQ
  have e := Nat.div_add_mod (2 * (a * t) + f) (2 * f)
  have hm := Nat.mod_lt (2 * (a * t) + f) (show 2 * f > 0 by omega)
  rw [Nat.mul_assoc, Nat.mul_comm f] at e
  generalize (2 * (a * t) + f) / (2 * f) * f = z at *
  generalize (2 * (a * t) + f) % (2 * f) = y at *
  omega
/- the digits -/
structure Digs (a rest c k q l : Nat) : Prop where
  sum : q * c + l = a / 2 ^ k * rest
  lt : l < c
theorem digs_start {a rest c : Nat} (ha : a < 2199023255552) (hc : 1 ≤ c) : Digs a rest c 41 0 0 := by
  refine ⟨?_, by omega⟩
  rw [show a / 2 ^ 41 = 0 from Nat.div_eq_of_lt (by omega)]; simp
theorem digs_on {a rest c k q l b : Nat} (h : Digs a rest c (k + 1) q l) (hc : 1 ≤ c) (hb : b = a / 2 ^ k % 2) : Digs a rest c k (2 * q + (2 * l + b * rest) / c) ((2 * l + b * rest) % c) := by
  refine ⟨?_, Nat.mod_lt _ (by omega)⟩
  have e := Nat.div_add_mod (2 * l + b * rest) c
  have e1 : a / 2 ^ k = 2 * (a / 2 ^ (k + 1)) + b := by
    rw [Nat.pow_succ, ← Nat.div_div_eq_div_mul, hb]; omega
  have hs := h.sum
  have h1 : (2 * q + (2 * l + b * rest) / c) * c = 2 * (q * c) + (2 * l + b * rest) / c * c := by rw [Nat.add_mul, Nat.mul_assoc]
  have h2 : (2 * (a / 2 ^ (k + 1)) + b) * rest = 2 * (a / 2 ^ (k + 1) * rest) + b * rest := by rw [Nat.add_mul, Nat.mul_assoc]
  rw [h1, e1, h2, ← hs]
  rw [Nat.mul_comm c] at e
  generalize (2 * l + b * rest) / c * c = z at *
  generalize (2 * l + b * rest) % c = y at *
  omega
theorem digs_end {a b c q l : Nat} (h : Digs a (b % c) c 0 q l) (hc : 1 ≤ c) : a * (b / c) + (q + if c ≤ 2 * l then 1 else 0) = partQ a b c := by
  rw [← part_code hc]
  have hs := h.sum
  rw [Nat.pow_zero, Nat.div_one] at hs
  have hl := h.lt
  have e := Nat.div_add_mod b c
  have e2 : a * b = l + c * (q + a * (b / c)) := by
    have : a * b = a * (c * (b / c) + b % c) := by rw [e]
    rw [this, Nat.mul_add, ← hs, Nat.mul_add, Nat.mul_comm c q, Nat.mul_left_comm]
    omega
  rw [e2, Nat.add_mul_div_left _ _ (by omega), Nat.add_mul_mod_self_left, Nat.div_eq_of_lt hl, Nat.mod_eq_of_lt hl]
  omega
end Go.Proofs.YtkigmpholnfkbaaGreat
/- seam.Partner -/
namespace Go.Proofs.YtkigmpholnfkbaaGreat
open Go.RowKit
def prtB (f t a : Int) : Bool := decide (1 ≤ f ∧ f ≤ 1099511627776 ∧ 0 ≤ t ∧ t ≤ 1099511627776 ∧ 0 ≤ a ∧ a ≤ f)
def partN (f t : Int) (r : Bool) (a : Int) : Int := if r = true then t - (partQ a.toNat t.toNat f.toNat : Int) else (partQ a.toNat t.toNat f.toNat : Int)
def partV (f t : Int) (r : Bool) (a : Int) : Int := if prtB f t a = true then partN f t r a else 0
def partE (f t a : Int) : Int := if prtB f t a = true then 0 else 3
def RetPt (w : World) (f t : Int) (r : Bool) (a : Int) (e : Ending) (w' : World) : Prop := e = .returned (.tuple #[.int .i64 (partV f t r a), .int .i64 (partE f t a)]) ∧ Ext w w'
theorem retPt_bad {w : World} {f t a : Int} {r : Bool} (h : ¬ (1 ≤ f ∧ f ≤ 1099511627776 ∧ 0 ≤ t ∧ t ≤ 1099511627776 ∧ 0 ≤ a ∧ a ≤ f)) : RetPt w f t r a (.returned (.tuple #[.int .i64 0, .int .i64 3])) w := by
  have hb : prtB f t a = false := decide_eq_false h
  refine ⟨?_, Ext.refl _⟩
  unfold partV partE
  rw [hb]; rfl
theorem retPt_ok {w w' : World} {f t a : Int} {r : Bool} {x : Int} (h : 1 ≤ f ∧ f ≤ 1099511627776 ∧ 0 ≤ t ∧ t ≤ 1099511627776 ∧ 0 ≤ a ∧ a ≤ f) (hx : x = partN f t r a) (he : Ext w w') : RetPt w f t r a (.returned (.tuple #[.int .i64 x, .int .i64 0])) w' := by
  have hb : prtB f t a = true := decide_eq_true h
  refine ⟨?_, he⟩
  unfold partV partE
  rw [hb, if_pos rfl, if_pos rfl, hx]
set_option maxRecDepth 100000 in
set_option maxHeartbeats 1600000 in
theorem partner_any (f t a : Int) (r : Bool) (w : World) :
    Calls Tryz.prog 108 #[.int .i64 f, .int .i64 t, .bool r, .int .i64 a] w (RetPt w f t r a) := by
  by_cases h1 : f < 1
  · go_enter Tryz.func108, Tryz.ntmps108
    go_wp2_with fail
    go_ret2
    exact retPt_bad (by omega)
  by_cases h2 : 1099511627776 < f
  · go_enter Tryz.func108, Tryz.ntmps108
    go_wp2_with fail
    go_ret2
    exact retPt_bad (by omega)
  by_cases h3 : t < 0
  · go_enter Tryz.func108, Tryz.ntmps108
    go_wp2_with fail
    go_ret2
    exact retPt_bad (by omega)
  by_cases h4 : 1099511627776 < t
  · go_enter Tryz.func108, Tryz.ntmps108
    go_wp2_with fail
    go_ret2
    exact retPt_bad (by omega)
  by_cases h5 : a < 0
  · go_enter Tryz.func108, Tryz.ntmps108
    go_wp2_with fail
    go_ret2
    exact retPt_bad (by omega)
  by_cases h6 : f < a
  · go_enter Tryz.func108, Tryz.ntmps108
    go_wp2_with fail
    go_ret2
    exact retPt_bad (by omega)
  obtain ⟨F, rfl⟩ := Int.eq_ofNat_of_zero_le (show 0 ≤ f by omega)
  obtain ⟨T, rfl⟩ := Int.eq_ofNat_of_zero_le (show 0 ≤ t by omega)
  obtain ⟨X, rfl⟩ := Int.eq_ofNat_of_zero_le (show 0 ≤ a by omega)
  have HOK : Hid (1 ≤ (F : Int) ∧ (F : Int) ≤ 1099511627776 ∧ 0 ≤ (T : Int) ∧ (T : Int) ≤ 1099511627776 ∧ 0 ≤ (X : Int) ∧ (X : Int) ≤ (F : Int)) := ⟨by omega, by omega, by omega, by omega, by omega, by omega⟩
  have hF1 : 1 ≤ F := by omega
  have hF2 : F ≤ 1099511627776 := by omega
  have hT2 : T ≤ 1099511627776 := by omega
  have hX2 : X ≤ F := by omega
  have ux : IntKind.u64.wrap (X : Int) = (X : Int) := u64_wrap X (by omega)
  have ut : IntKind.u64.wrap (T : Int) = (T : Int) := u64_wrap T (by omega)
  have uf : IntKind.u64.wrap (F : Int) = (F : Int) := u64_wrap F (by omega)
  have hle : X * T ≤ F * 1099511627776 := Nat.mul_le_mul hX2 hT2
  have hhi : X * T / 18446744073709551616 < F := by
    rw [Nat.div_lt_iff_lt_mul (by omega)]
    have : F * 1099511627776 < F * 18446744073709551616 := Nat.mul_lt_mul_of_pos_left (by omega) (by omega)
    omega
  go_enter Tryz.func108, Tryz.ntmps108
  go_wp2_with fail
  refine (mul64_any X T (by omega) (by omega) _).mono ?_
  rintro e w1 ⟨rfl, rfl⟩
  obtain ⟨HI, hHI⟩ : ∃ HI, HI = X * T / 18446744073709551616 := ⟨_, rfl⟩
  obtain ⟨LO, hLO⟩ : ∃ LO, LO = X * T % 18446744073709551616 := ⟨_, rfl⟩
  rw [← hHI, ← hLO]
  rw [← hHI] at hhi
  have hlo : LO < 18446744073709551616 := by rw [hLO]; exact Nat.mod_lt _ (by omega)
  have HSUM : Hid (HI * 18446744073709551616 + LO = X * T) := by
    show _ = _
    rw [hHI, hLO, Nat.mul_comm]; exact Nat.div_add_mod _ _
  clear hHI hLO ux ut
  go_wp2_with fail
  refine (div64_any HI LO F _ hlo hhi (by omega)).mono ?_
  rintro e w2 ⟨rfl, he2⟩
  rw [HSUM.out]
  have HXX := Lib.hid he2
  have hle2 : partQ X T F ≤ T := part_le hF1 hX2
  have hcode := part_code (a := X) (t := T) (f := F) hF1
  obtain ⟨Q, hQ⟩ : ∃ Q, Q = X * T / F := ⟨_, rfl⟩
  obtain ⟨R, hR⟩ : ∃ R, R = X * T % F := ⟨_, rfl⟩
  have hRl : R < F := by rw [hR]; exact Nat.mod_lt _ (by omega)
  rw [← hQ, ← hR] at hcode ⊢
  obtain ⟨N, hN⟩ : ∃ N, N = partQ X T F := ⟨_, rfl⟩
  rw [← hN] at hle2 hcode
  have HN : Hid (∀ r, partN (F : Int) (T : Int) r (X : Int) = if r = true then (T : Int) - (N : Int) else (N : Int)) := fun r => by unfold partN; rw [hN]; simp
  have u2 : IntKind.u64.wrap (2 * (R : Int)) = 2 * (R : Int) := by rw [IntKind.wrap_u64]; omega
  have u3 : IntKind.u64.wrap ((Q : Int) + 1) = (Q : Int) + 1 := by rw [IntKind.wrap_u64]; split at hcode <;> omega
  have u4 : IntKind.i64.wrap ((Q : Int) + 1) = (Q : Int) + 1 := IntWalk.i64_in _ (by split at hcode <;> omega)
  have u5 : IntKind.i64.wrap (Q : Int) = (Q : Int) := IntWalk.i64_in _ (by split at hcode <;> omega)
  clear he2 hQ hR hN hle hlo hhi HSUM
  by_cases hc : F ≤ 2 * R
  · rw [if_pos hc] at hcode
    have hci : (F : Int) ≤ 2 * (R : Int) := by omega
    cases r
    · go_wp2_with fail
      go_ret2
      exact retPt_ok HOK.out (by rw [HN.out]; simp; omega) HXX.out
    · go_wp2_with fail
      go_ret2
      exact retPt_ok HOK.out (by rw [HN.out]; simp; omega) HXX.out
  · rw [if_neg hc] at hcode
    have hci : ¬ (F : Int) ≤ 2 * (R : Int) := by omega
    cases r
    · go_wp2_with fail
      go_ret2
      exact retPt_ok HOK.out (by rw [HN.out]; simp; omega) HXX.out
    · go_wp2_with fail
      go_ret2
      exact retPt_ok HOK.out (by rw [HN.out]; simp; omega) HXX.out
end Go.Proofs.YtkigmpholnfkbaaGreat
/- words: lines of a graded outline; what seam.Lengths answers. No program in sight. -/
namespace Go.Proofs.YtkigmpholnfkbaaGreat
open Go.RowKit
theorem graded_lines {es : List Edge} {cs : List Spot} {m : Int} (h : gradedR es cs m = 0) {k : Nat} (hk : k < es.length) : lcheck (gE (gradedE es cs m) k).2 = 0 :=
  ocheck_line ((gradedR_iff es cs m).1 h).ok' (by rw [gradedE_len]; exact hk)
/- what Lengths answers -/
theorem lens_1 {s : Sty} {z k : Int} (h : ¬ (sizeB s z = true ∧ 0 ≤ k ∧ k < s.ss.length)) : lensV s z k = (0, 0, 3) := by
  have e : lensE s z k = 3 := by unfold lensE; rw [if_pos h]
  unfold lensV; rw [e]; rfl
theorem lens_2 {s : Sty} {z k : Int} (h1 : sizeB s z = true ∧ 0 ≤ k ∧ k < s.ss.length) (h : ¬ (edgeB s (gSm s.ss k.toNat).pa (gSm s.ss k.toNat).ea = true ∧ edgeB s (gSm s.ss k.toNat).pb (gSm s.ss k.toNat).eb = true)) : lensV s z k = (0, 0, 3) := by
  have e : lensE s z k = 3 := by unfold lensE; rw [if_neg (fun hn => hn h1), if_pos h]
  unfold lensV; rw [e]; rfl
theorem lens_3 {s : Sty} {z k : Int} (h1 : sizeB s z = true ∧ 0 ≤ k ∧ k < s.ss.length) (h2 : edgeB s (gSm s.ss k.toNat).pa (gSm s.ss k.toNat).ea = true ∧ edgeB s (gSm s.ss k.toNat).pb (gSm s.ss k.toNat).eb = true)
    (h : gradedR (gPc s.ps (gSm s.ss k.toNat).pa.toNat).es (gPc s.ps (gSm s.ss k.toNat).pa.toNat).cs (gI s.ms z.toNat) ≠ 0) : lensV s z k = (0, 0, gradedR (gPc s.ps (gSm s.ss k.toNat).pa.toNat).es (gPc s.ps (gSm s.ss k.toNat).pa.toNat).cs (gI s.ms z.toNat)) := by
  have e := show lensE s z k = _ by unfold lensE; rw [if_neg (fun hn => hn h1), if_neg (fun hn => hn h2), if_pos h]
  unfold lensV; rw [e, if_pos h]
theorem lens_4 {s : Sty} {z k : Int} (h1 : sizeB s z = true ∧ 0 ≤ k ∧ k < s.ss.length) (h2 : edgeB s (gSm s.ss k.toNat).pa (gSm s.ss k.toNat).ea = true ∧ edgeB s (gSm s.ss k.toNat).pb (gSm s.ss k.toNat).eb = true)
    (h3 : gradedR (gPc s.ps (gSm s.ss k.toNat).pa.toNat).es (gPc s.ps (gSm s.ss k.toNat).pa.toNat).cs (gI s.ms z.toNat) = 0) (h : gradedR (gPc s.ps (gSm s.ss k.toNat).pb.toNat).es (gPc s.ps (gSm s.ss k.toNat).pb.toNat).cs (gI s.ms z.toNat) ≠ 0) : lensV s z k = (0, 0, gradedR (gPc s.ps (gSm s.ss k.toNat).pb.toNat).es (gPc s.ps (gSm s.ss k.toNat).pb.toNat).cs (gI s.ms z.toNat)) := by
  have e := show lensE s z k = _ by unfold lensE; rw [if_neg (fun hn => hn h1), if_neg (fun hn => hn h2), if_neg (fun hn => hn h3)]
  unfold lensV; rw [e, if_pos h]
theorem lens_5 {s : Sty} {z k : Int} (h1 : sizeB s z = true ∧ 0 ≤ k ∧ k < s.ss.length) (h2 : edgeB s (gSm s.ss k.toNat).pa (gSm s.ss k.toNat).ea = true ∧ edgeB s (gSm s.ss k.toNat).pb (gSm s.ss k.toNat).eb = true)
    (h3 : gradedR (gPc s.ps (gSm s.ss k.toNat).pa.toNat).es (gPc s.ps (gSm s.ss k.toNat).pa.toNat).cs (gI s.ms z.toNat) = 0) (h : gradedR (gPc s.ps (gSm s.ss k.toNat).pb.toNat).es (gPc s.ps (gSm s.ss k.toNat).pb.toNat).cs (gI s.ms z.toNat) = 0) : lensV s z k = (((lensA s z k : Nat) : Int), ((lensB s z k : Nat) : Int), 0) := by
  have e := show lensE s z k = _ by unfold lensE; rw [if_neg (fun hn => hn h1), if_neg (fun hn => hn h2), if_neg (fun hn => hn h3)]
  unfold lensV; rw [e, if_neg (fun hn => hn h)]
theorem edgeB_iff {s : Sty} {p e : Int} (h : edgeB s p e = true) : 0 ≤ p ∧ p < s.ps.length ∧ 0 ≤ e ∧ e < (gPc s.ps p.toNat).es.length := by
  unfold edgeB at h; exact of_decide_eq_true h
def LenV (x : Int × Int × Int) : Value := .tuple #[.int .i64 x.1, .int .i64 x.2.1, .int .i64 x.2.2]
end Go.Proofs.YtkigmpholnfkbaaGreat
/- plain: bounds of lengths; the gap of two lengths -/
namespace Go.Proofs.YtkigmpholnfkbaaGreat
open Go.RowKit
theorem lengthN_bd (l : List Spot) : lengthN l ≤ 1000000000000 := by
  unfold lengthN
  split
  · omega
  · rename_i h
    obtain ⟨h2, h40, hin⟩ := lcheck_zero (l := l) (by omega)
    have := lenTo_le hin (l.length - 1) (by omega)
    have : (l.length - 1) * 4294967296 ≤ 39 * 4294967296 := Nat.mul_le_mul (by omega) (by omega)
    omega
theorem lnN_bd (p : Pc) (m : Int) (e : Nat) : lnN p m e ≤ 1000000000000 := by
  unfold lnN
  split
  · omega
  · exact lengthN_bd _
theorem lensV_bd (s : Sty) (z k : Int) : 0 ≤ (lensV s z k).1 ∧ (lensV s z k).1 ≤ 1000000000000 ∧ 0 ≤ (lensV s z k).2.1 ∧ (lensV s z k).2.1 ≤ 1000000000000 := by
  unfold lensV
  split
  · simp only; omega
  · have := lnN_bd (gPc s.ps (gSm s.ss k.toNat).pa.toNat) (gI s.ms z.toNat) (gSm s.ss k.toNat).ea.toNat
    have := lnN_bd (gPc s.ps (gSm s.ss k.toNat).pb.toNat) (gI s.ms z.toNat) (gSm s.ss k.toNat).eb.toNat
    unfold lensA lensB
    simp only; omega
def gapN (a b : Int) : Int := if a - b < b - a then b - a else a - b
end Go.Proofs.YtkigmpholnfkbaaGreat
namespace Go.Proofs.YtkigmpholnfkbaaGreat
open Go.RowKit
def baseN (p : Pc) (k : Nat) : Nat := lengthN (gE p.es k).2
def grdN (p : Pc) (m : Int) (k : Nat) : Nat := lengthN (gE (gradedE p.es p.cs m) k).2
/- the error and the place of a notch -/
def ntE (p : Pc) (m : Int) (i : Nat) : Int := if (gS p.ns i).1 < 0 ∨ (p.es.length : Int) ≤ (gS p.ns i).1 then 3 else partE (baseN p (gS p.ns i).1.toNat) (grdN p m (gS p.ns i).1.toNat) (gS p.ns i).2
def plV (p : Pc) (m : Int) (i : Nat) : Int := partV (baseN p (gS p.ns i).1.toNat) (grdN p m (gS p.ns i).1.toNat) false (gS p.ns i).2
def plTo (p : Pc) (m : Int) (k : Nat) : List Int := (List.range k).map (plV p m)
def plL (p : Pc) (m : Int) : List Int := plTo p m p.ns.length
def plE (p : Pc) (m : Int) : Int := if gradedR p.es p.cs m ≠ 0 then gradedR p.es p.cs m else if 16 < p.ns.length then 5 else firstE (ntE p m) p.ns.length
theorem plTo_succ (p : Pc) (m : Int) (k : Nat) : plTo p m (k + 1) = plTo p m k ++ [plV p m k] := by unfold plTo; rw [List.range_succ, List.map_append]; rfl
theorem plTo_len (p : Pc) (m : Int) (k : Nat) : (plTo p m k).length = k := by simp [plTo]
theorem plL_len (p : Pc) (m : Int) : (plL p m).length = p.ns.length := plTo_len _ _ _
theorem plL_get {p : Pc} {m : Int} {i : Nat} (h : i < p.ns.length) : gI (plL p m) i = plV p m i := by
  rw [gI_eq (by rw [plL_len]; exact h)]; simp [plL, plTo]
/- when a notch has a place -/
structure NtOk (p : Pc) (m : Int) (i : Nat) : Prop where
  e0 : 0 ≤ (gS p.ns i).1
  e1 : (gS p.ns i).1 < p.es.length
  b1 : 1 ≤ baseN p (gS p.ns i).1.toNat
  a0 : 0 ≤ (gS p.ns i).2
  a1 : (gS p.ns i).2 ≤ baseN p (gS p.ns i).1.toNat
theorem prtB_iff {f t a : Int} : prtB f t a = true ↔ 1 ≤ f ∧ f ≤ 1099511627776 ∧ 0 ≤ t ∧ t ≤ 1099511627776 ∧ 0 ≤ a ∧ a ≤ f := by unfold prtB; exact decide_eq_true_iff
theorem partE_zero {f t a : Int} : partE f t a = 0 ↔ prtB f t a = true := by
  unfold partE
  split
  · rename_i h; simp [h]
  · rename_i h; simp [h]
theorem ntE_zero {p : Pc} {m : Int} {i : Nat} : ntE p m i = 0 ↔ NtOk p m i := by
  unfold ntE
  split
  · rename_i h
    constructor
    · intro h; cases h
    · intro h'; have := h'.e0; have := h'.e1; omega
  · rename_i h
    rw [partE_zero, prtB_iff]
    constructor
    · intro h'; exact ⟨by omega, by omega, by omega, by omega, by omega⟩
    · intro h'
      have h1 := lengthN_bd (gE p.es (gS p.ns i).1.toNat).2
      have h2 := lengthN_bd (gE (gradedE p.es p.cs m) (gS p.ns i).1.toNat).2
      have := h'.b1; have := h'.a0; have := h'.a1
      unfold baseN grdN at *
      omega
structure PlOk (p : Pc) (m : Int) : Prop where
  g : gradedR p.es p.cs m = 0
  n : p.ns.length ≤ 16
  i : ∀ i, i < p.ns.length → NtOk p m i
theorem plE_zero {p : Pc} {m : Int} : plE p m = 0 ↔ PlOk p m := by
  unfold plE
  constructor
  · intro h
    split at h
    · rename_i h1; exact absurd h h1
    split at h
    · cases h
    · rename_i h1 h2
      exact ⟨Classical.not_not.1 h1, by omega, fun i hi => ntE_zero.1 ((firstE_zero _ _).1 h i hi)⟩
  · rintro ⟨h1, h2, h3⟩
    rw [if_neg (fun h => h h1), if_neg (by omega)]
    exact (firstE_zero _ _).2 fun i hi => ntE_zero.2 (h3 i hi)
/- the value of a place -/
theorem plV_eq {p : Pc} {m : Int} {i : Nat} (h : NtOk p m i) : plV p m i = (partQ (gS p.ns i).2.toNat (grdN p m (gS p.ns i).1.toNat) (baseN p (gS p.ns i).1.toNat) : Int) := by
  have hz := ntE_zero.2 h
  unfold ntE at hz
  rw [if_neg (by have := h.e0; have := h.e1; omega), partE_zero] at hz
  unfold plV partV partN
  rw [hz]
  simp
theorem plV_bd {p : Pc} {m : Int} {i : Nat} (h : NtOk p m i) : 0 ≤ plV p m i ∧ plV p m i ≤ grdN p m (gS p.ns i).1.toNat := by
  rw [plV_eq h]
  have := part_le (t := grdN p m (gS p.ns i).1.toNat) h.b1 (show (gS p.ns i).2.toNat ≤ _ by have := h.a1; have := h.a0; omega)
  omega
/- points -/
def spS (p : Pc) (m : Int) (i : Nat) : Spot := alongS (gE (gradedE p.es p.cs m) (gS p.ns i).1.toNat).2 (plV p m i)
def spTo (p : Pc) (m : Int) (k : Nat) : List Spot := (List.range k).map (spS p m)
def spL (p : Pc) (m : Int) : List Spot := spTo p m p.ns.length
theorem spTo_succ (p : Pc) (m : Int) (k : Nat) : spTo p m (k + 1) = spTo p m k ++ [spS p m k] := by unfold spTo; rw [List.range_succ, List.map_append]; rfl
theorem spTo_len (p : Pc) (m : Int) (k : Nat) : (spTo p m k).length = k := by simp [spTo]
theorem spL_len (p : Pc) (m : Int) : (spL p m).length = p.ns.length := spTo_len _ _ _
theorem spL_get {p : Pc} {m : Int} {i : Nat} (h : i < p.ns.length) : gS (spL p m) i = spS p m i := by
  rw [gS_eq (by rw [spL_len]; exact h)]; simp [spL, spTo]
theorem sp_ok {p : Pc} {m : Int} (h : PlOk p m) {i : Nat} (hi : i < p.ns.length) : alongE (gE (gradedE p.es p.cs m) (gS p.ns i).1.toNat).2 (plV p m i) = 0 ∧ lcheck (gE (gradedE p.es p.cs m) (gS p.ns i).1.toNat).2 = 0 ∧ lcheck (gE p.es (gS p.ns i).1.toNat).2 = 0 := by
  have hn := h.i i hi
  have hb := plV_bd hn
  have hk : (gS p.ns i).1.toNat < p.es.length := by have := hn.e0; have := hn.e1; omega
  have hl := graded_lines h.g hk
  refine ⟨?_, hl, ocheck_line ((gradedR_iff _ _ _).1 h.g).ok hk⟩
  unfold alongE
  rw [if_neg (fun h => h hl), if_neg (by unfold grdN at hb; omega)]
theorem part_self {a t : Nat} (h : 1 ≤ t) : partQ a t t = a := by
  rw [← part_code h, Nat.mul_div_cancel _ (by omega), Nat.mul_mod_left, if_neg (by omega)]; rfl
/- in the base size a notch stays where it is -/
theorem plV_zero {p : Pc} {m : Int} (h : PlOk p m) : PlOk p 0 ∧ ∀ i, i < p.ns.length → plV p 0 i = (gS p.ns i).2 := by
  have hg := (gradedR_iff _ _ _).1 h.g
  obtain ⟨h0, h1⟩ := graded_zero hg
  have hN : ∀ i, i < p.ns.length → NtOk p 0 i := fun i hi => ⟨(h.i i hi).e0, (h.i i hi).e1, (h.i i hi).b1, (h.i i hi).a0, (h.i i hi).a1⟩
  refine ⟨⟨h0, h.n, hN⟩, fun i hi => ?_⟩
  rw [plV_eq (hN i hi)]
  have e : grdN p 0 (gS p.ns i).1.toNat = baseN p (gS p.ns i).1.toNat := by unfold grdN baseN; rw [h1]
  rw [e, part_self (hN i hi).b1]
  have := (hN i hi).a0
  omega
theorem plV_ends {p : Pc} {m : Int} {i : Nat} (h : NtOk p m i) : ((gS p.ns i).2 = 0 → plV p m i = 0) ∧ ((gS p.ns i).2 = baseN p (gS p.ns i).1.toNat → plV p m i = grdN p m (gS p.ns i).1.toNat) := by
  refine ⟨fun e => ?_, fun e => ?_⟩
  · rw [plV_eq h, e]
    have := part_zero (t := grdN p m (gS p.ns i).1.toNat) h.b1
    simp [this]
  · rw [plV_eq h, e]
    have := part_full (t := grdN p m (gS p.ns i).1.toNat) h.b1
    simp [this]
theorem plV_mono {p : Pc} {m : Int} {i j : Nat} (hi : NtOk p m i) (hj : NtOk p m j) (he : (gS p.ns i).1 = (gS p.ns j).1) (hle : (gS p.ns i).2 ≤ (gS p.ns j).2) : plV p m i ≤ plV p m j := by
  rw [plV_eq hi, plV_eq hj, he]
  have := hi.a0
  have := part_mono (t := grdN p m (gS p.ns j).1.toNat) (f := baseN p (gS p.ns j).1.toNat) (show (gS p.ns i).2.toNat ≤ (gS p.ns j).2.toNat by omega)
  omega
end Go.Proofs.YtkigmpholnfkbaaGreat
