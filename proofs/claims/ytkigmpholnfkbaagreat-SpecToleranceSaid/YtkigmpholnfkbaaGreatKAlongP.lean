/- plain: the point of a polyline at a length; under turns and moves. No program in sight. -/
import Derived.Test.YtkigmpholnfkbaaGreatKTurnP
/- Plain: moves and multiples under turns. No program in sight. -/
namespace Go.Proofs.YtkigmpholnfkbaaGreat
open Go.RowKit
def inR (B : Int) (s : Spot) : Prop := -B ≤ s.1 ∧ s.1 ≤ B ∧ -B ≤ s.2 ∧ s.2 ≤ B
theorem inR_wf {B : Int} {s : Spot} (hB : B ≤ 9223372036854775807) (h : inR B s) : wfS s := by obtain ⟨h1, h2, h3, h4⟩ := h; exact ⟨by omega, by omega, by omega, by omega⟩
theorem inR_quart {B : Int} (_ : B ≤ 9223372036854775807) {s : Spot} (h : wfS s) : inR B (quart s) ↔ inR B s := by
  obtain ⟨h1, h2, h3, h4⟩ := h
  unfold quart inR
  rw [wneg h3 h4]
  split <;> (simp only; omega)
theorem inR_flip {B : Int} (_ : B ≤ 9223372036854775807) {s : Spot} (h : wfS s) : inR B (flipS true s) ↔ inR B s := by
  obtain ⟨h1, h2, h3, h4⟩ := h
  have e : flipS true s = (if s.1 = -9223372036854775808 then s.1 else -s.1, s.2) := by unfold flipS; rw [if_pos rfl, wneg h1 h2]
  rw [e]
  unfold inR
  by_cases h : s.1 = -9223372036854775808
  · simp only [if_pos h]
  · simp only [if_neg h]; omega
theorem inR_quarts {B : Int} (hB : B ≤ 9223372036854775807) {s : Spot} (h : wfS s) : ∀ n, inR B (quarts n s) ↔ inR B s
  | 0 => Iff.rfl
  | n + 1 => (inR_quart hB (wfS_quarts h n).1).trans (inR_quarts hB h n)
theorem inR_apply {B : Int} (hB : B ≤ 9223372036854775807) {s : Spot} (h : wfS s) (f : Bool) (q : Int) : inR B (applyT f q s) ↔ inR B s := by
  cases f
  · exact inR_quarts hB h _
  · exact (inR_quarts hB (wfS_flip h).1 _).trans (inR_flip hB h)
theorem quart_R {B : Int} (hB : B ≤ 9223372036854775807) {s : Spot} (h : inR B s) : quart s = (-s.2, s.1) := by
  obtain ⟨h1, h2, h3, h4⟩ := h
  unfold quart; rw [w64 (by omega) (by omega)]
theorem flip_R {B : Int} (hB : B ≤ 9223372036854775807) {s : Spot} (h : inR B s) : flipS true s = (-s.1, s.2) := by
  obtain ⟨h1, h2, h3, h4⟩ := h
  unfold flipS; rw [if_pos rfl, w64 (by omega) (by omega)]
/- one moved vertex -/
def mv1 (v a b : Spot) (s k : Int) : Spot := (mvx a.1 b.1 v.1 s k, mvx a.2 b.2 v.2 s k)
theorem mix_bd {a b s k : Int} (hs : 1 ≤ s) (hk : 0 ≤ k) (hks : k ≤ s) (ha : -100000 ≤ a ∧ a ≤ 100000) (hb : -100000 ≤ b ∧ b ≤ 100000) : -100000 ≤ rnd ((s - k) * a + k * b) s ∧ rnd ((s - k) * a + k * b) s ≤ 100000 := by
  have a1 := Int.mul_le_mul_of_nonneg_left ha.2 (show 0 ≤ s - k by omega)
  have a2 := Int.mul_le_mul_of_nonneg_left ha.1 (show 0 ≤ s - k by omega)
  have b1 := Int.mul_le_mul_of_nonneg_left hb.2 hk
  have b2 := Int.mul_le_mul_of_nonneg_left hb.1 hk
  refine rnd_bd _ _ 100000 hs ?_ ?_
  · omega
  · omega
theorem mvx_eq {a b v s k : Int} (hs : 1 ≤ s) (hk : 0 ≤ k) (hks : k ≤ s) (ha : -100000 ≤ a ∧ a ≤ 100000) (hb : -100000 ≤ b ∧ b ≤ 100000) (hv : -1048576 ≤ v ∧ v ≤ 1048576) : mvx a b v s k = v + rnd ((s - k) * a + k * b) s := by
  have := mix_bd hs hk hks ha hb
  unfold mvx; exact w64 (by omega) (by omega)
theorem mvx_neg {a b v s k : Int} (hs : 1 ≤ s) (hk : 0 ≤ k) (hks : k ≤ s) (ha : -100000 ≤ a ∧ a ≤ 100000) (hb : -100000 ≤ b ∧ b ≤ 100000) (hv : -1048576 ≤ v ∧ v ≤ 1048576) : mvx (-a) (-b) (-v) s k = - mvx a b v s k := by
  rw [mvx_eq hs hk hks (by omega) (by omega) (by omega), mvx_eq hs hk hks ha hb hv]
  rw [show (s - k) * -a + k * -b = -((s - k) * a + k * b) from by rw [Int.mul_neg, Int.mul_neg]; omega, rnd_neg _ _ hs]; omega
theorem mv1_in {v a b : Spot} {s k : Int} (hs : 1 ≤ s) (hk : 0 ≤ k) (hks : k ≤ s) (hv : inR 1048576 v) (ha : inR 100000 a) (hb : inR 100000 b) : inR 2000000 (mv1 v a b s k) := by
  obtain ⟨v1, v2, v3, v4⟩ := hv; obtain ⟨a1, a2, a3, a4⟩ := ha; obtain ⟨b1, b2, b3, b4⟩ := hb
  have m1 := mix_bd hs hk hks ⟨a1, a2⟩ ⟨b1, b2⟩
  have m2 := mix_bd hs hk hks ⟨a3, a4⟩ ⟨b3, b4⟩
  unfold mv1 inR
  simp only
  rw [mvx_eq hs hk hks ⟨a1, a2⟩ ⟨b1, b2⟩ ⟨v1, v2⟩, mvx_eq hs hk hks ⟨a3, a4⟩ ⟨b3, b4⟩ ⟨v3, v4⟩]
  omega
def Comm (T : Spot → Spot) : Prop := ∀ v a b s k, 1 ≤ s → 0 ≤ k → k ≤ s → inR 1048576 v → inR 100000 a → inR 100000 b → mv1 (T v) (T a) (T b) s k = T (mv1 v a b s k)
theorem comm_quart : Comm quart := fun v a b s k hs hk hks hv ha hb => by
  rw [quart_R (by omega) hv, quart_R (by omega) ha, quart_R (by omega) hb, quart_R (B := 2000000) (by omega) (mv1_in hs hk hks hv ha hb)]
  unfold mv1
  simp only
  rw [mvx_neg hs hk hks ⟨ha.2.2.1, ha.2.2.2⟩ ⟨hb.2.2.1, hb.2.2.2⟩ ⟨hv.2.2.1, hv.2.2.2⟩]
theorem comm_flip : Comm (flipS true) := fun v a b s k hs hk hks hv ha hb => by
  rw [flip_R (by omega) hv, flip_R (by omega) ha, flip_R (by omega) hb, flip_R (B := 2000000) (by omega) (mv1_in hs hk hks hv ha hb)]
  unfold mv1
  simp only
  rw [mvx_neg hs hk hks ⟨ha.1, ha.2.1⟩ ⟨hb.1, hb.2.1⟩ ⟨hv.1, hv.2.1⟩]
theorem comm_quarts : ∀ n, Comm (quarts n)
  | 0 => fun _ _ _ _ _ _ _ _ _ _ _ => rfl
  | n + 1 => fun v a b s k hs hk hks hv ha hb => by
    show mv1 (quart (quarts n v)) (quart (quarts n a)) (quart (quarts n b)) s k = quart (quarts n (mv1 v a b s k))
    rw [comm_quart _ _ _ s k hs hk hks ((inR_quarts (by omega) (inR_wf (by omega) hv) n).2 hv) ((inR_quarts (by omega) (inR_wf (by omega) ha) n).2 ha) ((inR_quarts (by omega) (inR_wf (by omega) hb) n).2 hb), comm_quarts n v a b s k hs hk hks hv ha hb]
theorem comm_apply (f : Bool) (q : Int) : Comm (applyT f q) := by
  cases f
  · exact comm_quarts _
  · intro v a b s k hs hk hks hv ha hb
    show mv1 (quarts _ (flipS true v)) (quarts _ (flipS true a)) (quarts _ (flipS true b)) s k = quarts _ (flipS true (mv1 v a b s k))
    rw [comm_quarts _ _ _ _ s k hs hk hks ((inR_flip (by omega) (inR_wf (by omega) hv)).2 hv) ((inR_flip (by omega) (inR_wf (by omega) ha)).2 ha) ((inR_flip (by omega) (inR_wf (by omega) hb)).2 hb), comm_flip v a b s k hs hk hks hv ha hb]
def CommM (m : Int) (T : Spot → Spot) : Prop := ∀ c, inR 1000 c → mulS m (T c) = T (mulS m c)
theorem mulS_R {m : Int} (h0 : -100 ≤ m) (h1 : m ≤ 100) {c : Spot} (h : inR 1000 c) : mulS m c = (m * c.1, m * c.2) ∧ inR 100000 (mulS m c) := by
  have e := mulS_eq h0 h1 h
  rw [e]
  exact ⟨rfl, (mul_100 h0 h1 h.1 h.2.1).1, (mul_100 h0 h1 h.1 h.2.1).2, (mul_100 h0 h1 h.2.2.1 h.2.2.2).1, (mul_100 h0 h1 h.2.2.1 h.2.2.2).2⟩
section
variable {m : Int} (h0 : -100 ≤ m) (h1 : m ≤ 100)
include h0 h1
theorem commM_quart : CommM m quart := fun c hc => by
  obtain ⟨e, hr⟩ := mulS_R h0 h1 hc
  have hc' := (inR_quart (by omega) (inR_wf (by omega) hc)).2 hc
  rw [(mulS_R h0 h1 hc').1, quart_R (by omega) hr, quart_R (by omega) hc, e]
  simp [Int.mul_neg]
theorem commM_flip : CommM m (flipS true) := fun c hc => by
  obtain ⟨e, hr⟩ := mulS_R h0 h1 hc
  have hc' := (inR_flip (by omega) (inR_wf (by omega) hc)).2 hc
  rw [(mulS_R h0 h1 hc').1, flip_R (by omega) hr, flip_R (by omega) hc, e]
  simp [Int.mul_neg]
theorem commM_quarts : ∀ n, CommM m (quarts n)
  | 0 => fun _ _ => rfl
  | n + 1 => fun c hc => by
    show mulS m (quart (quarts n c)) = quart (quarts n (mulS m c))
    rw [commM_quart h0 h1 _ ((inR_quarts (by omega) (inR_wf (by omega) hc) n).2 hc), commM_quarts n c hc]
theorem commM_apply (f : Bool) (q : Int) : CommM m (applyT f q) := by
  cases f
  · exact commM_quarts h0 h1 _
  · intro c hc
    show mulS m (quarts _ (flipS true c)) = quarts _ (flipS true (mulS m c))
    rw [commM_quarts h0 h1 _ _ ((inR_flip (by omega) (inR_wf (by omega) hc)).2 hc), commM_flip h0 h1 c hc]
end
theorem mv1_rev (v a b : Spot) (s k : Int) : mv1 v b a s k = mv1 v a b s (s - k) := by
  unfold mv1 mvx
  rw [show s - (s - k) = k from by omega, Int.add_comm ((s - k) * b.1), Int.add_comm ((s - k) * b.2)]
theorem cornF_iff (cs : List Spot) : allB (cornF cs) cs.length = true ↔ ∀ j, j < cs.length → inR 1000 (gS cs j) := by
  rw [allB_iff]
  constructor
  · intro h j hj
    have := h j hj
    simp only [cornF, Bool.and_eq_true, decide_eq_true_eq] at this
    exact ⟨this.1.1, this.1.2, this.2.1, this.2.2⟩
  · intro h j hj
    obtain ⟨a, b, c, d⟩ := h j hj
    simp only [cornF, Bool.and_eq_true, decide_eq_true_eq]
    exact ⟨⟨a, b⟩, c, d⟩
end Go.Proofs.YtkigmpholnfkbaaGreat
/- Plain: lengths under turns. No program in sight. -/
namespace Go.Proofs.YtkigmpholnfkbaaGreat
open Go.RowKit
theorem sqN_dot (p q : Spot) : sqN p q = (dotX q p q).toNat := rfl
theorem sqN_comm (p q : Spot) : sqN p q = sqN q p := by
  unfold sqN
  rw [show p.1 - q.1 = -(q.1 - p.1) from by omega, show p.2 - q.2 = -(q.2 - p.2) from by omega, Int.neg_mul_neg, Int.neg_mul_neg]
theorem seg_turn (f : Bool) (q : Int) {a b : Spot} (ha : inB a) (hb : inB b) : seg (applyT f q a) (applyT f q b) = seg a b := by
  unfold seg; rw [sqN_dot, sqN_dot, (pres_apply f q).dt b a b hb ha hb]
def sumN (g : Nat → Nat) : Nat → Nat
  | 0 => 0
  | k + 1 => sumN g k + g k
theorem lenTo_sum (l : List Spot) : ∀ k, lenTo l k = sumN (fun i => seg (gS l i) (gS l (i + 1))) k
  | 0 => rfl
  | k + 1 => by simp only [lenTo, sumN]; rw [lenTo_sum l k]
theorem sumN_congr {g h : Nat → Nat} {n : Nat} (e : ∀ i, i < n → g i = h i) : ∀ k, k ≤ n → sumN g k = sumN h k
  | 0, _ => rfl
  | k + 1, hk => by simp only [sumN]; rw [sumN_congr e k (by omega), e k (by omega)]
theorem sumN_first (g : Nat → Nat) : ∀ n, sumN g (n + 1) = g 0 + sumN (fun i => g (i + 1)) n
  | 0 => by simp [sumN]
  | n + 1 => by have h := sumN_first g n; simp only [sumN] at h ⊢; omega
theorem sumN_rev : ∀ (n : Nat) (g : Nat → Nat), sumN (fun i => g (n - 1 - i)) n = sumN g n
  | 0, _ => rfl
  | n + 1, g => by
    have h := sumN_first (fun i => g (n + 1 - 1 - i)) n
    rw [h]
    have e : sumN (fun i => g (n + 1 - 1 - (i + 1))) n = sumN (fun i => g (n - 1 - i)) n := sumN_congr (n := n) (fun i _ => by congr 1; omega) n (Nat.le_refl _)
    rw [e, sumN_rev n g]
    simp only [sumN, Nat.add_sub_cancel, Nat.sub_zero]; omega
end Go.Proofs.YtkigmpholnfkbaaGreat
namespace Go.Proofs.YtkigmpholnfkbaaGreat
open Go.RowKit
def midS (p q : Spot) (t n : Int) : Spot := (p.1 + rnd (t * (q.1 - p.1)) n, p.2 + rnd (t * (q.2 - p.2)) n)
def locB (l : List Spot) (s : Int) (i : Nat) : Bool := decide (s ≤ (lenTo l (i + 1) : Int))
/- the segment at a length -/
def locI (l : List Spot) (s : Int) : Nat := ((List.range (l.length - 1)).findIdx? (locB l s)).getD 0
def ptS (l : List Spot) (s : Int) (i : Nat) : Spot := midS (gS l i) (gS l (i + 1)) (s - lenTo l i) (seg (gS l i) (gS l (i + 1)))
def alongS (l : List Spot) (s : Int) : Spot := ptS l s (locI l s)
def alongE (l : List Spot) (s : Int) : Int := if lcheck l ≠ 0 then lcheck l else if s < 0 ∨ (lengthN l : Int) < s then 3 else 0
def alongV (l : List Spot) (s : Int) : Spot := if alongE l s ≠ 0 then (0, 0) else alongS l s
theorem locI_at {l : List Spot} {s : Int} {i : Nat} (hi : i < l.length - 1) (h0 : ∀ j, j < i → locB l s j = false) (h : locB l s i = true) : locI l s = i := by
  unfold locI
  have : (List.range (l.length - 1)).findIdx? (locB l s) = some i := by
    rw [List.findIdx?_eq_some_iff_getElem]
    refine ⟨by simpa using hi, by simpa using h, fun j hj => ?_⟩
    simpa using h0 j hj
  rw [this]; rfl
theorem locI_is {l : List Spot} {s : Int} (h2 : 2 ≤ l.length) (h : s ≤ (lenTo l (l.length - 1) : Int)) : locI l s < l.length - 1 ∧ (∀ j, j < locI l s → locB l s j = false) ∧ locB l s (locI l s) = true := by
  have hs : ((List.range (l.length - 1)).findIdx? (locB l s)).isSome = true := by
    rw [List.findIdx?_isSome, List.any_eq_true]
    refine ⟨l.length - 2, List.mem_range.2 (by omega), ?_⟩
    unfold locB
    rw [show l.length - 2 + 1 = l.length - 1 from by omega]
    exact decide_eq_true h
  obtain ⟨i, hi⟩ := Option.isSome_iff_exists.1 hs
  have e : locI l s = i := by unfold locI; rw [hi]; rfl
  rw [List.findIdx?_eq_some_iff_getElem] at hi
  obtain ⟨h1, h3, h4⟩ := hi
  rw [e]
  refine ⟨by simpa using h1, fun j hj => ?_, by simpa using h3⟩
  have := h4 j hj
  simpa using this
theorem seg_pos {p q : Spot} (hp : inB p) (hq : inB q) (hne : p ≠ q) : 1 ≤ seg p q := by
  have hs : 1 ≤ sqN p q := by
    obtain ⟨p1, p2, p3, p4⟩ := hp; obtain ⟨q1, q2, q3, q4⟩ := hq
    have h1 := (sq_bound (d := q.1 - p.1) (by omega) (by omega)).1
    have h2 := (sq_bound (d := q.2 - p.2) (by omega) (by omega)).1
    rcases Nat.eq_zero_or_pos (sqN p q) with h | h
    · exfalso
      unfold sqN at h
      have e1 : (q.1 - p.1) * (q.1 - p.1) = 0 := by omega
      have e2 : (q.2 - p.2) * (q.2 - p.2) = 0 := by omega
      have f1 : q.1 - p.1 = 0 := by rcases Int.mul_eq_zero.1 e1 with h | h <;> exact h
      have f2 : q.2 - p.2 = 0 := by rcases Int.mul_eq_zero.1 e2 with h | h <;> exact h
      exact hne (Prod.ext (by omega) (by omega))
    · exact h
  have hb := sqN_le hp hq
  have h1 := (rootN_is (1000000 * sqN p q) (by omega)).2
  unfold seg
  rcases Nat.eq_zero_or_pos (rootN (1000000 * sqN p q)) with h | h
  · rw [h] at h1; omega
  · exact h
theorem lenTo_mono {l : List Spot} {i j : Nat} (h : i ≤ j) : lenTo l i ≤ lenTo l j := by
  induction j with
  | zero => obtain rfl : i = 0 := by omega
            exact Nat.le_refl _
  | succ j ih =>
    rcases Nat.lt_or_ge j i with h1 | h1
    · obtain rfl : i = j + 1 := by omega
      exact Nat.le_refl _
    · have := ih h1
      simp only [lenTo]; omega
/- what holds at the segment that is found -/
theorem loc_facts {l : List Spot} {s : Int} (hl : lcheck l = 0) (h0 : 0 ≤ s) (h : s ≤ (lengthN l : Int)) :
    locI l s < l.length - 1 ∧ 0 ≤ s - lenTo l (locI l s) ∧ s - lenTo l (locI l s) ≤ (seg (gS l (locI l s)) (gS l (locI l s + 1)) : Int) ∧ 1 ≤ seg (gS l (locI l s)) (gS l (locI l s + 1)) ∧ inB (gS l (locI l s)) ∧ inB (gS l (locI l s + 1)) := by
  obtain ⟨h2, h40, hin, hne⟩ := (lcheck_iff l).1 hl
  unfold lengthN at h
  rw [if_neg (by rw [hl]; decide)] at h
  obtain ⟨h1, h3, h4⟩ := locI_is h2 h
  refine ⟨h1, ?_, ?_, seg_pos (hin _ (by omega)) (hin _ (by omega)) (hne _ (by omega)), hin _ (by omega), hin _ (by omega)⟩
  · rcases Nat.eq_zero_or_pos (locI l s) with h5 | h5
    · rw [h5]; simp only [lenTo]; omega
    · have := h3 (locI l s - 1) (by omega)
      unfold locB at this
      rw [show locI l s - 1 + 1 = locI l s from by omega] at this
      have := of_decide_eq_false this
      omega
  · have := of_decide_eq_true h4
    simp only [lenTo] at this
    omega
theorem mid_bd {a b t n : Int} (hn : 1 ≤ n) (h0 : 0 ≤ t) (h1 : t ≤ n) (ha : -1048576 ≤ a ∧ a ≤ 1048576) (hb : -1048576 ≤ b ∧ b ≤ 1048576) : -4000000 ≤ a + rnd (t * (b - a)) n ∧ a + rnd (t * (b - a)) n ≤ 4000000 := by
  have k1 := Int.mul_le_mul_of_nonneg_left (show b - a ≤ 2097152 by omega) h0
  have k2 := Int.mul_le_mul_of_nonneg_left (show -2097152 ≤ b - a by omega) h0
  have k3 : t * 2097152 ≤ n * 2097152 := Int.mul_le_mul_of_nonneg_right h1 (by omega)
  have := rnd_bd (t * (b - a)) n 2097152 hn (by omega) (by omega)
  omega
theorem mid_in {p q : Spot} {t n : Int} (hn : 1 ≤ n) (h0 : 0 ≤ t) (h1 : t ≤ n) (hp : inR 1048576 p) (hq : inR 1048576 q) : inR 4000000 (midS p q t n) := by
  obtain ⟨p1, p2, p3, p4⟩ := hp; obtain ⟨q1, q2, q3, q4⟩ := hq
  have a := mid_bd hn h0 h1 ⟨p1, p2⟩ ⟨q1, q2⟩
  have b := mid_bd hn h0 h1 ⟨p3, p4⟩ ⟨q3, q4⟩
  exact ⟨a.1, a.2, b.1, b.2⟩
theorem mid_neg (a b t n : Int) (hn : 1 ≤ n) : -a + rnd (t * (-b - -a)) n = -(a + rnd (t * (b - a)) n) := by
  rw [show -b - -a = -(b - a) from by omega, Int.mul_neg, rnd_neg _ _ hn]; omega
def CommP (T : Spot → Spot) : Prop := ∀ p q t n, 1 ≤ n → 0 ≤ t → t ≤ n → inR 1048576 p → inR 1048576 q → midS (T p) (T q) t n = T (midS p q t n)
theorem commP_quart : CommP quart := fun p q t n hn h0 h1 hp hq => by
  rw [quart_R (by omega) hp, quart_R (by omega) hq, quart_R (B := 4000000) (by omega) (mid_in hn h0 h1 hp hq)]
  unfold midS
  simp only
  rw [mid_neg _ _ _ _ hn]
theorem commP_flip : CommP (flipS true) := fun p q t n hn h0 h1 hp hq => by
  rw [flip_R (by omega) hp, flip_R (by omega) hq, flip_R (B := 4000000) (by omega) (mid_in hn h0 h1 hp hq)]
  unfold midS
  simp only
  rw [mid_neg _ _ _ _ hn]
theorem commP_quarts : ∀ k, CommP (quarts k)
  | 0 => fun _ _ _ _ _ _ _ _ _ => rfl
  | k + 1 => fun p q t n hn h0 h1 hp hq => by
    show midS (quart (quarts k p)) (quart (quarts k q)) t n = quart (quarts k (midS p q t n))
    rw [commP_quart _ _ t n hn h0 h1 ((inR_quarts (by omega) (inR_wf (by omega) hp) k).2 hp) ((inR_quarts (by omega) (inR_wf (by omega) hq) k).2 hq), commP_quarts k p q t n hn h0 h1 hp hq]
theorem commP_apply (f : Bool) (r : Int) : CommP (applyT f r) := by
  cases f
  · exact commP_quarts _
  · intro p q t n hn h0 h1 hp hq
    show midS (quarts _ (flipS true p)) (quarts _ (flipS true q)) t n = quarts _ (flipS true (midS p q t n))
    rw [commP_quarts _ _ _ t n hn h0 h1 ((inR_flip (by omega) (inR_wf (by omega) hp)).2 hp) ((inR_flip (by omega) (inR_wf (by omega) hq)).2 hq), commP_flip p q t n hn h0 h1 hp hq]
theorem lenTo_map {T : Spot → Spot} {l : List Spot} (hT : ∀ a b, inB a → inB b → seg (T a) (T b) = seg a b) (hl : ∀ k, k < l.length → inB (gS l k)) : ∀ k, k ≤ l.length - 1 → lenTo (l.map T) k = lenTo l k
  | 0, _ => rfl
  | k + 1, hk => by
    simp only [lenTo]
    rw [lenTo_map hT hl k (by omega), gS_map (by omega), gS_map (by omega), hT _ _ (hl _ (by omega)) (hl _ (by omega))]
/- the point of a turned line -/
theorem along_map {T : Spot → Spot} (hT : ∀ a b, inB a → inB b → seg (T a) (T b) = seg a b) (hC : CommP T) {l : List Spot} {s : Int} (hl : lcheck l = 0) (h0 : 0 ≤ s) (h : s ≤ (lengthN l : Int)) : alongS (l.map T) s = T (alongS l s) := by
  obtain ⟨h2, h40, hin, hne⟩ := (lcheck_iff l).1 hl
  obtain ⟨g1, g2, g3, g4, g5, g6⟩ := loc_facts hl h0 h
  have hlen : s ≤ (lenTo l (l.length - 1) : Int) := by unfold lengthN at h; rwa [if_neg (by rw [hl]; decide)] at h
  obtain ⟨f1, f2, f3⟩ := locI_is h2 hlen
  have eB : ∀ j, j < l.length - 1 → locB (l.map T) s j = locB l s j := fun j hj => by
    unfold locB; rw [lenTo_map hT hin (j + 1) (by omega)]
  have e : locI (l.map T) s = locI l s := locI_at (by rw [List.length_map]; exact f1) (fun j hj => by rw [eB j (by omega)]; exact f2 j hj) (by rw [eB _ f1]; exact f3)
  unfold alongS
  rw [e]
  unfold ptS
  rw [gS_map (by omega), gS_map (by omega), hT _ _ g5 g6, lenTo_map hT hin _ (by omega)]
  exact hC _ _ _ _ (by omega) g2 g3 g5 g6
theorem along_turn (f : Bool) (q : Int) {l : List Spot} {s : Int} (hl : lcheck l = 0) (h0 : 0 ≤ s) (h : s ≤ (lengthN l : Int)) : alongS (l.map (applyT f q)) s = applyT f q (alongS l s) :=
  along_map (fun _ _ ha hb => seg_turn f q ha hb) (commP_apply f q) hl h0 h
/- the point of a moved line -/
theorem along_move (d : Spot) {l l' : List Spot} {s : Int} (hl : lcheck l = 0) (hlen : l'.length = l.length) (hd : ∀ k, k < l.length → gS l' k = ((gS l k).1 + d.1, (gS l k).2 + d.2)) (h0 : 0 ≤ s) (h : s ≤ (lengthN l : Int)) : alongS l' s = ((alongS l s).1 + d.1, (alongS l s).2 + d.2) := by
  obtain ⟨h2, h40, hin, hne⟩ := (lcheck_iff l).1 hl
  have hmap : l' = l.map (fun p => (p.1 + d.1, p.2 + d.2)) := list_ext_gS' (by rw [List.length_map, hlen]) fun k hk => by rw [hlen] at hk; rw [hd k hk, gS_map hk]
  rw [hmap]
  exact along_map (T := fun p => (p.1 + d.1, p.2 + d.2)) (fun a b _ _ => by
    unfold seg sqN
    simp only
    rw [show b.1 + d.1 - (a.1 + d.1) = b.1 - a.1 from by omega, show b.2 + d.2 - (a.2 + d.2) = b.2 - a.2 from by omega]) (fun p q t n _ _ _ _ _ => by
    unfold midS
    simp only
    rw [show q.1 + d.1 - (p.1 + d.1) = q.1 - p.1 from by omega, show q.2 + d.2 - (p.2 + d.2) = q.2 - p.2 from by omega]
    refine Prod.ext ?_ ?_ <;> simp only <;> omega) hl h0 h
end Go.Proofs.YtkigmpholnfkbaaGreat
