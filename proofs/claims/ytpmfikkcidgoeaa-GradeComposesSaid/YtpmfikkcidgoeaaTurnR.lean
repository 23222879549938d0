/- Plain: grading commutes with turning. -/
import Derived.Test.YtpmfikkcidgoeaaTurnQ
import Derived.Test.YtpmfikkcidgoeaaTurned
namespace Go.Proofs.Ytpmfikkcidgoeaa
open Go.RowKit
def inR (B : Int) (s : Spot) : Prop := -B ≤ s.1 ∧ s.1 ≤ B ∧ -B ≤ s.2 ∧ s.2 ≤ B
theorem inR_wf {B : Int} {s : Spot} (hB : B ≤ 9223372036854775807) (h : inR B s) : wfS s := by obtain ⟨h1, h2, h3, h4⟩ := h; exact ⟨by omega, by omega, by omega, by omega⟩
theorem inR_quart {B : Int} (_ : B ≤ 9223372036854775807) {s : Spot} (h : wfS s) : inR B (quart s) ↔ inR B s := by
  obtain ⟨h1, h2, h3, h4⟩ := h
  unfold quart inR
  rw [wneg h3 h4]
  split <;> (simp only; omega)
theorem inR_flip {B : Int} (_ : B ≤ 9223372036854775807) {s : Spot} (h : wfS s) : inR B (flipS true s) ↔ inR B s := by
  obtain ⟨h1, h2, h3, h4⟩ := h
  have e : flipS true s = (if s.1 = -9223372036854775808 then s.1 else -s.1, s.2) := by unfold flipS; rw [if_pos rfl, wneg h1 h2]
  rw [e]
  unfold inR
  by_cases h : s.1 = -9223372036854775808
  · simp only [if_pos h]
  · simp only [if_neg h]; omega
theorem inR_quarts {B : Int} (hB : B ≤ 9223372036854775807) {s : Spot} (h : wfS s) : ∀ n, inR B (quarts n s) ↔ inR B s
  | 0 => Iff.rfl
  | n + 1 => (inR_quart hB (wfS_quarts h n).1).trans (inR_quarts hB h n)
theorem inR_apply {B : Int} (hB : B ≤ 9223372036854775807) {s : Spot} (h : wfS s) (f : Bool) (q : Int) : inR B (applyT f q s) ↔ inR B s := by
  cases f
  · exact inR_quarts hB h _
  · exact (inR_quarts hB (wfS_flip h).1 _).trans (inR_flip hB h)
theorem quart_R {B : Int} (hB : B ≤ 9223372036854775807) {s : Spot} (h : inR B s) : quart s = (-s.2, s.1) := by
  obtain ⟨h1, h2, h3, h4⟩ := h
  unfold quart; rw [w64 (by omega) (by omega)]
theorem flip_R {B : Int} (hB : B ≤ 9223372036854775807) {s : Spot} (h : inR B s) : flipS true s = (-s.1, s.2) := by
  obtain ⟨h1, h2, h3, h4⟩ := h
  unfold flipS; rw [if_pos rfl, w64 (by omega) (by omega)]
/- one moved vertex -/
def mv1 (v a b : Spot) (s k : Int) : Spot := (mvx a.1 b.1 v.1 s k, mvx a.2 b.2 v.2 s k)
theorem mix_bd {a b s k : Int} (hs : 1 ≤ s) (hk : 0 ≤ k) (hks : k ≤ s) (ha : -100000 ≤ a ∧ a ≤ 100000) (hb : -100000 ≤ b ∧ b ≤ 100000) : -100000 ≤ rnd ((s - k) * a + k * b) s ∧ rnd ((s - k) * a + k * b) s ≤ 100000 := by
  have a1 := Int.mul_le_mul_of_nonneg_left ha.2 (show 0 ≤ s - k by omega)
  have a2 := Int.mul_le_mul_of_nonneg_left ha.1 (show 0 ≤ s - k by omega)
  have b1 := Int.mul_le_mul_of_nonneg_left hb.2 hk
  have b2 := Int.mul_le_mul_of_nonneg_left hb.1 hk
  refine rnd_bd _ _ 100000 hs ?_ ?_
  · omega
  · omega
theorem mvx_eq {a b v s k : Int} (hs : 1 ≤ s) (hk : 0 ≤ k) (hks : k ≤ s) (ha : -100000 ≤ a ∧ a ≤ 100000) (hb : -100000 ≤ b ∧ b ≤ 100000) (hv : -1048576 ≤ v ∧ v ≤ 1048576) : mvx a b v s k = v + rnd ((s - k) * a + k * b) s := by
  have := mix_bd hs hk hks ha hb
  unfold mvx; exact w64 (by omega) (by omega)
theorem mvx_neg {a b v s k : Int} (hs : 1 ≤ s) (hk : 0 ≤ k) (hks : k ≤ s) (ha : -100000 ≤ a ∧ a ≤ 100000) (hb : -100000 ≤ b ∧ b ≤ 100000) (hv : -1048576 ≤ v ∧ v ≤ 1048576) : mvx (-a) (-b) (-v) s k = - mvx a b v s k := by
  rw [mvx_eq hs hk hks (by omega) (by omega) (by omega), mvx_eq hs hk hks ha hb hv]
  rw [show (s - k) * -a + k * -b = -((s - k) * a + k * b) from by rw [Int.mul_neg, Int.mul_neg]; omega, rnd_neg _ _ hs]; omega
theorem mv1_in {v a b : Spot} {s k : Int} (hs : 1 ≤ s) (hk : 0 ≤ k) (hks : k ≤ s) (hv : inR 1048576 v) (ha : inR 100000 a) (hb : inR 100000 b) : inR 2000000 (mv1 v a b s k) := by
  obtain ⟨v1, v2, v3, v4⟩ := hv; obtain ⟨a1, a2, a3, a4⟩ := ha; obtain ⟨b1, b2, b3, b4⟩ := hb
  have m1 := mix_bd hs hk hks ⟨a1, a2⟩ ⟨b1, b2⟩
  have m2 := mix_bd hs hk hks ⟨a3, a4⟩ ⟨b3, b4⟩
  unfold mv1 inR
  simp only
  rw [mvx_eq hs hk hks ⟨a1, a2⟩ ⟨b1, b2⟩ ⟨v1, v2⟩, mvx_eq hs hk hks ⟨a3, a4⟩ ⟨b3, b4⟩ ⟨v3, v4⟩]
  omega
def Comm (T : Spot → Spot) : Prop := ∀ v a b s k, 1 ≤ s → 0 ≤ k → k ≤ s → inR 1048576 v → inR 100000 a → inR 100000 b → mv1 (T v) (T a) (T b) s k = T (mv1 v a b s k)
theorem comm_quart : Comm quart := fun v a b s k hs hk hks hv ha hb => by
  rw [quart_R (by omega) hv, quart_R (by omega) ha, quart_R (by omega) hb, quart_R (B := 2000000) (by omega) (mv1_in hs hk hks hv ha hb)]
  unfold mv1
  simp only
  rw [mvx_neg hs hk hks ⟨ha.2.2.1, ha.2.2.2⟩ ⟨hb.2.2.1, hb.2.2.2⟩ ⟨hv.2.2.1, hv.2.2.2⟩]
theorem comm_flip : Comm (flipS true) := fun v a b s k hs hk hks hv ha hb => by
  rw [flip_R (by omega) hv, flip_R (by omega) ha, flip_R (by omega) hb, flip_R (B := 2000000) (by omega) (mv1_in hs hk hks hv ha hb)]
  unfold mv1
  simp only
  rw [mvx_neg hs hk hks ⟨ha.1, ha.2.1⟩ ⟨hb.1, hb.2.1⟩ ⟨hv.1, hv.2.1⟩]
theorem comm_quarts : ∀ n, Comm (quarts n)
  | 0 => fun _ _ _ _ _ _ _ _ _ _ _ => rfl
  | n + 1 => fun v a b s k hs hk hks hv ha hb => by
    show mv1 (quart (quarts n v)) (quart (quarts n a)) (quart (quarts n b)) s k = quart (quarts n (mv1 v a b s k))
    rw [comm_quart _ _ _ s k hs hk hks ((inR_quarts (by omega) (inR_wf (by omega) hv) n).2 hv) ((inR_quarts (by omega) (inR_wf (by omega) ha) n).2 ha) ((inR_quarts (by omega) (inR_wf (by omega) hb) n).2 hb), comm_quarts n v a b s k hs hk hks hv ha hb]
theorem comm_apply (f : Bool) (q : Int) : Comm (applyT f q) := by
  cases f
  · exact comm_quarts _
  · intro v a b s k hs hk hks hv ha hb
    show mv1 (quarts _ (flipS true v)) (quarts _ (flipS true a)) (quarts _ (flipS true b)) s k = quarts _ (flipS true (mv1 v a b s k))
    rw [comm_quarts _ _ _ _ s k hs hk hks ((inR_flip (by omega) (inR_wf (by omega) hv)).2 hv) ((inR_flip (by omega) (inR_wf (by omega) ha)).2 ha) ((inR_flip (by omega) (inR_wf (by omega) hb)).2 hb), comm_flip v a b s k hs hk hks hv ha hb]
def CommM (m : Int) (T : Spot → Spot) : Prop := ∀ c, inR 1000 c → mulS m (T c) = T (mulS m c)
theorem mulS_R {m : Int} (h0 : -100 ≤ m) (h1 : m ≤ 100) {c : Spot} (h : inR 1000 c) : mulS m c = (m * c.1, m * c.2) ∧ inR 100000 (mulS m c) := by
  have e := mulS_eq h0 h1 h
  rw [e]
  exact ⟨rfl, (mul_100 h0 h1 h.1 h.2.1).1, (mul_100 h0 h1 h.1 h.2.1).2, (mul_100 h0 h1 h.2.2.1 h.2.2.2).1, (mul_100 h0 h1 h.2.2.1 h.2.2.2).2⟩
section
variable {m : Int} (h0 : -100 ≤ m) (h1 : m ≤ 100)
include h0 h1
theorem commM_quart : CommM m quart := fun c hc => by
  obtain ⟨e, hr⟩ := mulS_R h0 h1 hc
  have hc' := (inR_quart (by omega) (inR_wf (by omega) hc)).2 hc
  rw [(mulS_R h0 h1 hc').1, quart_R (by omega) hr, quart_R (by omega) hc, e]
  simp [Int.mul_neg]
theorem commM_flip : CommM m (flipS true) := fun c hc => by
  obtain ⟨e, hr⟩ := mulS_R h0 h1 hc
  have hc' := (inR_flip (by omega) (inR_wf (by omega) hc)).2 hc
  rw [(mulS_R h0 h1 hc').1, flip_R (by omega) hr, flip_R (by omega) hc, e]
  simp [Int.mul_neg]
theorem commM_quarts : ∀ n, CommM m (quarts n)
  | 0 => fun _ _ => rfl
  | n + 1 => fun c hc => by
    show mulS m (quart (quarts n c)) = quart (quarts n (mulS m c))
    rw [commM_quart h0 h1 _ ((inR_quarts (by omega) (inR_wf (by omega) hc) n).2 hc), commM_quarts n c hc]
theorem commM_apply (f : Bool) (q : Int) : CommM m (applyT f q) := by
  cases f
  · exact commM_quarts h0 h1 _
  · intro c hc
    show mulS m (quarts _ (flipS true c)) = quarts _ (flipS true (mulS m c))
    rw [commM_quarts h0 h1 _ _ ((inR_flip (by omega) (inR_wf (by omega) hc)).2 hc), commM_flip h0 h1 c hc]
end
theorem mv1_rev (v a b : Spot) (s k : Int) : mv1 v b a s k = mv1 v a b s (s - k) := by
  unfold mv1 mvx
  rw [show s - (s - k) = k from by omega, Int.add_comm ((s - k) * b.1), Int.add_comm ((s - k) * b.2)]
/- a moved line, turned -/
theorem movedS_turn (f : Bool) (q : Int) {l : List Spot} {a b : Spot} (hl : lcheck l = 0) (ha : inR 100000 a) (hb : inR 100000 b) :
    turnL f q (movedS l a b) = movedS (turnL f q l) (applyT f q (if f = true then b else a)) (applyT f q (if f = true then a else b)) := by
  obtain ⟨h2, h40, hin, _⟩ := (lcheck_iff l).1 hl
  refine list_ext_gS' (by rw [turnL_len, movedS_len, movedS_len, turnL_len]) fun k hk => ?_
  rw [turnL_len, movedS_len] at hk
  rw [turnL_get (by rw [movedS_len]; exact hk), movedS_len, movedS_g (by split <;> omega), movedS_g (by rw [turnL_len]; exact hk)]
  have e1 : ∀ j, mvS l a b j = mv1 (gS l j) a b ((l.length : Int) - 1) j := fun j => rfl
  have e2 : ∀ x y, mvS (turnL f q l) x y k = mv1 (gS (turnL f q l) k) x y ((l.length : Int) - 1) k := fun x y => by unfold mvS mv1; rw [turnL_len]
  rw [e1, e2, turnL_get hk]
  cases f
  · simp only [Bool.false_eq_true, if_false]
    rw [comm_apply false q _ _ _ _ _ (by omega) (by omega) (by omega) (hin k hk) ha hb]
  · simp only [if_true]
    rw [comm_apply true q _ _ _ _ _ (by omega) (by omega) (by omega) (hin _ (by omega)) hb ha, mv1_rev]
    congr 2
    omega
/- the corners of a turned piece -/
theorem turnC_len (f : Bool) (q : Int) (n : Nat) (cs : List Spot) : (turnC f q n cs).length = cs.length := by
  unfold turnC mirC
  split
  · split
    · rw [mixS_len, List.length_map]
    · rw [List.length_map]
  · rw [List.length_map]
theorem turnC_get (f : Bool) (q : Int) {cs : List Spot} {n i : Nat} (hn : cs.length = n) (hi : i < n) : gS (turnC f q n cs) i = applyT f q (gS cs (if f = true then (n - i + 1) % n else i)) := by
  unfold turnC
  cases f
  · simp only [Bool.false_eq_true, if_false]
    rw [gS_map (by omega)]
  · simp only [if_true]
    unfold mirC
    rw [if_pos (by rw [List.length_map]; exact hn), mixS_get (by rw [List.length_map]; omega), if_pos hi]
    unfold mirCF
    rw [gS_map (by rw [hn]; exact Nat.mod_lt _ (by omega))]
theorem turnC_idx (f : Bool) {n i : Nat} (hi : i < n) :
    (if f = true then (n - (i % n) + 1) % n else i % n) = (if f = true then (turnI f n i + 1) % n else turnI f n i % n) ∧ (if f = true then (n - ((i + 1) % n) + 1) % n else (i + 1) % n) = (if f = true then turnI f n i % n else (turnI f n i + 1) % n) := by
  cases f
  · simp [turnI]
  · simp only [if_true, turnI]
    rw [Nat.mod_eq_of_lt hi, Nat.mod_add_mod]
    refine ⟨rfl, ?_⟩
    rw [Nat.mod_mod]
    rcases Nat.lt_or_ge (i + 1) n with h | h
    · rw [Nat.mod_eq_of_lt h, show n - (i + 1) + 1 = n - i from by omega]
    · have : i + 1 = n := by omega
      rw [this, Nat.mod_self, Nat.sub_zero, show n - i = 1 from by omega, Nat.add_mod_left]
theorem gradedE_turn (f : Bool) (q : Int) {es : List Edge} {cs : List Spot} {m : Int} (h0 : -100 ≤ m) (h1 : m ≤ 100) (hlen : cs.length = es.length) (hc : allB (cornF cs) cs.length = true) (hl : ∀ i, i < es.length → lcheck (gE es i).2 = 0) :
    gradedE (turnE f q es) (turnC f q es.length cs) m = turnE f q (gradedE es cs m) := by
  refine list_ext_gE (by rw [gradedE_len, turnE_len, turnE_len, gradedE_len]) fun i hi => ?_
  rw [gradedE_len, turnE_len] at hi
  have hs := turnI_lt (f := f) hi
  have hn : 0 < es.length := by omega
  rw [gradedE_get (by rw [turnE_len]; exact hi), turnE_get (by rw [gradedE_len]; exact hi), gradedE_len, gradedE_get hs]
  unfold gradedAt
  rw [turnE_get hi, turnC_len, hlen]
  simp only
  have hR : ∀ j, j < es.length → inR 1000 (gS cs j) := fun j hj => cornF_bd hc (by rw [hlen]; exact hj)
  have hm : ∀ j, j < es.length → inR 100000 (mulS m (gS cs j)) := fun j hj => (mulS_R h0 h1 (hR j hj)).2
  have ha := Nat.mod_lt (turnI f es.length i) hn
  have hb := Nat.mod_lt (turnI f es.length i + 1) hn
  rw [movedS_turn f q (hl _ hs) (hm _ ha) (hm _ hb)]
  obtain ⟨x1, x2⟩ := turnC_idx f hi
  rw [turnC_get f q hlen (Nat.mod_lt i hn), turnC_get f q hlen (Nat.mod_lt (i + 1) hn), x1, x2]
  congr 2
  · rw [commM_apply h0 h1 f q _ (hR _ (by split <;> assumption))]
    congr 1
    split <;> rfl
  · rw [commM_apply h0 h1 f q _ (hR _ (by split <;> assumption))]
    congr 1
    split <;> rfl
theorem cornF_iff (cs : List Spot) : allB (cornF cs) cs.length = true ↔ ∀ j, j < cs.length → inR 1000 (gS cs j) := by
  rw [allB_iff]
  constructor
  · intro h j hj
    have := h j hj
    simp only [cornF, Bool.and_eq_true, decide_eq_true_eq] at this
    exact ⟨this.1.1, this.1.2, this.2.1, this.2.2⟩
  · intro h j hj
    obtain ⟨a, b, c, d⟩ := h j hj
    simp only [cornF, Bool.and_eq_true, decide_eq_true_eq]
    exact ⟨⟨a, b⟩, c, d⟩
theorem turnJ_lt {f : Bool} {n i : Nat} (h : i < n) : (if f = true then (n - i + 1) % n else i) < n := by
  split
  · exact Nat.mod_lt _ (by omega)
  · exact h
theorem turnJ_turnJ {f : Bool} {n i : Nat} (h : i < n) : (if f = true then (n - (if f = true then (n - i + 1) % n else i) + 1) % n else (if f = true then (n - i + 1) % n else i)) = i := by
  cases f
  · simp
  · simp only [if_true]
    rcases Nat.eq_zero_or_pos i with h0 | h0
    · subst h0
      rcases Nat.lt_or_ge 1 n with h1 | h1
      · rw [Nat.sub_zero, Nat.add_mod_left, Nat.mod_eq_of_lt h1, show n - 1 + 1 = n from by omega, Nat.mod_self]
      · have : n = 1 := by omega
        subst this; rfl
    · rcases Nat.lt_or_ge 1 i with h1 | h1
      · rw [Nat.mod_eq_of_lt (show n - i + 1 < n by omega), show n - (n - i + 1) + 1 = i from by omega, Nat.mod_eq_of_lt h]
      · have : i = 1 := by omega
        subst this
        rw [show n - 1 + 1 = n from by omega, Nat.mod_self, Nat.sub_zero, Nat.add_mod_left, Nat.mod_eq_of_lt h]
theorem corn_turn (f : Bool) (q : Int) {cs : List Spot} (hw : WfL cs) (n : Nat) (hn : cs.length = n) : allB (cornF (turnC f q n cs)) (turnC f q n cs).length = true ↔ allB (cornF cs) cs.length = true := by
  rw [cornF_iff, cornF_iff, turnC_len]
  constructor
  · intro h j hj
    rw [hn] at hj
    have := h (if f = true then (n - j + 1) % n else j) (by rw [hn]; exact turnJ_lt hj)
    rw [turnC_get f q hn (turnJ_lt hj), turnJ_turnJ hj] at this
    exact (inR_apply (by omega) (hw j (by rw [hn]; exact hj)) f q).1 this
  · intro h j hj
    rw [hn] at hj
    have hj' := turnJ_lt (f := f) hj
    rw [turnC_get f q hn hj]
    exact (inR_apply (by omega) (hw _ (by rw [hn]; exact hj')) f q).2 (h _ (by rw [hn]; exact hj'))
theorem wf_graded {es : List Edge} {cs : List Spot} {m : Int} (h0 : -100 ≤ m) (h1 : m ≤ 100) (hlen : cs.length = es.length) (hc : allB (cornF cs) cs.length = true) (hl : ∀ i, i < es.length → lcheck (gE es i).2 = 0) : WfE (gradedE es cs m) := by
  intro i hi k hk
  rw [gradedE_len] at hi
  rw [gradedE_get hi] at hk ⊢
  unfold gradedAt at hk ⊢
  simp only [movedS_len] at hk ⊢
  rw [movedS_g hk]
  obtain ⟨h2, h40, hin, _⟩ := (lcheck_iff _).1 (hl i hi)
  have hn : 0 < cs.length := by omega
  have hm : ∀ j, j < cs.length → inR 100000 (mulS m (gS cs j)) := fun j hj => (mulS_R h0 h1 (cornF_bd hc hj)).2
  exact inR_wf (B := 2000000) (by omega) (mv1_in (by omega) (by omega) (by omega) (hin k hk) (hm _ (Nat.mod_lt _ hn)) (hm _ (Nat.mod_lt _ hn)))
theorem GOk_turn (f : Bool) (q : Int) {es : List Edge} {cs : List Spot} {m : Int} (hw : WfE es) (hwc : WfL cs) : GOk (turnE f q es) (turnC f q es.length cs) m ↔ GOk es cs m := by
  constructor
  · intro h
    have hlen : cs.length = es.length := by have := h.len; rwa [turnC_len, turnE_len] at this
    have hc := (corn_turn f q hwc es.length hlen).1 h.corn
    have ok := (ocheck_turn f q hw).1 h.ok
    have hl := fun i hi => ocheck_line ok (i := i) hi
    have e := gradedE_turn f q h.m0 h.m1 hlen hc hl
    have ok' := h.ok'
    rw [e] at ok'
    exact ⟨h.m0, h.m1, hlen, hc, ok, (ocheck_turn f q (wf_graded h.m0 h.m1 hlen hc hl)).1 ok'⟩
  · intro h
    have hl := fun i hi => ocheck_line h.ok (i := i) hi
    have e := gradedE_turn f q h.m0 h.m1 h.len h.corn hl
    exact ⟨h.m0, h.m1, by rw [turnC_len, turnE_len]; exact h.len, (corn_turn f q hwc es.length h.len).2 h.corn, (ocheck_turn f q hw).2 h.ok, by rw [e]; exact (ocheck_turn f q (wf_graded h.m0 h.m1 h.len h.corn hl)).2 h.ok'⟩
theorem gradedR_turn (f : Bool) (q : Int) {es : List Edge} {cs : List Spot} {m : Int} (hw : WfE es) (hwc : WfL cs) : gradedR (turnE f q es) (turnC f q es.length cs) m = 0 ↔ gradedR es cs m = 0 := by
  rw [gradedR_iff, gradedR_iff, GOk_turn f q hw hwc]
theorem gradedE_turn' (f : Bool) (q : Int) {es : List Edge} {cs : List Spot} {m : Int} (h : GOk es cs m) : gradedE (turnE f q es) (turnC f q es.length cs) m = turnE f q (gradedE es cs m) :=
  gradedE_turn f q h.m0 h.m1 h.len h.corn fun _ hi => ocheck_line h.ok hi
end Go.Proofs.Ytpmfikkcidgoeaa
