/- the numbers that 'isName' reaches: empty magnitudes alone -/
import Derived.Laws.IdiomCopy
import Derived.Deep.RegionHeld3
import Derived.Laws.MakeOwn
import Derived.Deep.RegionWith
import Derived.Test.YtkigmpholnfkbaaGreatKL2
/- names -/
namespace Go.Proofs.YtkigmpholnfkbaaGreat
open Go.RowKit
theorem isDigit_any (c : Int) (w : World) :
    Calls Tryz.prog 146 #[.int .u8 c] w fun e w' => e = .returned (.bool (decide (48 ≤ c) && decide (c ≤ 57))) ∧ w = w' := by
  go_enter Tryz.func146, Tryz.ntmps146
  go_wp2
  all_goals
    go_ret
    exact ⟨ret_bool (by simp; try omega), rfl⟩
def bt (s : ByteArray) (k : Nat) : Int := if h : k < s.size then (s[k].toNat : Int) else 0
theorem bt_eq {s : ByteArray} {k : Nat} (h : k < s.size) : (s[k].toNat : Int) = bt s k := by simp [bt, h]
def smallB (c : Int) : Bool := decide (97 ≤ c) && decide (c ≤ 122)
def digitB (c : Int) : Bool := decide (48 ≤ c) && decide (c ≤ 57)
def chF (s : ByteArray) (i : Nat) : Bool := smallB (bt s i) || (!(i == 0) && (bt s i == 95 || digitB (bt s i)))
def nameB (s : ByteArray) : Bool := !(s.size == 0) && !decide (24 < s.size) && !(s.toList == [109, 105, 110]) && !(s.toList == [109, 97, 120]) && allB (chF s) s.size
theorem name_false {s : ByteArray} {k : Nat} (hk : k < s.size) (h : chF s k = false) : false = nameB s := by
  unfold nameB; rw [allB_false hk h]; simp
set_option maxHeartbeats 800000 in
theorem fname_test (s : ByteArray) (w : World) (h0 : ((s.size : Int) == 0) = false) (h1 : decide (24 < (s.size : Int)) = false) (h2 : (s.toList == [109, 105, 110]) = false) (h3 : (s.toList == [109, 97, 120]) = false) :
    Calls Tryz.prog 134 #[.string s] w fun e w' => e = .returned (.bool (nameB s)) ∧ w = w' := by
  have h24 : s.size ≤ 24 := by simp at h1; omega
  have H0 : Hid ((!(s.size == 0) && !decide (24 < s.size) && !(s.toList == [109, 105, 110]) && !(s.toList == [109, 97, 120])) = true) := by
    have h0' : (s.size == 0) = false := by simp at h0 ⊢; intro h; apply h0; simp [h]
    show _ = true
    rw [h2, h3, h0']; simp; omega
  go_enter Tryz.func134, Tryz.ntmps134
  go_wp2_with fail
  go_loop [24] (fun i => ∃ k : Nat, k ≤ s.size ∧ i = .int .i64 k ∧ allB (chF s) k = true) (fun i => s.size - (intOf i).toNat)
  case atStart => exact ⟨0, Nat.zero_le _, rfl, rfl⟩
  case round =>
    obtain ⟨k, hk, rfl, ht⟩ := hrel
    have HT := Lib.hid ht; clear ht
    by_cases hlt : k < s.size
    · by_cases ha : 97 ≤ (s[k].toNat : Int)
      · by_cases hz : (s[k].toNat : Int) ≤ 122
        · go_wp2_with fail
          go_round
          case rel => exact ⟨k + 1, by omega, by go_num, allB_succ HT.out (by unfold chF smallB digitB; rw [← bt_eq hlt]; simp; omega)⟩
          case measure => simp [intOf]; omega
        · have hzb : decide ((s[k].toNat : Int) ≤ 122) = false := by simp; omega
          have h95 : ((s[k].toNat : Int) != 95) = true := by simp; omega
          by_cases hk0 : k = 0
          · subst hk0
            go_wp2_with fail
            go_ret
            exact ⟨ret_bool (name_false hlt (by unfold chF smallB digitB; rw [← bt_eq hlt]; simp; omega)), rfl⟩
          · have hkb : ((k : Int) == 0) = false := by simp; omega
            go_wp2_with fail
            refine (isDigit_any _ _).mono ?_
            rintro e w1 ⟨rfl, rfl⟩
            have hd : (decide (48 ≤ (s[k].toNat : Int)) && decide ((s[k].toNat : Int) ≤ 57)) = false := by simp; omega
            go_wp2_with fail
            go_ret
            exact ⟨ret_bool (name_false hlt (by unfold chF smallB digitB; rw [← bt_eq hlt]; simp; omega)), rfl⟩
      · have hab : decide (97 ≤ (s[k].toNat : Int)) = false := by simp; omega
        by_cases hk0 : k = 0
        · subst hk0
          go_wp2_with fail
          go_ret
          exact ⟨ret_bool (name_false hlt (by unfold chF smallB digitB; rw [← bt_eq hlt]; simp; omega)), rfl⟩
        · have hkb : ((k : Int) == 0) = false := by simp; omega
          by_cases h95 : (s[k].toNat : Int) = 95
          · have h95b : ((s[k].toNat : Int) != 95) = false := by rw [h95]; decide
            have H95 := Lib.hid h95; clear h95
            go_wp2_with fail
            go_round
            case rel => exact ⟨k + 1, by omega, by go_num, allB_succ HT.out (by unfold chF smallB digitB; rw [← bt_eq hlt]; rw [H95.out]; simp; omega)⟩
            case measure => simp [intOf]; omega
          · have h95b : ((s[k].toNat : Int) != 95) = true := by simp; omega
            go_wp2_with fail
            refine (isDigit_any _ _).mono ?_
            rintro e w1 ⟨rfl, rfl⟩
            cases hd : (decide (48 ≤ (s[k].toNat : Int)) && decide ((s[k].toNat : Int) ≤ 57))
            · have HD := Lib.hid hd; clear hd
              go_wp2_with fail
              go_ret
              exact ⟨ret_bool (name_false hlt (by unfold chF smallB digitB; rw [← bt_eq hlt]; rw [HD.out]; simp; omega)), rfl⟩
            · have HD := Lib.hid hd; clear hd
              go_wp2_with fail
              go_round
              case rel => exact ⟨k + 1, by omega, by go_num, allB_succ HT.out (by unfold chF smallB digitB; rw [← bt_eq hlt]; rw [HD.out]; simp; omega)⟩
              case measure => simp [intOf]; omega
    · go_wp2_with fail
      go_ret
      exact ⟨ret_bool (by
        obtain rfl : k = s.size := by omega
        unfold nameB; rw [HT.out, H0.out]; rfl), rfl⟩
theorem fname_any (s : ByteArray) (w : World) : Calls Tryz.prog 134 #[.string s] w fun e w' => e = .returned (.bool (nameB s)) ∧ w = w' := by
  cases h0 : ((s.size : Int) == 0)
  case true =>
    have H : Hid (nameB s = false) := by
      have : (s.size == 0) = true := by simp at h0 ⊢; exact h0
      show nameB s = false
      unfold nameB; rw [this]; rfl
    go_enter Tryz.func134, Tryz.ntmps134
    go_wp2_with fail
    go_ret
    exact ⟨ret_bool H.out.symm, rfl⟩
  cases h1 : decide (24 < (s.size : Int))
  case true =>
    have H : Hid (nameB s = false) := by
      have : decide (24 < s.size) = true := by simp at h1 ⊢; omega
      show nameB s = false
      unfold nameB; rw [this]; simp
    go_enter Tryz.func134, Tryz.ntmps134
    go_wp2_with fail
    go_ret
    exact ⟨ret_bool H.out.symm, rfl⟩
  cases h2 : (s.toList == [109, 105, 110])
  case true =>
    have H : Hid (nameB s = false) := by
      show nameB s = false
      unfold nameB; rw [h2]; simp
    go_enter Tryz.func134, Tryz.ntmps134
    go_wp2_with fail
    go_ret
    exact ⟨ret_bool H.out.symm, rfl⟩
  cases h3 : (s.toList == [109, 97, 120])
  case true =>
    have H : Hid (nameB s = false) := by
      show nameB s = false
      unfold nameB; rw [h3]; simp
    go_enter Tryz.func134, Tryz.ntmps134
    go_wp2_with fail
    go_ret
    exact ⟨ret_bool H.out.symm, rfl⟩
  exact fname_test s w h0 h1 h2 h3
end Go.Proofs.YtkigmpholnfkbaaGreat
/- a store of a struct into a variable of the call's own, for regions whose order is open -/
namespace Go.Proofs.YtkigmpholnfkbaaGreat
open Go.RowKit
theorem step_store {P : Program} {ops : Array Oper} {o : Oper} {a : Act} {w : World} {K : Act → World → Prop} {Q : Exit → Act → World → Prop} {E : Prop} (hgd : o.guard = none) (t : TypeId) (x v : Operand)
    (ho : o.op = .store t x v) (b off : Nat) (vs : List Value) (i : TypeInfo) (hi : P.info? t = some i) (hsz : i.size = vs.length) (hx : a.eval x = .pointer (some ⟨b, off, none⟩)) (hv : (a.eval v).cells = vs.toArray)
    (hc : ∀ j, j < vs.length → (w.cell? ⟨b, off + j, none⟩).isSome = true) (hf : ∀ j, j < vs.length → w.frozen? ⟨b, off + j, none⟩ = false) (h1 : ∀ u ∈ vs, u.oneCell' = true)
    (h : K (a.put o.dst undef) (w.setCells b off vs)) : if Region.wanted o (yielded ops a.tmps) = true then Oper.wp P o a w K Q else E := by
  have hw : Region.wanted o (yielded ops a.tmps) = true := by simp [Region.wanted, hgd]
  rw [if_pos hw]
  have hr := run_storeCells_cells (P := P) b off vs 0 w (by simpa using hc) (by simpa using hf) h1
  unfold Oper.wp execOp
  simp only [ho, Instr.storeAt, Instr.sureAddr, hx, storeVar, sizeOf, typeInfo, hv]
  simp [hi, hsz, hr]
  exact h
end Go.Proofs.YtkigmpholnfkbaaGreat
namespace Go.Proofs.YtkigmpholnfkbaaGreat
open Go.RowKit
theorem trim_empty (A : Option Addr) (c : Nat) (w : World) :
    Calls Tryz.prog 150 #[.slice A 0 c] w fun e w' => e = .returned (.slice A 0 c) ∧ w = w' := by
  go_enter Tryz.func150, Tryz.ntmps150
  go_wp2_with fail
  go_loop [3] (fun n => n = .int .i64 0) (fun _ => 0)
  case atStart => rfl
  case round =>
    subst hrel
    go_wp2_with fail
    go_ret
    exact ⟨rfl, rfl⟩
theorem trim_one (b off c : Nat) (x : Int) (w : World) (hx : (x == 0) = false) (hc0 : w.cell? ⟨b, off, none⟩ = some (.int .u32 x)) (hc : 1 ≤ c) (hc' : c ≤ 9223372036854775807) :
    Calls Tryz.prog 150 #[.slice (some ⟨b, off, none⟩) 1 c] w fun e w' => e = .returned (.slice (some ⟨b, off, none⟩) 1 c) ∧ w = w' := by
  go_enter Tryz.func150, Tryz.ntmps150
  go_wp2_with fail
  go_loop [3] (fun n => n = .int .i64 1) (fun _ => 0)
  case atStart => rfl
  case round =>
    subst hrel
    go_wp2_with fail
    go_ret
    exact ⟨rfl, rfl⟩
theorem trim_zeros (b off c : Nat) (w : World) (hc0 : w.cell? ⟨b, off, none⟩ = some (.int .u32 0)) (hc : 1 ≤ c) (hc' : c ≤ 9223372036854775807) :
    Calls Tryz.prog 150 #[.slice (some ⟨b, off, none⟩) 1 c] w fun e w' => e = .returned (.slice (some ⟨b, off, none⟩) 0 c) ∧ w = w' := by
  go_enter Tryz.func150, Tryz.ntmps150
  go_wp2_with fail
  go_loop [3] (fun n => n = .int .i64 1 ∨ n = .int .i64 0) (fun n => (intOf n).toNat)
  case atStart => exact .inl rfl
  case round =>
    rcases hrel with rfl | rfl
    · go_wp2_with fail
      go_round
      case rel => exact .inr rfl
      case measure => simp [intOf]
    · go_wp2_with fail
      go_ret
      exact ⟨rfl, rfl⟩
theorem trim_two (b off c : Nat) (x : Int) (w : World) (hx : (x == 0) = false) (hc0 : w.cell? ⟨b, off, none⟩ = some (.int .u32 x)) (hc1 : w.cell? ⟨b, off + 1, none⟩ = some (.int .u32 0)) (hc : 2 ≤ c) (hc' : c ≤ 9223372036854775807) :
    Calls Tryz.prog 150 #[.slice (some ⟨b, off, none⟩) 2 c] w fun e w' => e = .returned (.slice (some ⟨b, off, none⟩) 1 c) ∧ w = w' := by
  go_enter Tryz.func150, Tryz.ntmps150
  go_wp2_with fail
  go_loop [3] (fun n => n = .int .i64 2 ∨ n = .int .i64 1) (fun n => (intOf n).toNat)
  case atStart => exact .inl rfl
  case round =>
    rcases hrel with rfl | rfl
    · go_wp2_with fail
      go_round
      case rel => exact .inr rfl
      case measure => simp [intOf]
    · go_wp2_with fail
      go_ret
      exact ⟨rfl, rfl⟩
theorem ncmp_empty (A B : Option Addr) (c d : Nat) (w : World) :
    Calls Tryz.prog 139 #[.slice A 0 c, .slice B 0 d] w fun e w' => e = .returned (.int .i64 0) ∧ w = w' := by
  have hcmp : cmpI 0 0 = 0 := by decide
  go_enter Tryz.func139, Tryz.ntmps139
  go_wp2_with fail
  refine (trim_empty A c w).mono ?_
  rintro e w1 ⟨rfl, rfl⟩
  go_wp2_with fail
  refine (trim_empty B d _).mono ?_
  rintro e w1 ⟨rfl, rfl⟩
  go_wp2_with fail
  refine (compare_any 0 0 _).mono ?_
  rintro e w1 ⟨rfl, rfl⟩
  rw [hcmp]
  go_wp2_with fail
  go_loop [6] (fun n => n = .int .i64 (-1)) (fun _ => 0)
  case atStart => rfl
  case round =>
    subst hrel
    go_wp2_with fail
    go_ret
    exact ⟨rfl, rfl⟩
theorem zero_empty (A : Option Addr) (c : Nat) (w : World) :
    Calls Tryz.prog 136 #[.slice A 0 c] w fun e w' => e = .returned (.bool true) ∧ w = w' := by
  go_enter Tryz.func136, Tryz.ntmps136
  go_wp2_with fail
  refine (ncmp_empty A none c 0 w).mono ?_
  rintro e w1 ⟨rfl, rfl⟩
  go_wp2_with fail
  go_ret
  exact ⟨rfl, rfl⟩
def RetOne (w : World) (e : Ending) (w' : World) : Prop := ∃ b off c, e = .returned (.slice (some ⟨b, off, none⟩) 1 c) ∧ w.heap.size ≤ b ∧ 1 ≤ c ∧ c ≤ 9223372036854775807 ∧ w'.cell? ⟨b, off, none⟩ = some (.int .u32 1) ∧ Ext w w'
theorem of_one (w : World) : Calls Tryz.prog 137 #[.int .u64 1] w (RetOne w) := by
  go_enter Tryz.func137, Tryz.ntmps137
  go_wp2_with fail
  refine (trim_two w.heap.size 0 2 1 _ (by decide) (by simp [go_sem]) (by simp [go_sem]) (by omega) (by omega)).mono ?_
  rintro e w1 ⟨rfl, rfl⟩
  go_wp2_with fail
  go_ret
  exact ⟨_, _, _, rfl, Nat.le_refl _, by omega, by omega, by simp [go_sem], (Ext.refl _).alloc _⟩
def RetEmpty (w : World) (e : Ending) (w' : World) : Prop := ∃ A c, e = .returned (.slice A 0 c) ∧ c ≤ 9223372036854775807 ∧ Ext w w'
theorem make_nat (n : Nat) (hn : n ≤ 1000) (w : World) : (Instr.makeSlice 117 (.int .i64 n) (.int .i64 n)).run Tryz.prog w = .ok (.slice (some ⟨w.heap.size, 0, none⟩) n n) (w.alloc (.cells (madeCells #[.int .u32 0] (n * 1)) 150)) := by
  have h := run_make (P := Tryz.prog) w 117 150 (i := ((Tryz.prog.info? 150).getD default)) (z := .int .u32 0) Tryz.underlying117 (by kernel_rfl) (by kernel_rfl) .i64 .i64 n n (by omega) (by omega) (by
    rw [show ((Tryz.prog.info? 150).getD default).bytes = 4 from by kernel_rfl]; omega) (by omega)
  rw [show ((Tryz.prog.info? 150).getD default).size = 1 from by kernel_rfl] at h
  simpa [Value.cells] using h
theorem norm_empty (A : Option Addr) (c : Nat) (w : World) :
    Calls Tryz.prog 152 #[.slice A 0 c] w (RetEmpty w) := by
  have hm : ∀ W : World, (Instr.makeSlice 117 (.int .i64 0) (.int .i64 0)).run Tryz.prog W = .ok (.slice (some ⟨W.heap.size, 0, none⟩) 0 0) (W.alloc (.cells #[] 150)) := fun W => by
    have h := make_nat 0 (by omega) W
    simpa [made_one] using h
  have hcp := fun (W : World) (dp sp : Option Addr) (dc sc : Nat) => run_copy_none (P := Tryz.prog) W 117 117 3 150 dp sp 0 dc 0 sc Tryz.underlying117 (by kernel_rfl) rfl
  go_enter Tryz.func152, Tryz.ntmps152
  go_wp2_with fail
  refine (trim_empty A c w).mono ?_
  rintro e w1 ⟨rfl, rfl⟩
  go_wp2_with fail
  go_ret
  exact ⟨_, _, rfl, by omega, (Ext.refl _).alloc _⟩
theorem nmul_zero (A : Option Addr) (c b off d : Nat) (w : World) (hd : 1 ≤ d) (hd' : d ≤ 9223372036854775807) (hc1 : w.cell? ⟨b, off, none⟩ = some (.int .u32 1)) :
    Calls Tryz.prog 141 #[.slice A 0 c, .slice (some ⟨b, off, none⟩) 1 d] w (RetEmpty w) := by
  have hm : ∀ W : World, (Instr.makeSlice 117 (.int .i64 1) (.int .i64 1)).run Tryz.prog W = .ok (.slice (some ⟨W.heap.size, 0, none⟩) 1 1) (W.alloc (.cells #[.int .u32 0] 150)) := fun W => by
    have h := make_nat 1 (by omega) W
    simpa [made_one] using h
  go_enter Tryz.func141, Tryz.ntmps141
  go_wp2_with fail
  refine (trim_empty A c w).mono ?_
  rintro e w1 ⟨rfl, rfl⟩
  go_wp2_with fail
  refine (trim_one b off d 1 _ (by decide) hc1 hd hd').mono ?_
  rintro e w1 ⟨rfl, rfl⟩
  go_wp2_with fail
  go_loop [23] (fun n => n = .int .i64 0) (fun _ => 0)
  case atStart => rfl
  case round =>
    subst hrel
    go_wp2_with fail
    refine (trim_zeros w.heap.size 0 1 _ (by simp [go_sem]) (by omega) (by omega)).mono ?_
    rintro e w1 ⟨rfl, rfl⟩
    go_wp2_with fail
    go_ret
    exact ⟨_, _, rfl, by omega, (Ext.refl _).alloc _⟩
/- the integer 0, its magnitude wherever it lies -/
def RetInt0 (w : World) (e : Ending) (w' : World) : Prop := ∃ A c, e = .returned (.agg #[.bool false, .slice A 0 c]) ∧ c ≤ 9223372036854775807 ∧ Ext w w'
theorem signed_empty (A : Option Addr) (c : Nat) (w : World) :
    Calls Tryz.prog 140 #[.bool false, .slice A 0 c] w (RetInt0 w) := by
  go_enter Tryz.func140, Tryz.ntmps140
  go_wp2_with fail
  refine (norm_empty A c _).mono ?_
  rintro e w1 ⟨A1, c1, rfl, hc1, hx⟩
  have g0 := ext_cells hx (k := w.heap.size) (j := 0) (by simp)
  have g1 := ext_cells hx (k := w.heap.size) (j := 1) (by simp)
  have g2 := ext_frozen hx (k := w.heap.size) (j := 0) (by simp)
  have g3 := ext_frozen hx (k := w.heap.size) (j := 1) (by simp)
  have hz : w.heap.size < w1.heap.size := by have := hx.size; simp at this; omega
  simp [go_sem] at g0 g1 g2 g3
  go_wp2_with fail
  refine bodyPost_ret (v := .agg #[.bool false, .slice A1 0 c1]) (by simp [results, Tryz.results140, go_sem, g0, g1]) rfl ⟨A1, c1, rfl, hc1, ?_⟩
  exact ((((Ext.refl w).alloc _).trans hx).setCell (Nat.le_refl _) _).setCell (Nat.le_refl _) _
theorem inorm_empty (A : Option Addr) (c : Nat) (w : World) :
    Calls Tryz.prog 138 #[.agg #[.bool false, .slice A 0 c]] w (RetInt0 w) := by
  go_enter Tryz.func138, Tryz.ntmps138
  go_wp2_with fail
  refine (signed_empty A c _).mono ?_
  rintro e w1 ⟨A1, c1, rfl, hc1, hx⟩
  have g0 := ext_cells hx (k := w.heap.size + 1) (j := 0) (by simp)
  have g1 := ext_cells hx (k := w.heap.size + 1) (j := 1) (by simp)
  have g2 := ext_frozen hx (k := w.heap.size + 1) (j := 0) (by simp)
  have g3 := ext_frozen hx (k := w.heap.size + 1) (j := 1) (by simp)
  simp [go_sem] at g0 g1 g2 g3
  go_wp2_with fail
  refine bodyPost_ret (v := .agg #[.bool false, .slice A1 0 c1]) (by simp [results, Tryz.results138, go_sem, g0, g1]) rfl ⟨A1, c1, rfl, hc1, ?_⟩
  exact (((((Ext.refl w).alloc _).alloc _).trans hx).setCell (Nat.le_succ _) _).setCell (Nat.le_succ _) _
theorem positive_any (A : Option Addr) (n c : Nat) (w : World) :
    Calls Tryz.prog 121 #[.slice A n c] w fun e w' => e = .returned (.agg #[.bool false, .slice A n c]) ∧ Ext w w' := by
  go_enter Tryz.func121, Tryz.ntmps121
  go_wp2_with fail
  refine bodyPost_ret (v := .agg #[.bool false, .slice A n c]) (by simp [results, Tryz.results121, go_sem]) rfl ⟨rfl, ?_⟩
  exact (Ext.refl w).alloc _

set_option maxRecDepth 100000 in
set_option maxHeartbeats 1600000 in
theorem imul_zero (A : Option Addr) (c b off d : Nat) (w : World) (hd : 1 ≤ d) (hd' : d ≤ 9223372036854775807) (hc1 : w.cell? ⟨b, off, none⟩ = some (.int .u32 1)) :
    Calls Tryz.prog 120 #[.agg #[.bool false, .slice A 0 c], .agg #[.bool false, .slice (some ⟨b, off, none⟩) 1 d]] w (RetInt0 w) := by
  have hbl : b < w.heap.size := cell_lt hc1
  go_enter Tryz.func120, Tryz.ntmps120
  go_wp2_with fail
  refine wp_at fun w0 hw0 => ?_
  have hS0 : (Ext w w0 ∧ w0.cell? ⟨w.heap.size, 0, none⟩ = some (.bool false) ∧ w0.cell? ⟨w.heap.size, 1, none⟩ = some (.slice A 0 c) ∧ w0.cell? ⟨w.heap.size + 1, 0, none⟩ = some (.bool false) ∧ w0.cell? ⟨w.heap.size + 1, 1, none⟩ = some (.slice (some ⟨b, off, none⟩) 1 d) ∧ w0.cell? ⟨w.heap.size + 1 + 1, 0, none⟩ = some (cellOf w0 ⟨w.heap.size + 1 + 1, 0, none⟩) ∧ w0.cell? ⟨w.heap.size + 1 + 1, 1, none⟩ = some (cellOf w0 ⟨w.heap.size + 1 + 1, 1, none⟩) ∧ w0.frozen? ⟨w.heap.size + 1 + 1, 0, none⟩ = false ∧ w0.frozen? ⟨w.heap.size + 1 + 1, 1, none⟩ = false ∧ w0.cell? ⟨b, off, none⟩ = some (.int .u32 1)) := by
    have hcb := ((((Ext.refl w).alloc (.cells #[.bool false, .slice A 0 c] 119)).alloc (.cells #[.bool false, .slice (some ⟨b, off, none⟩) 1 d] 119)).alloc (.cells #[.bool false, .slice none 0 0] 119)).cell hc1
    refine ⟨by rw [hw0]; exact (((Ext.refl w).alloc _).alloc _).alloc _, ?_⟩
    rw [hw0]; simp [go_sem, cellOf] at hcb ⊢
    exact hcb
  have HB := Lib.hid hbl; clear hbl
  clear hw0 hc1
  have keep : ∀ W W1 : World, (Ext w W ∧ W.cell? ⟨w.heap.size, 0, none⟩ = some (.bool false) ∧ W.cell? ⟨w.heap.size, 1, none⟩ = some (.slice A 0 c) ∧ W.cell? ⟨w.heap.size + 1, 0, none⟩ = some (.bool false) ∧ W.cell? ⟨w.heap.size + 1, 1, none⟩ = some (.slice (some ⟨b, off, none⟩) 1 d) ∧ W.cell? ⟨w.heap.size + 1 + 1, 0, none⟩ = some (cellOf W ⟨w.heap.size + 1 + 1, 0, none⟩) ∧ W.cell? ⟨w.heap.size + 1 + 1, 1, none⟩ = some (cellOf W ⟨w.heap.size + 1 + 1, 1, none⟩) ∧ W.frozen? ⟨w.heap.size + 1 + 1, 0, none⟩ = false ∧ W.frozen? ⟨w.heap.size + 1 + 1, 1, none⟩ = false ∧ W.cell? ⟨b, off, none⟩ = some (.int .u32 1)) → Ext W W1 → (Ext w W1 ∧ W1.cell? ⟨w.heap.size, 0, none⟩ = some (.bool false) ∧ W1.cell? ⟨w.heap.size, 1, none⟩ = some (.slice A 0 c) ∧ W1.cell? ⟨w.heap.size + 1, 0, none⟩ = some (.bool false) ∧ W1.cell? ⟨w.heap.size + 1, 1, none⟩ = some (.slice (some ⟨b, off, none⟩) 1 d) ∧ W1.cell? ⟨w.heap.size + 1 + 1, 0, none⟩ = some (cellOf W1 ⟨w.heap.size + 1 + 1, 0, none⟩) ∧ W1.cell? ⟨w.heap.size + 1 + 1, 1, none⟩ = some (cellOf W1 ⟨w.heap.size + 1 + 1, 1, none⟩) ∧ W1.frozen? ⟨w.heap.size + 1 + 1, 0, none⟩ = false ∧ W1.frozen? ⟨w.heap.size + 1 + 1, 1, none⟩ = false ∧ W1.cell? ⟨b, off, none⟩ = some (.int .u32 1)) := fun W W1 ⟨h0, h1, h2, h3, h4, h5, h6, h7, h8, h9⟩ hx => ⟨h0.trans hx, hx.cell h1, hx.cell h2, hx.cell h3, hx.cell h4, there_ext hx h5, there_ext hx h6, hx.frz h5 h7, hx.frz h6 h8, hx.cell h9⟩
  have keepa : ∀ (W : World) (i : Nat) (u : Value), (Ext w W ∧ W.cell? ⟨w.heap.size, 0, none⟩ = some (.bool false) ∧ W.cell? ⟨w.heap.size, 1, none⟩ = some (.slice A 0 c) ∧ W.cell? ⟨w.heap.size + 1, 0, none⟩ = some (.bool false) ∧ W.cell? ⟨w.heap.size + 1, 1, none⟩ = some (.slice (some ⟨b, off, none⟩) 1 d) ∧ W.cell? ⟨w.heap.size + 1 + 1, 0, none⟩ = some (cellOf W ⟨w.heap.size + 1 + 1, 0, none⟩) ∧ W.cell? ⟨w.heap.size + 1 + 1, 1, none⟩ = some (cellOf W ⟨w.heap.size + 1 + 1, 1, none⟩) ∧ W.frozen? ⟨w.heap.size + 1 + 1, 0, none⟩ = false ∧ W.frozen? ⟨w.heap.size + 1 + 1, 1, none⟩ = false ∧ W.cell? ⟨b, off, none⟩ = some (.int .u32 1)) → (Ext w (W.setCell ⟨w.heap.size + 1 + 1, i, none⟩ u) ∧ (W.setCell ⟨w.heap.size + 1 + 1, i, none⟩ u).cell? ⟨w.heap.size, 0, none⟩ = some (.bool false) ∧ (W.setCell ⟨w.heap.size + 1 + 1, i, none⟩ u).cell? ⟨w.heap.size, 1, none⟩ = some (.slice A 0 c) ∧ (W.setCell ⟨w.heap.size + 1 + 1, i, none⟩ u).cell? ⟨w.heap.size + 1, 0, none⟩ = some (.bool false) ∧ (W.setCell ⟨w.heap.size + 1 + 1, i, none⟩ u).cell? ⟨w.heap.size + 1, 1, none⟩ = some (.slice (some ⟨b, off, none⟩) 1 d) ∧ (W.setCell ⟨w.heap.size + 1 + 1, i, none⟩ u).cell? ⟨w.heap.size + 1 + 1, 0, none⟩ = some (cellOf (W.setCell ⟨w.heap.size + 1 + 1, i, none⟩ u) ⟨w.heap.size + 1 + 1, 0, none⟩) ∧ (W.setCell ⟨w.heap.size + 1 + 1, i, none⟩ u).cell? ⟨w.heap.size + 1 + 1, 1, none⟩ = some (cellOf (W.setCell ⟨w.heap.size + 1 + 1, i, none⟩ u) ⟨w.heap.size + 1 + 1, 1, none⟩) ∧ (W.setCell ⟨w.heap.size + 1 + 1, i, none⟩ u).frozen? ⟨w.heap.size + 1 + 1, 0, none⟩ = false ∧ (W.setCell ⟨w.heap.size + 1 + 1, i, none⟩ u).frozen? ⟨w.heap.size + 1 + 1, 1, none⟩ = false ∧ (W.setCell ⟨w.heap.size + 1 + 1, i, none⟩ u).cell? ⟨b, off, none⟩ = some (.int .u32 1)) := fun W i u ⟨h0, h1, h2, h3, h4, h5, h6, h7, h8, h9⟩ => by
    have ne : ∀ p j, p ≠ w.heap.size + 2 → (W.setCell ⟨w.heap.size + 1 + 1, i, none⟩ u).cell? ⟨p, j, none⟩ = W.cell? ⟨p, j, none⟩ := fun p j hk => World.cell?_setCell_other _ _ _ _ (fun e => by injection e with e; omega)
    exact ⟨h0.setCell (by simp <;> omega) _, (ne _ _ (by omega)).trans h1, (ne _ _ (by omega)).trans h2, (ne _ _ (by omega)).trans h3, (ne _ _ (by omega)).trans h4, there_set h5 _ _, there_set h6 _ _, (frozen_set _ _ _ _).trans h7, (frozen_set _ _ _ _).trans h8, (ne _ _ (by have := HB.out; omega)).trans h9⟩
  have KEEP := Lib.hid keep; clear keep
  have KEEPA := Lib.hid keepa; clear keepa
  have getb : ∀ W : World, (Ext w W ∧ W.cell? ⟨w.heap.size, 0, none⟩ = some (.bool false) ∧ W.cell? ⟨w.heap.size, 1, none⟩ = some (.slice A 0 c) ∧ W.cell? ⟨w.heap.size + 1, 0, none⟩ = some (.bool false) ∧ W.cell? ⟨w.heap.size + 1, 1, none⟩ = some (.slice (some ⟨b, off, none⟩) 1 d) ∧ W.cell? ⟨w.heap.size + 1 + 1, 0, none⟩ = some (cellOf W ⟨w.heap.size + 1 + 1, 0, none⟩) ∧ W.cell? ⟨w.heap.size + 1 + 1, 1, none⟩ = some (cellOf W ⟨w.heap.size + 1 + 1, 1, none⟩) ∧ W.frozen? ⟨w.heap.size + 1 + 1, 0, none⟩ = false ∧ W.frozen? ⟨w.heap.size + 1 + 1, 1, none⟩ = false ∧ W.cell? ⟨b, off, none⟩ = some (.int .u32 1)) → W.cell? ⟨b, off, none⟩ = some (.int .u32 1) := fun W ⟨_, _, _, _, _, _, _, _, _, h⟩ => h
  have GETB := Lib.hid getb; clear getb
  have HS := Lib.hid hS0; clear hS0
  go_region_held3 (fun W => (Ext w W ∧ W.cell? ⟨w.heap.size, 0, none⟩ = some (.bool false) ∧ W.cell? ⟨w.heap.size, 1, none⟩ = some (.slice A 0 c) ∧ W.cell? ⟨w.heap.size + 1, 0, none⟩ = some (.bool false) ∧ W.cell? ⟨w.heap.size + 1, 1, none⟩ = some (.slice (some ⟨b, off, none⟩) 1 d) ∧ W.cell? ⟨w.heap.size + 1 + 1, 0, none⟩ = some (cellOf W ⟨w.heap.size + 1 + 1, 0, none⟩) ∧ W.cell? ⟨w.heap.size + 1 + 1, 1, none⟩ = some (cellOf W ⟨w.heap.size + 1 + 1, 1, none⟩) ∧ W.frozen? ⟨w.heap.size + 1 + 1, 0, none⟩ = false ∧ W.frozen? ⟨w.heap.size + 1 + 1, 1, none⟩ = false ∧ W.cell? ⟨b, off, none⟩ = some (.int .u32 1)))
    (first | exact KEEP.out w0 _ HS.out (Ext.drew (Ext.refl _)) | exact KEEP.out _ _ ‹_› ‹_› | exact KEEPA.out _ _ _ (KEEPA.out _ _ _ ‹_›) | fail)
    (first
      | (go_at_call 141; refine (nmul_zero A c b off d _ hd hd' (GETB.out _ ‹_›)).mono ?_; rintro e w1 ⟨A1, k1, rfl, hk1, hx1⟩)
      | (go_at_call 140; refine (signed_empty _ _ _).mono ?_; rintro e w2 ⟨A2, k2, rfl, hk2, hx2⟩)
      | fail)
  have hS2 := KEEP.out _ _ (KEEP.out _ _ (KEEP.out w0 _ HS.out (Ext.drew (Ext.refl _))) hx1) hx2
  obtain ⟨e0, _, _, _, _, e5, e6, _⟩ := hS2
  go_wp2_with fail
  refine bodyPost_ret (v := .agg #[.bool false, .slice A2 0 k2]) (by simp [results, Tryz.results120, go_sem, e5, e6]) rfl ⟨A2, k2, rfl, hk2, ?_⟩
  exact (e0.setCell (by simp <;> omega) _).setCell (by simp <;> omega) _
set_option maxRecDepth 100000 in
set_option maxHeartbeats 1600000 in
theorem icmp_zero (A B : Option Addr) (c d : Nat) (w : World) :
    Calls Tryz.prog 119 #[.agg #[.bool false, .slice A 0 c], .agg #[.bool false, .slice B 0 d]] w fun e w' => e = .returned (.int .i64 0) ∧ Ext w w' := by
  go_enter Tryz.func119, Tryz.ntmps119
  go_wp2_with fail
  refine wp_at fun w0 hw0 => ?_
  obtain ⟨c0, c1, c2, c3, f0, f1, f2, f3⟩ : w0.cell? ⟨w.heap.size, 0, none⟩ = some (.bool false) ∧ w0.cell? ⟨w.heap.size, 1, none⟩ = some (.slice A 0 c) ∧ w0.cell? ⟨w.heap.size + 1, 0, none⟩ = some (.bool false) ∧ w0.cell? ⟨w.heap.size + 1, 1, none⟩ = some (.slice B 0 d) ∧
      w0.frozen? ⟨w.heap.size, 0, none⟩ = false ∧ w0.frozen? ⟨w.heap.size, 1, none⟩ = false ∧ w0.frozen? ⟨w.heap.size + 1, 0, none⟩ = false ∧ w0.frozen? ⟨w.heap.size + 1, 1, none⟩ = false := by
    rw [hw0]; simp [go_sem]
  have he0 : Ext w w0 := by rw [hw0]; exact ((Ext.refl w).alloc _).alloc _
  have hz0 : w.heap.size + 2 ≤ w0.heap.size := by rw [hw0]; simp
  clear hw0
  go_region_with (first
    | (go_at_call 138; have _t := hx1; refine (inorm_empty _ _ _).mono ?_; rintro e w2 ⟨A2, k2, rfl, hk2, hx2⟩
       have z2 : w.heap.size + 2 ≤ w2.heap.size := Nat.le_trans z1 hx2.size
       have r2 : ∀ k j, k < w.heap.size + 2 → w2.cell? ⟨k, j, none⟩ = w1.cell? ⟨k, j, none⟩ := fun k j hk => ext_cells hx2 (by omega)
       have s2 : ∀ k j, k < w.heap.size + 2 → w2.frozen? ⟨k, j, none⟩ = w1.frozen? ⟨k, j, none⟩ := fun k j hk => ext_frozen hx2 (by omega))
    | (go_at_call 138; refine (inorm_empty _ _ _).mono ?_; rintro e w1 ⟨A1, k1, rfl, hk1, hx1⟩
       have z1 : w.heap.size + 2 ≤ w1.heap.size := Nat.le_trans hz0 hx1.size
       have r1 : ∀ k j, k < w.heap.size + 2 → w1.cell? ⟨k, j, none⟩ = w0.cell? ⟨k, j, none⟩ := fun k j hk => ext_cells hx1 (Nat.lt_of_lt_of_le hk hz0)
       have s1 : ∀ k j, k < w.heap.size + 2 → w1.frozen? ⟨k, j, none⟩ = w0.frozen? ⟨k, j, none⟩ := fun k j hk => ext_frozen hx1 (Nat.lt_of_lt_of_le hk hz0))
    | fail)
  all_goals
    go_wp2_with fail
    refine (ncmp_empty _ _ _ _ _).mono ?_
    rintro e w3 ⟨rfl, rfl⟩
    go_wp2_with fail
    go_ret
    exact ⟨rfl, ((((((he0.drew).trans hx1).trans hx2).setCell (by simp) _).setCell (by simp) _).setCell (by simp) _).setCell (by simp) _⟩
/- ratio.value of the ratio 0 -/
def RetRat0 (w : World) (e : Ending) (w' : World) : Prop := ∃ b off c, e = .returned (.agg #[.bool false, .slice none 0 0, .slice (some ⟨b, off, none⟩) 1 c]) ∧ w.heap.size ≤ b ∧ 1 ≤ c ∧ c ≤ 9223372036854775807 ∧ w'.cell? ⟨b, off, none⟩ = some (.int .u32 1) ∧ Ext w w'
theorem value_zero (w : World) : Calls Tryz.prog 118 #[.agg #[.bool false, .slice none 0 0, .slice none 0 0]] w (RetRat0 w) := by
  go_enter Tryz.func118, Tryz.ntmps118
  go_wp2_with fail
  refine (zero_empty none 0 _).mono ?_
  rintro e w1 ⟨rfl, rfl⟩
  go_wp2_with fail
  refine (of_one _).mono ?_
  rintro e w2 ⟨b, off, c, rfl, hb, hc, hc', hcell, hx⟩
  simp at hb
  have hbl : b < w2.heap.size := cell_lt hcell
  have g0 := ext_cells hx (k := w.heap.size + 1) (j := 0) (by simp)
  have g1 := ext_cells hx (k := w.heap.size + 1) (j := 1) (by simp)
  have g2 := ext_cells hx (k := w.heap.size + 1) (j := 2) (by simp)
  have f0 := ext_frozen hx (k := w.heap.size + 1) (j := 0) (by simp)
  have f1 := ext_frozen hx (k := w.heap.size + 1) (j := 1) (by simp)
  have f2 := ext_frozen hx (k := w.heap.size + 1) (j := 2) (by simp)
  simp [go_sem] at g0 g1 g2 f0 f1 f2
  go_wp2_with fail
  refine bodyPost_ret (v := .agg #[.bool false, .slice none 0 0, .slice (some ⟨b, off, none⟩) 1 c]) (by simp [results, Tryz.results118, go_sem, g0, g1, g2]) rfl ⟨b, off, c, rfl, by omega, hc, hc', ?_, ?_⟩
  · rw [World.cell?_setCell_other _ _ _ _ (fun e => by injection e with e; omega), World.cell?_setCell_other _ _ _ _ (fun e => by injection e with e; omega), World.cell?_setCell_other _ _ _ _ (fun e => by injection e with e; omega)]
    exact hcell
  · exact ((((((Ext.refl w).alloc _).alloc _).trans hx).setCell (by simp) _).setCell (by simp) _).setCell (by simp) _
set_option maxRecDepth 100000 in
set_option maxHeartbeats 1600000 in
theorem rcmp_zero (w : World) : Calls Tryz.prog 104 #[.agg #[.bool false, .slice none 0 0, .slice none 0 0], .agg #[.bool false, .slice none 0 0, .slice none 0 0]] w fun e w' => e = .returned (.int .i64 0) ∧ Ext w w' := by
  go_enter Tryz.func104, Tryz.ntmps104
  go_wp2_with fail
  refine wp_at fun w0 hw0 => ?_
  obtain ⟨c0, c1, c2, c3, c4, c5, f0, f1, f2, f3, f4, f5⟩ : w0.cell? ⟨w.heap.size, 0, none⟩ = some (.bool false) ∧ w0.cell? ⟨w.heap.size, 1, none⟩ = some (.slice none 0 0) ∧ w0.cell? ⟨w.heap.size, 2, none⟩ = some (.slice none 0 0) ∧ w0.cell? ⟨w.heap.size + 1, 0, none⟩ = some (.bool false) ∧ w0.cell? ⟨w.heap.size + 1, 1, none⟩ = some (.slice none 0 0) ∧ w0.cell? ⟨w.heap.size + 1, 2, none⟩ = some (.slice none 0 0) ∧ w0.frozen? ⟨w.heap.size, 0, none⟩ = false ∧ w0.frozen? ⟨w.heap.size, 1, none⟩ = false ∧ w0.frozen? ⟨w.heap.size, 2, none⟩ = false ∧ w0.frozen? ⟨w.heap.size + 1, 0, none⟩ = false ∧ w0.frozen? ⟨w.heap.size + 1, 1, none⟩ = false ∧ w0.frozen? ⟨w.heap.size + 1, 2, none⟩ = false := by
    rw [hw0]; simp [go_sem]
  have he0 : Ext w w0 := by rw [hw0]; exact ((Ext.refl w).alloc _).alloc _
  have hz0 : w.heap.size + 2 ≤ w0.heap.size := by rw [hw0]; simp
  clear hw0
  go_region_with (first
    | (go_at_call 118; have _t := hx1; refine (value_zero _).mono ?_; rintro e w2 ⟨b2, o2, k2, rfl, hb2, hk2, hj2, hd2, hx2⟩
       have z2 : w.heap.size + 2 ≤ w2.heap.size := Nat.le_trans z1 hx2.size
       have r2 : ∀ k j, k < w.heap.size + 2 → w2.cell? ⟨k, j, none⟩ = w1.cell? ⟨k, j, none⟩ := fun k j hk => ext_cells hx2 (by omega)
       have s2 : ∀ k j, k < w.heap.size + 2 → w2.frozen? ⟨k, j, none⟩ = w1.frozen? ⟨k, j, none⟩ := fun k j hk => ext_frozen hx2 (by omega))
    | (go_at_call 118; refine (value_zero _).mono ?_; rintro e w1 ⟨b1, o1, k1, rfl, hb1, hk1, hj1, hd1, hx1⟩
       have z1 : w.heap.size + 2 ≤ w1.heap.size := Nat.le_trans hz0 hx1.size
       have r1 : ∀ k j, k < w.heap.size + 2 → w1.cell? ⟨k, j, none⟩ = w0.cell? ⟨k, j, none⟩ := fun k j hk => ext_cells hx1 (Nat.lt_of_lt_of_le hk hz0)
       have s1 : ∀ k j, k < w.heap.size + 2 → w1.frozen? ⟨k, j, none⟩ = w0.frozen? ⟨k, j, none⟩ := fun k j hk => ext_frozen hx1 (Nat.lt_of_lt_of_le hk hz0))
    | fail)
  all_goals
    have hbb1 : w.heap.size + 2 ≤ b1 := Nat.le_trans hz0 hb1
    have hbb2 : w.heap.size + 2 ≤ b2 := Nat.le_trans z1 hb2
    go_wp2_with fail
    refine wp_at fun w3 hw3 => ?_
    have hne : ∀ k j, w.heap.size + 2 ≤ k → w3.cell? ⟨k, j, none⟩ = w2.cell? ⟨k, j, none⟩ := fun k j hk => by
      rw [hw3]
      repeat rw [World.cell?_setCell_other _ _ _ _ (fun e => by injection e with e; omega)]
    have hS0 : (Ext w w3 ∧ w3.cell? ⟨w.heap.size, 0, none⟩ = some (.bool false) ∧ w3.cell? ⟨w.heap.size, 1, none⟩ = some (.slice none 0 0) ∧ w3.cell? ⟨w.heap.size, 2, none⟩ = some (.slice (some ⟨b1, o1, none⟩) 1 k1) ∧ w3.cell? ⟨w.heap.size + 1, 0, none⟩ = some (.bool false) ∧ w3.cell? ⟨w.heap.size + 1, 1, none⟩ = some (.slice none 0 0) ∧ w3.cell? ⟨w.heap.size + 1, 2, none⟩ = some (.slice (some ⟨b2, o2, none⟩) 1 k2) ∧ w3.cell? ⟨b1, o1, none⟩ = some (.int .u32 1) ∧ w3.cell? ⟨b2, o2, none⟩ = some (.int .u32 1)) := by
      refine ⟨by rw [hw3]; exact ((((((((he0.drew).trans hx1).trans hx2).setCell (by simp) _).setCell (by simp) _).setCell (by simp) _).setCell (by simp) _).setCell (by simp) _).setCell (by simp) _, ?_, ?_, ?_, ?_, ?_, ?_, (hne _ _ hbb1).trans (hx2.cell hd1), (hne _ _ hbb2).trans hd2⟩
      all_goals (rw [hw3]; simp [go_sem, r1, r2, c0, c1, c2, c3, c4, c5])
    clear hne hw3 c0 c1 c2 c3 c4 c5 f0 f1 f2 f3 f4 f5 r1 r2 s1 s2
    have keep : ∀ W W1 : World, (Ext w W ∧ W.cell? ⟨w.heap.size, 0, none⟩ = some (.bool false) ∧ W.cell? ⟨w.heap.size, 1, none⟩ = some (.slice none 0 0) ∧ W.cell? ⟨w.heap.size, 2, none⟩ = some (.slice (some ⟨b1, o1, none⟩) 1 k1) ∧ W.cell? ⟨w.heap.size + 1, 0, none⟩ = some (.bool false) ∧ W.cell? ⟨w.heap.size + 1, 1, none⟩ = some (.slice none 0 0) ∧ W.cell? ⟨w.heap.size + 1, 2, none⟩ = some (.slice (some ⟨b2, o2, none⟩) 1 k2) ∧ W.cell? ⟨b1, o1, none⟩ = some (.int .u32 1) ∧ W.cell? ⟨b2, o2, none⟩ = some (.int .u32 1)) → Ext W W1 → (Ext w W1 ∧ W1.cell? ⟨w.heap.size, 0, none⟩ = some (.bool false) ∧ W1.cell? ⟨w.heap.size, 1, none⟩ = some (.slice none 0 0) ∧ W1.cell? ⟨w.heap.size, 2, none⟩ = some (.slice (some ⟨b1, o1, none⟩) 1 k1) ∧ W1.cell? ⟨w.heap.size + 1, 0, none⟩ = some (.bool false) ∧ W1.cell? ⟨w.heap.size + 1, 1, none⟩ = some (.slice none 0 0) ∧ W1.cell? ⟨w.heap.size + 1, 2, none⟩ = some (.slice (some ⟨b2, o2, none⟩) 1 k2) ∧ W1.cell? ⟨b1, o1, none⟩ = some (.int .u32 1) ∧ W1.cell? ⟨b2, o2, none⟩ = some (.int .u32 1)) := fun W W1 ⟨h0, h1, h2, h3, h4, h5, h6, h7, h8⟩ hx => ⟨h0.trans hx, hx.cell h1, hx.cell h2, hx.cell h3, hx.cell h4, hx.cell h5, hx.cell h6, hx.cell h7, hx.cell h8⟩
    have get1 : ∀ W : World, (Ext w W ∧ W.cell? ⟨w.heap.size, 0, none⟩ = some (.bool false) ∧ W.cell? ⟨w.heap.size, 1, none⟩ = some (.slice none 0 0) ∧ W.cell? ⟨w.heap.size, 2, none⟩ = some (.slice (some ⟨b1, o1, none⟩) 1 k1) ∧ W.cell? ⟨w.heap.size + 1, 0, none⟩ = some (.bool false) ∧ W.cell? ⟨w.heap.size + 1, 1, none⟩ = some (.slice none 0 0) ∧ W.cell? ⟨w.heap.size + 1, 2, none⟩ = some (.slice (some ⟨b2, o2, none⟩) 1 k2) ∧ W.cell? ⟨b1, o1, none⟩ = some (.int .u32 1) ∧ W.cell? ⟨b2, o2, none⟩ = some (.int .u32 1)) → W.cell? ⟨b1, o1, none⟩ = some (.int .u32 1) := fun W ⟨h0, h1, h2, h3, h4, h5, h6, h7, h8⟩ => h7
    have get2 : ∀ W : World, (Ext w W ∧ W.cell? ⟨w.heap.size, 0, none⟩ = some (.bool false) ∧ W.cell? ⟨w.heap.size, 1, none⟩ = some (.slice none 0 0) ∧ W.cell? ⟨w.heap.size, 2, none⟩ = some (.slice (some ⟨b1, o1, none⟩) 1 k1) ∧ W.cell? ⟨w.heap.size + 1, 0, none⟩ = some (.bool false) ∧ W.cell? ⟨w.heap.size + 1, 1, none⟩ = some (.slice none 0 0) ∧ W.cell? ⟨w.heap.size + 1, 2, none⟩ = some (.slice (some ⟨b2, o2, none⟩) 1 k2) ∧ W.cell? ⟨b1, o1, none⟩ = some (.int .u32 1) ∧ W.cell? ⟨b2, o2, none⟩ = some (.int .u32 1)) → W.cell? ⟨b2, o2, none⟩ = some (.int .u32 1) := fun W ⟨h0, h1, h2, h3, h4, h5, h6, h7, h8⟩ => h8
    have KEEP := Lib.hid keep; clear keep
    have GET1 := Lib.hid get1; clear get1
    have GET2 := Lib.hid get2; clear get2
    have HS := Lib.hid hS0; clear hS0
    go_region_held3 (fun W => (Ext w W ∧ W.cell? ⟨w.heap.size, 0, none⟩ = some (.bool false) ∧ W.cell? ⟨w.heap.size, 1, none⟩ = some (.slice none 0 0) ∧ W.cell? ⟨w.heap.size, 2, none⟩ = some (.slice (some ⟨b1, o1, none⟩) 1 k1) ∧ W.cell? ⟨w.heap.size + 1, 0, none⟩ = some (.bool false) ∧ W.cell? ⟨w.heap.size + 1, 1, none⟩ = some (.slice none 0 0) ∧ W.cell? ⟨w.heap.size + 1, 2, none⟩ = some (.slice (some ⟨b2, o2, none⟩) 1 k2) ∧ W.cell? ⟨b1, o1, none⟩ = some (.int .u32 1) ∧ W.cell? ⟨b2, o2, none⟩ = some (.int .u32 1)))
      (first | exact KEEP.out w3 _ HS.out (Ext.drew (Ext.refl _)) | exact KEEP.out _ _ ‹_› ‹_› | assumption | fail)
      (first
        | (go_at_call 121; refine (positive_any _ _ _ _).mono ?_; rintro e wa ⟨rfl, hxa⟩)
        | (go_at_call 120; refine (imul_zero _ _ _ _ _ _ (by assumption) (by assumption) (by first | exact GET2.out _ ‹_› | exact GET1.out _ ‹_›)).mono ?_; rintro e wb ⟨Ab, kb, rfl, hkb, hxb⟩)
        | (go_at_call 119; refine (icmp_zero _ _ _ _ _).mono ?_; rintro e wd ⟨rfl, hxd⟩)
        | fail)
    go_wp2_with fail
    go_ret
    exact ⟨rfl, And.left ‹Ext w _ ∧ _›⟩
end Go.Proofs.YtkigmpholnfkbaaGreat
