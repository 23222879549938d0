/- grade.Graded: what it computes -/
import Derived.Laws.IdiomCopy
import Derived.Deep.RegionHeld3
import Derived.Laws.MakeOwn
import Derived.Deep.RegionWith
import Derived.Deep.AppendLies
import Derived.Test.YtfegbaokcbjllaaGreatKChk
import Derived.Test.YtfegbaokcbjllaaGreatKMov
import Derived.Test.YtfegbaokcbjllaaGreatKOwnE
/- names -/
namespace Go.Proofs.YtfegbaokcbjllaaGreat
open Go.RowKit
theorem isDigit_any (c : Int) (w : World) :
  Calls Tryz.prog 153 #[.int .u8 c] w fun e w' => e = .returned (.bool (decide (48 ≤ c) && decide (c ≤ 57))) ∧ w = w' := by
 go_enter Tryz.func153, Tryz.ntmps153
 go_wp2
 all_goals
  go_ret
  exact ⟨ret_bool (by simp; try omega), rfl⟩
def bt (s : ByteArray) (k : Nat) : Int := if h : k < s.size then (s[k].toNat : Int) else 0
theorem bt_eq {s : ByteArray} {k : Nat} (h : k < s.size) : (s[k].toNat : Int) = bt s k := by simp [bt, h]
def smallB (c : Int) : Bool := decide (97 ≤ c) && decide (c ≤ 122)
def digitB (c : Int) : Bool := decide (48 ≤ c) && decide (c ≤ 57)
def chF (s : ByteArray) (i : Nat) : Bool := smallB (bt s i) || (!(i == 0) && (bt s i == 95 || digitB (bt s i)))
def nameB (s : ByteArray) : Bool := !(s.size == 0) && !decide (24 < s.size) && !(s.toList == [109, 105, 110]) && !(s.toList == [109, 97, 120]) && allB (chF s) s.size
theorem name_false {s : ByteArray} {k : Nat} (hk : k < s.size) (h : chF s k = false) : false = nameB s := by
 unfold nameB; rw [allB_false hk h]; simp
set_option maxHeartbeats 800000 in
theorem fname_test (s : ByteArray) (w : World) (h0 : ((s.size : Int) == 0) = false) (h1 : decide (24 < (s.size : Int)) = false) (h2 : (s.toList == [109, 105, 110]) = false) (h3 : (s.toList == [109, 97, 120]) = false) :
  Calls Tryz.prog 140 #[.string s] w fun e w' => e = .returned (.bool (nameB s)) ∧ w = w' := by
 have h24 : s.size ≤ 24 := by simp at h1; omega
 have H0 : Hid ((!(s.size == 0) && !decide (24 < s.size) && !(s.toList == [109, 105, 110]) && !(s.toList == [109, 97, 120])) = true) := by
  have h0' : (s.size == 0) = false := by simp at h0 ⊢; intro h; apply h0; simp [h]
  show _ = true
  rw [h2, h3, h0']; simp; omega
 go_enter Tryz.func140, Tryz.ntmps140
 go_wp2_with fail
 go_loop [24] (fun i => ∃ k : Nat, k ≤ s.size ∧ i = .int .i64 k ∧ allB (chF s) k = true) (fun i => s.size - (intOf i).toNat)
 case atStart => exact ⟨0, Nat.zero_le _, rfl, rfl⟩
 case round =>
  obtain ⟨k, hk, rfl, ht⟩ := hrel
  have HT := Lib.hid ht; clear ht
  by_cases hlt : k < s.size
  ·by_cases ha : 97 ≤ (s[k].toNat : Int)
   ·by_cases hz : (s[k].toNat : Int) ≤ 122
    ·go_wp2_with fail
     go_round
     case rel => exact ⟨k + 1, by omega, by go_num, allB_succ HT.out (by unfold chF smallB digitB; rw [← bt_eq hlt]; simp; omega)⟩
     case measure => simp [intOf]; omega
    ·have hzb : decide ((s[k].toNat : Int) ≤ 122) = false := by simp; omega
     have h95 : ((s[k].toNat : Int) != 95) = true := by simp; omega
     by_cases hk0 : k = 0
     ·subst hk0
      go_wp2_with fail
      go_ret
      exact ⟨ret_bool (name_false hlt (by unfold chF smallB digitB; rw [← bt_eq hlt]; simp; omega)), rfl⟩
     ·have hkb : ((k : Int) == 0) = false := by simp; omega
      go_wp2_with fail
      refine (isDigit_any _ _).mono ?_
      rintro e w1 ⟨rfl, rfl⟩
      have hd : (decide (48 ≤ (s[k].toNat : Int)) && decide ((s[k].toNat : Int) ≤ 57)) = false := by simp; omega
      go_wp2_with fail
      go_ret
      exact ⟨ret_bool (name_false hlt (by unfold chF smallB digitB; rw [← bt_eq hlt]; simp; omega)), rfl⟩
   ·have hab : decide (97 ≤ (s[k].toNat : Int)) = false := by simp; omega
    by_cases hk0 : k = 0
    ·subst hk0
     go_wp2_with fail
     go_ret
     exact ⟨ret_bool (name_false hlt (by unfold chF smallB digitB; rw [← bt_eq hlt]; simp; omega)), rfl⟩
    ·have hkb : ((k : Int) == 0) = false := by simp; omega
     by_cases h95 : (s[k].toNat : Int) = 95
     ·have h95b : ((s[k].toNat : Int) != 95) = false := by rw [h95]; decide
      have H95 := Lib.hid h95; clear h95
      go_wp2_with fail
      go_round
      case rel => exact ⟨k + 1, by omega, by go_num, allB_succ HT.out (by unfold chF smallB digitB; rw [← bt_eq hlt]; rw [H95.out]; simp; omega)⟩
      case measure => simp [intOf]; omega
     ·have h95b : ((s[k].toNat : Int) != 95) = true := by simp; omega
      go_wp2_with fail
      refine (isDigit_any _ _).mono ?_
      rintro e w1 ⟨rfl, rfl⟩
      cases hd : (decide (48 ≤ (s[k].toNat : Int)) && decide ((s[k].toNat : Int) ≤ 57))
      ·have HD := Lib.hid hd; clear hd
       go_wp2_with fail
       go_ret
       exact ⟨ret_bool (name_false hlt (by unfold chF smallB digitB; rw [← bt_eq hlt]; rw [HD.out]; simp; omega)), rfl⟩
      ·have HD := Lib.hid hd; clear hd
       go_wp2_with fail
       go_round
       case rel => exact ⟨k + 1, by omega, by go_num, allB_succ HT.out (by unfold chF smallB digitB; rw [← bt_eq hlt]; rw [HD.out]; simp; omega)⟩
       case measure => simp [intOf]; omega
  ·go_wp2_with fail
   go_ret
   exact ⟨ret_bool (by
    obtain rfl : k = s.size := by omega
    unfold nameB; rw [HT.out, H0.out]; rfl), rfl⟩
theorem fname_any (s : ByteArray) (w : World) : Calls Tryz.prog 140 #[.string s] w fun e w' => e = .returned (.bool (nameB s)) ∧ w = w' := by
 cases h0 : ((s.size : Int) == 0)
 case true =>
  have H : Hid (nameB s = false) := by
   have : (s.size == 0) = true := by simp at h0 ⊢; exact h0
   show nameB s = false
   unfold nameB; rw [this]; rfl
  go_enter Tryz.func140, Tryz.ntmps140
  go_wp2_with fail
  go_ret
  exact ⟨ret_bool H.out.symm, rfl⟩
 cases h1 : decide (24 < (s.size : Int))
 case true =>
  have H : Hid (nameB s = false) := by
   have : decide (24 < s.size) = true := by simp at h1 ⊢; omega
   show nameB s = false
   unfold nameB; rw [this]; simp
  go_enter Tryz.func140, Tryz.ntmps140
  go_wp2_with fail
  go_ret
  exact ⟨ret_bool H.out.symm, rfl⟩
 cases h2 : (s.toList == [109, 105, 110])
 case true =>
  have H : Hid (nameB s = false) := by
   show nameB s = false
   unfold nameB; rw [h2]; simp
  go_enter Tryz.func140, Tryz.ntmps140
  go_wp2_with fail
  go_ret
  exact ⟨ret_bool H.out.symm, rfl⟩
 cases h3 : (s.toList == [109, 97, 120])
 case true =>
  have H : Hid (nameB s = false) := by
   show nameB s = false
   unfold nameB; rw [h3]; simp
  go_enter Tryz.func140, Tryz.ntmps140
  go_wp2_with fail
  go_ret
  exact ⟨ret_bool H.out.symm, rfl⟩
 exact fname_test s w h0 h1 h2 h3
theorem trim_empty (A : Option Addr) (c : Nat) (w : World) :
  Calls Tryz.prog 146 #[.slice A 0 c] w fun e w' => e = .returned (.slice A 0 c) ∧ w = w' := by
 go_enter Tryz.func146, Tryz.ntmps146
 go_wp2_with fail
 go_loop [3] (fun n => n = .int .i64 0) (fun _ => 0)
 case atStart => rfl
 case round =>
  subst hrel
  go_wp2_with fail
  go_ret
  exact ⟨rfl, rfl⟩
theorem trim_one (b off c : Nat) (x : Int) (w : World) (hx : (x == 0) = false) (hc0 : w.cell? ⟨b, off, none⟩ = some (.int .u32 x)) (hc : 1 ≤ c) (hc' : c ≤ 9223372036854775807) :
  Calls Tryz.prog 146 #[.slice (some ⟨b, off, none⟩) 1 c] w fun e w' => e = .returned (.slice (some ⟨b, off, none⟩) 1 c) ∧ w = w' := by
 go_enter Tryz.func146, Tryz.ntmps146
 go_wp2_with fail
 go_loop [3] (fun n => n = .int .i64 1) (fun _ => 0)
 case atStart => rfl
 case round =>
  subst hrel
  go_wp2_with fail
  go_ret
  exact ⟨rfl, rfl⟩
theorem trim_zeros (b off c : Nat) (w : World) (hc0 : w.cell? ⟨b, off, none⟩ = some (.int .u32 0)) (hc : 1 ≤ c) (hc' : c ≤ 9223372036854775807) :
  Calls Tryz.prog 146 #[.slice (some ⟨b, off, none⟩) 1 c] w fun e w' => e = .returned (.slice (some ⟨b, off, none⟩) 0 c) ∧ w = w' := by
 go_enter Tryz.func146, Tryz.ntmps146
 go_wp2_with fail
 go_loop [3] (fun n => n = .int .i64 1 ∨ n = .int .i64 0) (fun n => (intOf n).toNat)
 case atStart => exact .inl rfl
 case round =>
  rcases hrel with rfl | rfl
  ·go_wp2_with fail
   go_round
   case rel => exact .inr rfl
   case measure => simp [intOf]
  ·go_wp2_with fail
   go_ret
   exact ⟨rfl, rfl⟩
theorem trim_two (b off c : Nat) (x : Int) (w : World) (hx : (x == 0) = false) (hc0 : w.cell? ⟨b, off, none⟩ = some (.int .u32 x)) (hc1 : w.cell? ⟨b, off + 1, none⟩ = some (.int .u32 0)) (hc : 2 ≤ c) (hc' : c ≤ 9223372036854775807) :
  Calls Tryz.prog 146 #[.slice (some ⟨b, off, none⟩) 2 c] w fun e w' => e = .returned (.slice (some ⟨b, off, none⟩) 1 c) ∧ w = w' := by
 go_enter Tryz.func146, Tryz.ntmps146
 go_wp2_with fail
 go_loop [3] (fun n => n = .int .i64 2 ∨ n = .int .i64 1) (fun n => (intOf n).toNat)
 case atStart => exact .inl rfl
 case round =>
  rcases hrel with rfl | rfl
  ·go_wp2_with fail
   go_round
   case rel => exact .inr rfl
   case measure => simp [intOf]
  ·go_wp2_with fail
   go_ret
   exact ⟨rfl, rfl⟩
theorem ncmp_empty (A B : Option Addr) (c d : Nat) (w : World) :
  Calls Tryz.prog 144 #[.slice A 0 c, .slice B 0 d] w fun e w' => e = .returned (.int .i64 0) ∧ w = w' := by
 have hcmp : cmpI 0 0 = 0 := by decide
 go_enter Tryz.func144, Tryz.ntmps144
 go_wp2_with fail
 refine (trim_empty A c w).mono ?_
 rintro e w1 ⟨rfl, rfl⟩
 go_wp2_with fail
 refine (trim_empty B d _).mono ?_
 rintro e w1 ⟨rfl, rfl⟩
 go_wp2_with fail
 refine (compare_any 0 0 _).mono ?_
 rintro e w1 ⟨rfl, rfl⟩
 rw [hcmp]
 go_wp2_with fail
 go_loop [6] (fun n => n = .int .i64 (-1)) (fun _ => 0)
 case atStart => rfl
 case round =>
  subst hrel
  go_wp2_with fail
  go_ret
  exact ⟨rfl, rfl⟩
theorem zero_empty (A : Option Addr) (c : Nat) (w : World) :
  Calls Tryz.prog 128 #[.slice A 0 c] w fun e w' => e = .returned (.bool true) ∧ w = w' := by
 go_enter Tryz.func128, Tryz.ntmps128
 go_wp2_with fail
 refine (ncmp_empty A none c 0 w).mono ?_
 rintro e w1 ⟨rfl, rfl⟩
 go_wp2_with fail
 go_ret
 exact ⟨rfl, rfl⟩
def RetOne (w : World) (e : Ending) (w' : World) : Prop := ∃ b off c, e = .returned (.slice (some ⟨b, off, none⟩) 1 c) ∧ w.heap.size ≤ b ∧ 1 ≤ c ∧ c ≤ 9223372036854775807 ∧ w'.cell? ⟨b, off, none⟩ = some (.int .u32 1) ∧ Ext w w'
theorem of_one (w : World) : Calls Tryz.prog 142 #[.int .u64 1] w (RetOne w) := by
 go_enter Tryz.func142, Tryz.ntmps142
 go_wp2_with fail
 refine (trim_two w.heap.size 0 2 1 _ (by decide) (by simp [go_sem]) (by simp [go_sem]) (by omega) (by omega)).mono ?_
 rintro e w1 ⟨rfl, rfl⟩
 go_wp2_with fail
 go_ret
 exact ⟨_, _, _, rfl, Nat.le_refl _, by omega, by omega, by simp [go_sem], (Ext.refl _).alloc _⟩
def RetEmpty (w : World) (e : Ending) (w' : World) : Prop := ∃ A c, e = .returned (.slice A 0 c) ∧ c ≤ 9223372036854775807 ∧ Ext w w'
theorem make_nat (n : Nat) (hn : n ≤ 1000) (w : World) : (Instr.makeSlice 141 (.int .i64 n) (.int .i64 n)).run Tryz.prog w = .ok (.slice (some ⟨w.heap.size, 0, none⟩) n n) (w.alloc (.cells (madeCells #[.int .u32 0] (n * 1)) 192)) := by
 have h := run_make (P := Tryz.prog) w 141 192 (i := ((Tryz.prog.info? 192).getD default)) (z := .int .u32 0) Tryz.underlying141 (by kernel_rfl) (by kernel_rfl) .i64 .i64 n n (by omega) (by omega) (by
  rw [show ((Tryz.prog.info? 192).getD default).bytes = 4 from by kernel_rfl]; omega) (by omega)
 rw [show ((Tryz.prog.info? 192).getD default).size = 1 from by kernel_rfl] at h
 simpa [Value.cells] using h
theorem norm_empty (A : Option Addr) (c : Nat) (w : World) :
  Calls Tryz.prog 155 #[.slice A 0 c] w (RetEmpty w) := by
 have hm : ∀ W : World, (Instr.makeSlice 141 (.int .i64 0) (.int .i64 0)).run Tryz.prog W = .ok (.slice (some ⟨W.heap.size, 0, none⟩) 0 0) (W.alloc (.cells #[] 192)) := fun W => by
  have h := make_nat 0 (by omega) W
  simpa [made_one] using h
 have hcp := fun (W : World) (dp sp : Option Addr) (dc sc : Nat) => run_copy_none (P := Tryz.prog) W 141 141 3 192 dp sp 0 dc 0 sc Tryz.underlying141 (by kernel_rfl) rfl
 go_enter Tryz.func155, Tryz.ntmps155
 go_wp2_with fail
 refine (trim_empty A c w).mono ?_
 rintro e w1 ⟨rfl, rfl⟩
 go_wp2_with fail
 go_ret
 exact ⟨_, _, rfl, by omega, (Ext.refl _).alloc _⟩
theorem nmul_zero (A : Option Addr) (c b off d : Nat) (w : World) (hd : 1 ≤ d) (hd' : d ≤ 9223372036854775807) (hc1 : w.cell? ⟨b, off, none⟩ = some (.int .u32 1)) :
  Calls Tryz.prog 129 #[.slice A 0 c, .slice (some ⟨b, off, none⟩) 1 d] w (RetEmpty w) := by
 have hm : ∀ W : World, (Instr.makeSlice 141 (.int .i64 1) (.int .i64 1)).run Tryz.prog W = .ok (.slice (some ⟨W.heap.size, 0, none⟩) 1 1) (W.alloc (.cells #[.int .u32 0] 192)) := fun W => by
  have h := make_nat 1 (by omega) W
  simpa [made_one] using h
 go_enter Tryz.func129, Tryz.ntmps129
 go_wp2_with fail
 refine (trim_empty A c w).mono ?_
 rintro e w1 ⟨rfl, rfl⟩
 go_wp2_with fail
 refine (trim_one b off d 1 _ (by decide) hc1 hd hd').mono ?_
 rintro e w1 ⟨rfl, rfl⟩
 go_wp2_with fail
 go_loop [23] (fun n => n = .int .i64 0) (fun _ => 0)
 case atStart => rfl
 case round =>
  subst hrel
  go_wp2_with fail
  refine (trim_zeros w.heap.size 0 1 _ (by simp [go_sem]) (by omega) (by omega)).mono ?_
  rintro e w1 ⟨rfl, rfl⟩
  go_wp2_with fail
  go_ret
  exact ⟨_, _, rfl, by omega, (Ext.refl _).alloc _⟩
/- the integer 0, its magnitude wherever it lies -/
def RetInt0 (w : World) (e : Ending) (w' : World) : Prop := ∃ A c, e = .returned (.agg #[.bool false, .slice A 0 c]) ∧ c ≤ 9223372036854775807 ∧ Ext w w'
theorem signed_empty (A : Option Addr) (c : Nat) (w : World) :
  Calls Tryz.prog 145 #[.bool false, .slice A 0 c] w (RetInt0 w) := by
 go_enter Tryz.func145, Tryz.ntmps145
 go_wp2_with fail
 refine (norm_empty A c _).mono ?_
 rintro e w1 ⟨A1, c1, rfl, hc1, hx⟩
 have g0 := ext_cells hx (k := w.heap.size) (j := 0) (by simp)
 have g1 := ext_cells hx (k := w.heap.size) (j := 1) (by simp)
 have g2 := ext_frozen hx (k := w.heap.size) (j := 0) (by simp)
 have g3 := ext_frozen hx (k := w.heap.size) (j := 1) (by simp)
 have hz : w.heap.size < w1.heap.size := by have := hx.size; simp at this; omega
 simp [go_sem] at g0 g1 g2 g3
 go_wp2_with fail
 refine bodyPost_ret (v := .agg #[.bool false, .slice A1 0 c1]) (by simp [results, Tryz.results145, go_sem, g0, g1]) rfl ⟨A1, c1, rfl, hc1, ?_⟩
 exact ((((Ext.refl w).alloc _).trans hx).setCell (Nat.le_refl _) _).setCell (Nat.le_refl _) _
theorem inorm_empty (A : Option Addr) (c : Nat) (w : World) :
  Calls Tryz.prog 143 #[.agg #[.bool false, .slice A 0 c]] w (RetInt0 w) := by
 go_enter Tryz.func143, Tryz.ntmps143
 go_wp2_with fail
 refine (signed_empty A c _).mono ?_
 rintro e w1 ⟨A1, c1, rfl, hc1, hx⟩
 have g0 := ext_cells hx (k := w.heap.size + 1) (j := 0) (by simp)
 have g1 := ext_cells hx (k := w.heap.size + 1) (j := 1) (by simp)
 have g2 := ext_frozen hx (k := w.heap.size + 1) (j := 0) (by simp)
 have g3 := ext_frozen hx (k := w.heap.size + 1) (j := 1) (by simp)
 simp [go_sem] at g0 g1 g2 g3
 go_wp2_with fail
 refine bodyPost_ret (v := .agg #[.bool false, .slice A1 0 c1]) (by simp [results, Tryz.results143, go_sem, g0, g1]) rfl ⟨A1, c1, rfl, hc1, ?_⟩
 exact (((((Ext.refl w).alloc _).alloc _).trans hx).setCell (Nat.le_succ _) _).setCell (Nat.le_succ _) _
theorem positive_any (A : Option Addr) (n c : Nat) (w : World) :
  Calls Tryz.prog 123 #[.slice A n c] w fun e w' => e = .returned (.agg #[.bool false, .slice A n c]) ∧ Ext w w' := by
 go_enter Tryz.func123, Tryz.ntmps123
 go_wp2_with fail
 refine bodyPost_ret (v := .agg #[.bool false, .slice A n c]) (by simp [results, Tryz.results123, go_sem]) rfl ⟨rfl, ?_⟩
 exact (Ext.refl w).alloc _
set_option maxRecDepth 100000 in
set_option maxHeartbeats 1600000 in
theorem imul_zero (A : Option Addr) (c b off d : Nat) (w : World) (hd : 1 ≤ d) (hd' : d ≤ 9223372036854775807) (hc1 : w.cell? ⟨b, off, none⟩ = some (.int .u32 1)) :
  Calls Tryz.prog 122 #[.agg #[.bool false, .slice A 0 c], .agg #[.bool false, .slice (some ⟨b, off, none⟩) 1 d]] w (RetInt0 w) := by
 have hbl : b < w.heap.size := cell_lt hc1
 go_enter Tryz.func122, Tryz.ntmps122
 go_wp2_with fail
 refine wp_at fun w0 hw0 => ?_
 have hS0 : (Ext w w0 ∧ w0.cell? ⟨w.heap.size, 0, none⟩ = some (.bool false) ∧ w0.cell? ⟨w.heap.size, 1, none⟩ = some (.slice A 0 c) ∧ w0.cell? ⟨w.heap.size + 1, 0, none⟩ = some (.bool false) ∧ w0.cell? ⟨w.heap.size + 1, 1, none⟩ = some (.slice (some ⟨b, off, none⟩) 1 d) ∧ w0.cell? ⟨w.heap.size + 1 + 1, 0, none⟩ = some (cellOf w0 ⟨w.heap.size + 1 + 1, 0, none⟩) ∧ w0.cell? ⟨w.heap.size + 1 + 1, 1, none⟩ = some (cellOf w0 ⟨w.heap.size + 1 + 1, 1, none⟩) ∧ w0.frozen? ⟨w.heap.size + 1 + 1, 0, none⟩ = false ∧ w0.frozen? ⟨w.heap.size + 1 + 1, 1, none⟩ = false ∧ w0.cell? ⟨b, off, none⟩ = some (.int .u32 1)) := by
  have hcb := ((((Ext.refl w).alloc (.cells #[.bool false, .slice A 0 c] 143)).alloc (.cells #[.bool false, .slice (some ⟨b, off, none⟩) 1 d] 143)).alloc (.cells #[.bool false, .slice none 0 0] 143)).cell hc1
  refine ⟨by rw [hw0]; exact (((Ext.refl w).alloc _).alloc _).alloc _, ?_⟩
  rw [hw0]; simp [go_sem, cellOf] at hcb ⊢
  exact hcb
 have HB := Lib.hid hbl; clear hbl
 clear hw0 hc1
 have keep : ∀ W W1 : World, (Ext w W ∧ W.cell? ⟨w.heap.size, 0, none⟩ = some (.bool false) ∧ W.cell? ⟨w.heap.size, 1, none⟩ = some (.slice A 0 c) ∧ W.cell? ⟨w.heap.size + 1, 0, none⟩ = some (.bool false) ∧ W.cell? ⟨w.heap.size + 1, 1, none⟩ = some (.slice (some ⟨b, off, none⟩) 1 d) ∧ W.cell? ⟨w.heap.size + 1 + 1, 0, none⟩ = some (cellOf W ⟨w.heap.size + 1 + 1, 0, none⟩) ∧ W.cell? ⟨w.heap.size + 1 + 1, 1, none⟩ = some (cellOf W ⟨w.heap.size + 1 + 1, 1, none⟩) ∧ W.frozen? ⟨w.heap.size + 1 + 1, 0, none⟩ = false ∧ W.frozen? ⟨w.heap.size + 1 + 1, 1, none⟩ = false ∧ W.cell? ⟨b, off, none⟩ = some (.int .u32 1)) → Ext W W1 → (Ext w W1 ∧ W1.cell? ⟨w.heap.size, 0, none⟩ = some (.bool false) ∧ W1.cell? ⟨w.heap.size, 1, none⟩ = some (.slice A 0 c) ∧ W1.cell? ⟨w.heap.size + 1, 0, none⟩ = some (.bool false) ∧ W1.cell? ⟨w.heap.size + 1, 1, none⟩ = some (.slice (some ⟨b, off, none⟩) 1 d) ∧ W1.cell? ⟨w.heap.size + 1 + 1, 0, none⟩ = some (cellOf W1 ⟨w.heap.size + 1 + 1, 0, none⟩) ∧ W1.cell? ⟨w.heap.size + 1 + 1, 1, none⟩ = some (cellOf W1 ⟨w.heap.size + 1 + 1, 1, none⟩) ∧ W1.frozen? ⟨w.heap.size + 1 + 1, 0, none⟩ = false ∧ W1.frozen? ⟨w.heap.size + 1 + 1, 1, none⟩ = false ∧ W1.cell? ⟨b, off, none⟩ = some (.int .u32 1)) := fun W W1 ⟨h0, h1, h2, h3, h4, h5, h6, h7, h8, h9⟩ hx => ⟨h0.trans hx, hx.cell h1, hx.cell h2, hx.cell h3, hx.cell h4, there_ext hx h5, there_ext hx h6, hx.frz h5 h7, hx.frz h6 h8, hx.cell h9⟩
 have keepa : ∀ (W : World) (i : Nat) (u : Value), (Ext w W ∧ W.cell? ⟨w.heap.size, 0, none⟩ = some (.bool false) ∧ W.cell? ⟨w.heap.size, 1, none⟩ = some (.slice A 0 c) ∧ W.cell? ⟨w.heap.size + 1, 0, none⟩ = some (.bool false) ∧ W.cell? ⟨w.heap.size + 1, 1, none⟩ = some (.slice (some ⟨b, off, none⟩) 1 d) ∧ W.cell? ⟨w.heap.size + 1 + 1, 0, none⟩ = some (cellOf W ⟨w.heap.size + 1 + 1, 0, none⟩) ∧ W.cell? ⟨w.heap.size + 1 + 1, 1, none⟩ = some (cellOf W ⟨w.heap.size + 1 + 1, 1, none⟩) ∧ W.frozen? ⟨w.heap.size + 1 + 1, 0, none⟩ = false ∧ W.frozen? ⟨w.heap.size + 1 + 1, 1, none⟩ = false ∧ W.cell? ⟨b, off, none⟩ = some (.int .u32 1)) → (Ext w (W.setCell ⟨w.heap.size + 1 + 1, i, none⟩ u) ∧ (W.setCell ⟨w.heap.size + 1 + 1, i, none⟩ u).cell? ⟨w.heap.size, 0, none⟩ = some (.bool false) ∧ (W.setCell ⟨w.heap.size + 1 + 1, i, none⟩ u).cell? ⟨w.heap.size, 1, none⟩ = some (.slice A 0 c) ∧ (W.setCell ⟨w.heap.size + 1 + 1, i, none⟩ u).cell? ⟨w.heap.size + 1, 0, none⟩ = some (.bool false) ∧ (W.setCell ⟨w.heap.size + 1 + 1, i, none⟩ u).cell? ⟨w.heap.size + 1, 1, none⟩ = some (.slice (some ⟨b, off, none⟩) 1 d) ∧ (W.setCell ⟨w.heap.size + 1 + 1, i, none⟩ u).cell? ⟨w.heap.size + 1 + 1, 0, none⟩ = some (cellOf (W.setCell ⟨w.heap.size + 1 + 1, i, none⟩ u) ⟨w.heap.size + 1 + 1, 0, none⟩) ∧ (W.setCell ⟨w.heap.size + 1 + 1, i, none⟩ u).cell? ⟨w.heap.size + 1 + 1, 1, none⟩ = some (cellOf (W.setCell ⟨w.heap.size + 1 + 1, i, none⟩ u) ⟨w.heap.size + 1 + 1, 1, none⟩) ∧ (W.setCell ⟨w.heap.size + 1 + 1, i, none⟩ u).frozen? ⟨w.heap.size + 1 + 1, 0, none⟩ = false ∧ (W.setCell ⟨w.heap.size + 1 + 1, i, none⟩ u).frozen? ⟨w.heap.size + 1 + 1, 1, none⟩ = false ∧ (W.setCell ⟨w.heap.size + 1 + 1, i, none⟩ u).cell? ⟨b, off, none⟩ = some (.int .u32 1)) := fun W i u ⟨h0, h1, h2, h3, h4, h5, h6, h7, h8, h9⟩ => by
  have ne : ∀ p j, p ≠ w.heap.size + 2 → (W.setCell ⟨w.heap.size + 1 + 1, i, none⟩ u).cell? ⟨p, j, none⟩ = W.cell? ⟨p, j, none⟩ := fun p j hk => World.cell?_setCell_other _ _ _ _ (fun e => by injection e with e; omega)
  exact ⟨h0.setCell (by simp <;> omega) _, (ne _ _ (by omega)).trans h1, (ne _ _ (by omega)).trans h2, (ne _ _ (by omega)).trans h3, (ne _ _ (by omega)).trans h4, there_set h5 _ _, there_set h6 _ _, (frozen_set _ _ _ _).trans h7, (frozen_set _ _ _ _).trans h8, (ne _ _ (by have := HB.out; omega)).trans h9⟩
 have KEEP := Lib.hid keep; clear keep
 have KEEPA := Lib.hid keepa; clear keepa
 have getb : ∀ W : World, (Ext w W ∧ W.cell? ⟨w.heap.size, 0, none⟩ = some (.bool false) ∧ W.cell? ⟨w.heap.size, 1, none⟩ = some (.slice A 0 c) ∧ W.cell? ⟨w.heap.size + 1, 0, none⟩ = some (.bool false) ∧ W.cell? ⟨w.heap.size + 1, 1, none⟩ = some (.slice (some ⟨b, off, none⟩) 1 d) ∧ W.cell? ⟨w.heap.size + 1 + 1, 0, none⟩ = some (cellOf W ⟨w.heap.size + 1 + 1, 0, none⟩) ∧ W.cell? ⟨w.heap.size + 1 + 1, 1, none⟩ = some (cellOf W ⟨w.heap.size + 1 + 1, 1, none⟩) ∧ W.frozen? ⟨w.heap.size + 1 + 1, 0, none⟩ = false ∧ W.frozen? ⟨w.heap.size + 1 + 1, 1, none⟩ = false ∧ W.cell? ⟨b, off, none⟩ = some (.int .u32 1)) → W.cell? ⟨b, off, none⟩ = some (.int .u32 1) := fun W ⟨_, _, _, _, _, _, _, _, _, h⟩ => h
 have GETB := Lib.hid getb; clear getb
 have HS := Lib.hid hS0; clear hS0
 go_region_held3 (fun W => (Ext w W ∧ W.cell? ⟨w.heap.size, 0, none⟩ = some (.bool false) ∧ W.cell? ⟨w.heap.size, 1, none⟩ = some (.slice A 0 c) ∧ W.cell? ⟨w.heap.size + 1, 0, none⟩ = some (.bool false) ∧ W.cell? ⟨w.heap.size + 1, 1, none⟩ = some (.slice (some ⟨b, off, none⟩) 1 d) ∧ W.cell? ⟨w.heap.size + 1 + 1, 0, none⟩ = some (cellOf W ⟨w.heap.size + 1 + 1, 0, none⟩) ∧ W.cell? ⟨w.heap.size + 1 + 1, 1, none⟩ = some (cellOf W ⟨w.heap.size + 1 + 1, 1, none⟩) ∧ W.frozen? ⟨w.heap.size + 1 + 1, 0, none⟩ = false ∧ W.frozen? ⟨w.heap.size + 1 + 1, 1, none⟩ = false ∧ W.cell? ⟨b, off, none⟩ = some (.int .u32 1)))
  (first | exact KEEP.out w0 _ HS.out (Ext.drew (Ext.refl _)) | exact KEEP.out _ _ ‹_› ‹_› | exact KEEPA.out _ _ _ (KEEPA.out _ _ _ ‹_›) | fail)
  (first
   |(go_at_call 129; refine (nmul_zero A c b off d _ hd hd' (GETB.out _ ‹_›)).mono ?_; rintro e w1 ⟨A1, k1, rfl, hk1, hx1⟩)
   |(go_at_call 145; refine (signed_empty _ _ _).mono ?_; rintro e w2 ⟨A2, k2, rfl, hk2, hx2⟩)
   |fail)
 have hS2 := KEEP.out _ _ (KEEP.out _ _ (KEEP.out w0 _ HS.out (Ext.drew (Ext.refl _))) hx1) hx2
 obtain ⟨e0, _, _, _, _, e5, e6, _⟩ := hS2
 go_wp2_with fail
 refine bodyPost_ret (v := .agg #[.bool false, .slice A2 0 k2]) (by simp [results, Tryz.results122, go_sem, e5, e6]) rfl ⟨A2, k2, rfl, hk2, ?_⟩
 exact (e0.setCell (by simp <;> omega) _).setCell (by simp <;> omega) _
set_option maxRecDepth 100000 in
set_option maxHeartbeats 1600000 in
theorem icmp_zero (A B : Option Addr) (c d : Nat) (w : World) :
  Calls Tryz.prog 121 #[.agg #[.bool false, .slice A 0 c], .agg #[.bool false, .slice B 0 d]] w fun e w' => e = .returned (.int .i64 0) ∧ Ext w w' := by
 go_enter Tryz.func121, Tryz.ntmps121
 go_wp2_with fail
 refine wp_at fun w0 hw0 => ?_
 obtain ⟨c0, c1, c2, c3, f0, f1, f2, f3⟩ : w0.cell? ⟨w.heap.size, 0, none⟩ = some (.bool false) ∧ w0.cell? ⟨w.heap.size, 1, none⟩ = some (.slice A 0 c) ∧ w0.cell? ⟨w.heap.size + 1, 0, none⟩ = some (.bool false) ∧ w0.cell? ⟨w.heap.size + 1, 1, none⟩ = some (.slice B 0 d) ∧
   w0.frozen? ⟨w.heap.size, 0, none⟩ = false ∧ w0.frozen? ⟨w.heap.size, 1, none⟩ = false ∧ w0.frozen? ⟨w.heap.size + 1, 0, none⟩ = false ∧ w0.frozen? ⟨w.heap.size + 1, 1, none⟩ = false := by
  rw [hw0]; simp [go_sem]
 have he0 : Ext w w0 := by rw [hw0]; exact ((Ext.refl w).alloc _).alloc _
 have hz0 : w.heap.size + 2 ≤ w0.heap.size := by rw [hw0]; simp
 clear hw0
 go_region_with (first
  |(go_at_call 143; have _t := hx1; refine (inorm_empty _ _ _).mono ?_; rintro e w2 ⟨A2, k2, rfl, hk2, hx2⟩
    have z2 : w.heap.size + 2 ≤ w2.heap.size := Nat.le_trans z1 hx2.size
    have r2 : ∀ k j, k < w.heap.size + 2 → w2.cell? ⟨k, j, none⟩ = w1.cell? ⟨k, j, none⟩ := fun k j hk => ext_cells hx2 (by omega)
    have s2 : ∀ k j, k < w.heap.size + 2 → w2.frozen? ⟨k, j, none⟩ = w1.frozen? ⟨k, j, none⟩ := fun k j hk => ext_frozen hx2 (by omega))
  |(go_at_call 143; refine (inorm_empty _ _ _).mono ?_; rintro e w1 ⟨A1, k1, rfl, hk1, hx1⟩
    have z1 : w.heap.size + 2 ≤ w1.heap.size := Nat.le_trans hz0 hx1.size
    have r1 : ∀ k j, k < w.heap.size + 2 → w1.cell? ⟨k, j, none⟩ = w0.cell? ⟨k, j, none⟩ := fun k j hk => ext_cells hx1 (Nat.lt_of_lt_of_le hk hz0)
    have s1 : ∀ k j, k < w.heap.size + 2 → w1.frozen? ⟨k, j, none⟩ = w0.frozen? ⟨k, j, none⟩ := fun k j hk => ext_frozen hx1 (Nat.lt_of_lt_of_le hk hz0))
  |fail)
 all_goals
  go_wp2_with fail
  refine (ncmp_empty _ _ _ _ _).mono ?_
  rintro e w3 ⟨rfl, rfl⟩
  go_wp2_with fail
  go_ret
  exact ⟨rfl, ((((((he0.drew).trans hx1).trans hx2).setCell (by simp) _).setCell (by simp) _).setCell (by simp) _).setCell (by simp) _⟩
/- ratio.value of the ratio 0 -/
def RetRat0 (w : World) (e : Ending) (w' : World) : Prop := ∃ b off c, e = .returned (.agg #[.bool false, .slice none 0 0, .slice (some ⟨b, off, none⟩) 1 c]) ∧ w.heap.size ≤ b ∧ 1 ≤ c ∧ c ≤ 9223372036854775807 ∧ w'.cell? ⟨b, off, none⟩ = some (.int .u32 1) ∧ Ext w w'
theorem value_zero (w : World) : Calls Tryz.prog 120 #[.agg #[.bool false, .slice none 0 0, .slice none 0 0]] w (RetRat0 w) := by
 go_enter Tryz.func120, Tryz.ntmps120
 go_wp2_with fail
 refine (zero_empty none 0 _).mono ?_
 rintro e w1 ⟨rfl, rfl⟩
 go_wp2_with fail
 refine (of_one _).mono ?_
 rintro e w2 ⟨b, off, c, rfl, hb, hc, hc', hcell, hx⟩
 simp at hb
 have hbl : b < w2.heap.size := cell_lt hcell
 have g0 := ext_cells hx (k := w.heap.size + 1) (j := 0) (by simp)
 have g1 := ext_cells hx (k := w.heap.size + 1) (j := 1) (by simp)
 have g2 := ext_cells hx (k := w.heap.size + 1) (j := 2) (by simp)
 have f0 := ext_frozen hx (k := w.heap.size + 1) (j := 0) (by simp)
 have f1 := ext_frozen hx (k := w.heap.size + 1) (j := 1) (by simp)
 have f2 := ext_frozen hx (k := w.heap.size + 1) (j := 2) (by simp)
 simp [go_sem] at g0 g1 g2 f0 f1 f2
 go_wp2_with fail
 refine bodyPost_ret (v := .agg #[.bool false, .slice none 0 0, .slice (some ⟨b, off, none⟩) 1 c]) (by simp [results, Tryz.results120, go_sem, g0, g1, g2]) rfl ⟨b, off, c, rfl, by omega, hc, hc', ?_, ?_⟩
 ·rw [World.cell?_setCell_other _ _ _ _ (fun e => by injection e with e; omega), World.cell?_setCell_other _ _ _ _ (fun e => by injection e with e; omega), World.cell?_setCell_other _ _ _ _ (fun e => by injection e with e; omega)]
  exact hcell
 ·exact ((((((Ext.refl w).alloc _).alloc _).trans hx).setCell (by simp) _).setCell (by simp) _).setCell (by simp) _
set_option maxRecDepth 100000 in
set_option maxHeartbeats 1600000 in
theorem rcmp_zero (w : World) : Calls Tryz.prog 101 #[.agg #[.bool false, .slice none 0 0, .slice none 0 0], .agg #[.bool false, .slice none 0 0, .slice none 0 0]] w fun e w' => e = .returned (.int .i64 0) ∧ Ext w w' := by
 go_enter Tryz.func101, Tryz.ntmps101
 go_wp2_with fail
 refine wp_at fun w0 hw0 => ?_
 obtain ⟨c0, c1, c2, c3, c4, c5, f0, f1, f2, f3, f4, f5⟩ : w0.cell? ⟨w.heap.size, 0, none⟩ = some (.bool false) ∧ w0.cell? ⟨w.heap.size, 1, none⟩ = some (.slice none 0 0) ∧ w0.cell? ⟨w.heap.size, 2, none⟩ = some (.slice none 0 0) ∧ w0.cell? ⟨w.heap.size + 1, 0, none⟩ = some (.bool false) ∧ w0.cell? ⟨w.heap.size + 1, 1, none⟩ = some (.slice none 0 0) ∧ w0.cell? ⟨w.heap.size + 1, 2, none⟩ = some (.slice none 0 0) ∧ w0.frozen? ⟨w.heap.size, 0, none⟩ = false ∧ w0.frozen? ⟨w.heap.size, 1, none⟩ = false ∧ w0.frozen? ⟨w.heap.size, 2, none⟩ = false ∧ w0.frozen? ⟨w.heap.size + 1, 0, none⟩ = false ∧ w0.frozen? ⟨w.heap.size + 1, 1, none⟩ = false ∧ w0.frozen? ⟨w.heap.size + 1, 2, none⟩ = false := by
  rw [hw0]; simp [go_sem]
 have he0 : Ext w w0 := by rw [hw0]; exact ((Ext.refl w).alloc _).alloc _
 have hz0 : w.heap.size + 2 ≤ w0.heap.size := by rw [hw0]; simp
 clear hw0
 go_region_with (first
  |(go_at_call 120; have _t := hx1; refine (value_zero _).mono ?_; rintro e w2 ⟨b2, o2, k2, rfl, hb2, hk2, hj2, hd2, hx2⟩
    have z2 : w.heap.size + 2 ≤ w2.heap.size := Nat.le_trans z1 hx2.size
    have r2 : ∀ k j, k < w.heap.size + 2 → w2.cell? ⟨k, j, none⟩ = w1.cell? ⟨k, j, none⟩ := fun k j hk => ext_cells hx2 (by omega)
    have s2 : ∀ k j, k < w.heap.size + 2 → w2.frozen? ⟨k, j, none⟩ = w1.frozen? ⟨k, j, none⟩ := fun k j hk => ext_frozen hx2 (by omega))
  |(go_at_call 120; refine (value_zero _).mono ?_; rintro e w1 ⟨b1, o1, k1, rfl, hb1, hk1, hj1, hd1, hx1⟩
    have z1 : w.heap.size + 2 ≤ w1.heap.size := Nat.le_trans hz0 hx1.size
    have r1 : ∀ k j, k < w.heap.size + 2 → w1.cell? ⟨k, j, none⟩ = w0.cell? ⟨k, j, none⟩ := fun k j hk => ext_cells hx1 (Nat.lt_of_lt_of_le hk hz0)
    have s1 : ∀ k j, k < w.heap.size + 2 → w1.frozen? ⟨k, j, none⟩ = w0.frozen? ⟨k, j, none⟩ := fun k j hk => ext_frozen hx1 (Nat.lt_of_lt_of_le hk hz0))
  |fail)
 all_goals
  have hbb1 : w.heap.size + 2 ≤ b1 := Nat.le_trans hz0 hb1
  have hbb2 : w.heap.size + 2 ≤ b2 := Nat.le_trans z1 hb2
  go_wp2_with fail
  refine wp_at fun w3 hw3 => ?_
  have hne : ∀ k j, w.heap.size + 2 ≤ k → w3.cell? ⟨k, j, none⟩ = w2.cell? ⟨k, j, none⟩ := fun k j hk => by
   rw [hw3]
   repeat rw [World.cell?_setCell_other _ _ _ _ (fun e => by injection e with e; omega)]
  have hS0 : (Ext w w3 ∧ w3.cell? ⟨w.heap.size, 0, none⟩ = some (.bool false) ∧ w3.cell? ⟨w.heap.size, 1, none⟩ = some (.slice none 0 0) ∧ w3.cell? ⟨w.heap.size, 2, none⟩ = some (.slice (some ⟨b1, o1, none⟩) 1 k1) ∧ w3.cell? ⟨w.heap.size + 1, 0, none⟩ = some (.bool false) ∧ w3.cell? ⟨w.heap.size + 1, 1, none⟩ = some (.slice none 0 0) ∧ w3.cell? ⟨w.heap.size + 1, 2, none⟩ = some (.slice (some ⟨b2, o2, none⟩) 1 k2) ∧ w3.cell? ⟨b1, o1, none⟩ = some (.int .u32 1) ∧ w3.cell? ⟨b2, o2, none⟩ = some (.int .u32 1)) := by
   refine ⟨by rw [hw3]; exact ((((((((he0.drew).trans hx1).trans hx2).setCell (by simp) _).setCell (by simp) _).setCell (by simp) _).setCell (by simp) _).setCell (by simp) _).setCell (by simp) _, ?_, ?_, ?_, ?_, ?_, ?_, (hne _ _ hbb1).trans (hx2.cell hd1), (hne _ _ hbb2).trans hd2⟩
   all_goals (rw [hw3]; simp [go_sem, r1, r2, c0, c1, c2, c3, c4, c5])
  clear hne hw3 c0 c1 c2 c3 c4 c5 f0 f1 f2 f3 f4 f5 r1 r2 s1 s2
  have keep : ∀ W W1 : World, (Ext w W ∧ W.cell? ⟨w.heap.size, 0, none⟩ = some (.bool false) ∧ W.cell? ⟨w.heap.size, 1, none⟩ = some (.slice none 0 0) ∧ W.cell? ⟨w.heap.size, 2, none⟩ = some (.slice (some ⟨b1, o1, none⟩) 1 k1) ∧ W.cell? ⟨w.heap.size + 1, 0, none⟩ = some (.bool false) ∧ W.cell? ⟨w.heap.size + 1, 1, none⟩ = some (.slice none 0 0) ∧ W.cell? ⟨w.heap.size + 1, 2, none⟩ = some (.slice (some ⟨b2, o2, none⟩) 1 k2) ∧ W.cell? ⟨b1, o1, none⟩ = some (.int .u32 1) ∧ W.cell? ⟨b2, o2, none⟩ = some (.int .u32 1)) → Ext W W1 → (Ext w W1 ∧ W1.cell? ⟨w.heap.size, 0, none⟩ = some (.bool false) ∧ W1.cell? ⟨w.heap.size, 1, none⟩ = some (.slice none 0 0) ∧ W1.cell? ⟨w.heap.size, 2, none⟩ = some (.slice (some ⟨b1, o1, none⟩) 1 k1) ∧ W1.cell? ⟨w.heap.size + 1, 0, none⟩ = some (.bool false) ∧ W1.cell? ⟨w.heap.size + 1, 1, none⟩ = some (.slice none 0 0) ∧ W1.cell? ⟨w.heap.size + 1, 2, none⟩ = some (.slice (some ⟨b2, o2, none⟩) 1 k2) ∧ W1.cell? ⟨b1, o1, none⟩ = some (.int .u32 1) ∧ W1.cell? ⟨b2, o2, none⟩ = some (.int .u32 1)) := fun W W1 ⟨h0, h1, h2, h3, h4, h5, h6, h7, h8⟩ hx => ⟨h0.trans hx, hx.cell h1, hx.cell h2, hx.cell h3, hx.cell h4, hx.cell h5, hx.cell h6, hx.cell h7, hx.cell h8⟩
  have get1 : ∀ W : World, (Ext w W ∧ W.cell? ⟨w.heap.size, 0, none⟩ = some (.bool false) ∧ W.cell? ⟨w.heap.size, 1, none⟩ = some (.slice none 0 0) ∧ W.cell? ⟨w.heap.size, 2, none⟩ = some (.slice (some ⟨b1, o1, none⟩) 1 k1) ∧ W.cell? ⟨w.heap.size + 1, 0, none⟩ = some (.bool false) ∧ W.cell? ⟨w.heap.size + 1, 1, none⟩ = some (.slice none 0 0) ∧ W.cell? ⟨w.heap.size + 1, 2, none⟩ = some (.slice (some ⟨b2, o2, none⟩) 1 k2) ∧ W.cell? ⟨b1, o1, none⟩ = some (.int .u32 1) ∧ W.cell? ⟨b2, o2, none⟩ = some (.int .u32 1)) → W.cell? ⟨b1, o1, none⟩ = some (.int .u32 1) := fun W ⟨h0, h1, h2, h3, h4, h5, h6, h7, h8⟩ => h7
  have get2 : ∀ W : World, (Ext w W ∧ W.cell? ⟨w.heap.size, 0, none⟩ = some (.bool false) ∧ W.cell? ⟨w.heap.size, 1, none⟩ = some (.slice none 0 0) ∧ W.cell? ⟨w.heap.size, 2, none⟩ = some (.slice (some ⟨b1, o1, none⟩) 1 k1) ∧ W.cell? ⟨w.heap.size + 1, 0, none⟩ = some (.bool false) ∧ W.cell? ⟨w.heap.size + 1, 1, none⟩ = some (.slice none 0 0) ∧ W.cell? ⟨w.heap.size + 1, 2, none⟩ = some (.slice (some ⟨b2, o2, none⟩) 1 k2) ∧ W.cell? ⟨b1, o1, none⟩ = some (.int .u32 1) ∧ W.cell? ⟨b2, o2, none⟩ = some (.int .u32 1)) → W.cell? ⟨b2, o2, none⟩ = some (.int .u32 1) := fun W ⟨h0, h1, h2, h3, h4, h5, h6, h7, h8⟩ => h8
  have KEEP := Lib.hid keep; clear keep
  have GET1 := Lib.hid get1; clear get1
  have GET2 := Lib.hid get2; clear get2
  have HS := Lib.hid hS0; clear hS0
  go_region_held3 (fun W => (Ext w W ∧ W.cell? ⟨w.heap.size, 0, none⟩ = some (.bool false) ∧ W.cell? ⟨w.heap.size, 1, none⟩ = some (.slice none 0 0) ∧ W.cell? ⟨w.heap.size, 2, none⟩ = some (.slice (some ⟨b1, o1, none⟩) 1 k1) ∧ W.cell? ⟨w.heap.size + 1, 0, none⟩ = some (.bool false) ∧ W.cell? ⟨w.heap.size + 1, 1, none⟩ = some (.slice none 0 0) ∧ W.cell? ⟨w.heap.size + 1, 2, none⟩ = some (.slice (some ⟨b2, o2, none⟩) 1 k2) ∧ W.cell? ⟨b1, o1, none⟩ = some (.int .u32 1) ∧ W.cell? ⟨b2, o2, none⟩ = some (.int .u32 1)))
   (first | exact KEEP.out w3 _ HS.out (Ext.drew (Ext.refl _)) | exact KEEP.out _ _ ‹_› ‹_› | assumption | fail)
   (first
    |(go_at_call 123; refine (positive_any _ _ _ _).mono ?_; rintro e wa ⟨rfl, hxa⟩)
    |(go_at_call 122; refine (imul_zero _ _ _ _ _ _ (by assumption) (by assumption) (by first | exact GET2.out _ ‹_› | exact GET1.out _ ‹_›)).mono ?_; rintro e wb ⟨Ab, kb, rfl, hkb, hxb⟩)
    |(go_at_call 121; refine (icmp_zero _ _ _ _ _).mono ?_; rintro e wd ⟨rfl, hxd⟩)
    |fail)
  go_wp2_with fail
  go_ret
  exact ⟨rfl, And.left ‹Ext w _ ∧ _›⟩
def nameE (s : ByteArray) : Int := if nameB s = true then 0 else 1
theorem nameE_f {s : ByteArray} (h : nameB s = false) : nameE s = 1 := by simp [nameE, h]
theorem nameE_t {s : ByteArray} (h : nameB s = true) : nameE s = 0 := by simp [nameE, h]
theorem right_any (s : ByteArray) (w : World) :
  Calls Tryz.prog 119 #[.agg #[.int .i64 2, .bool false, .slice none 0 0, .slice none 0 0, .string s, .slice none 0 0]] w fun e w' => e = .returned (.bool (nameB s)) ∧ Ext w w' := by
 cases hn : nameB s
 ·have HN := Lib.hid hn; clear hn
  go_enter Tryz.func119, Tryz.ntmps119
  go_wp2_with (first | (go_at_call 139; go_in))
  refine (fname_any s _).mono ?_
  rintro e w1 ⟨rfl, rfl⟩
  rw [HN.out]
  go_wp2_with fail
  go_ret
  exact ⟨rfl, (Ext.refl _).alloc _⟩
 ·have HN := Lib.hid hn; clear hn
  go_enter Tryz.func119, Tryz.ntmps119
  go_wp2_with (first | (go_at_call 139; go_in))
  refine (fname_any s _).mono ?_
  rintro e w1 ⟨rfl, rfl⟩
  rw [HN.out]
  go_wp2_with fail
  refine (rcmp_zero _).mono ?_
  rintro e w2 ⟨rfl, hx⟩
  go_wp2_with fail
  go_ret
  exact ⟨rfl, ((Ext.refl _).alloc _).trans hx⟩
theorem fcheck_any (s : ByteArray) (w : World) :
  Calls Tryz.prog 98 #[.agg #[.int .i64 2, .bool false, .slice none 0 0, .slice none 0 0, .string s, .slice none 0 0], .int .i64 1] w fun e w' => e = .returned (.int .i64 (nameE s)) ∧ Ext w w' := by
 go_enter Tryz.func98, Tryz.ntmps98
 go_wp2_with fail
 refine (right_any s _).mono ?_
 rintro e w1 ⟨rfl, hx⟩
 have hc : ∀ k j, k < w.heap.size + 1 → w1.cell? ⟨k, j, none⟩ = _ := fun k j hk => ext_cells hx (by simp; omega)
 cases hn : nameB s
 ·have HN := Lib.hid hn; clear hn
  go_wp2_with fail
  go_ret
  exact ⟨ret_int (nameE_f HN.out).symm, ((Ext.refl _).alloc _).trans hx⟩
 ·have HN := Lib.hid hn; clear hn
  go_wp2_with fail
  go_loop [16] (fun n => n = .int .i64 0) (fun _ => 0)
  case atStart => rfl
  case round =>
   subst hrel
   go_wp2_with fail
   go_ret
   exact ⟨ret_int (nameE_t HN.out).symm, ((Ext.refl _).alloc _).trans hx⟩
theorem fCheck_any (s : ByteArray) (w : World) :
  Calls Tryz.prog 79 #[.agg #[.int .i64 2, .bool false, .slice none 0 0, .slice none 0 0, .string s, .slice none 0 0]] w fun e w' => e = .returned (.int .i64 (nameE s)) ∧ Ext w w' := by
 go_enter Tryz.func79, Tryz.ntmps79
 go_wp2_with fail
 refine (fcheck_any s _).mono ?_
 rintro e w1 ⟨rfl, hx⟩
 go_wp2_with fail
 go_ret
 exact ⟨rfl, ((Ext.refl _).alloc _).trans hx⟩
theorem isName_any (s : ByteArray) (w : World) :
  Calls Tryz.prog 69 #[.string s] w fun e w' => e = .returned (.bool (nameB s)) ∧ Ext w w' := by
 go_enter Tryz.func69, Tryz.ntmps69
 go_wp2_with fail
 refine (fCheck_any s _).mono ?_
 rintro e w1 ⟨rfl, hx⟩
 cases hn : nameB s
 ·rw [nameE_f hn]
  have HN := Lib.hid hn; clear hn
  go_wp2_with fail
  go_ret
  exact ⟨ret_bool HN.out.symm, hx⟩
 ·rw [nameE_t hn]
  have HN := Lib.hid hn; clear hn
  go_wp2_with fail
  go_ret
  exact ⟨ret_bool HN.out.symm, hx⟩
def sameN (l : List Edge) (i j : Nat) : Bool := (gE l j).1.toList == (gE l i).1.toList
def edgeE (l : List Edge) (i : Nat) : Int := if nameB (gE l i).1 = false then 1 else if allB (fun j => !sameN l i j) i = false then 7 else lcheck (gE l i).2
def joinF (l : List Edge) (n i : Nat) : Bool := decide (gS (gE l i).2 ((gE l i).2.length - 1) = gS (gE l ((i + 1) % n)).2 0)
def ocheck (l : List Edge) : Int := if 16 < l.length then 5 else if l.length < 2 then 11 else if firstE (edgeE l) l.length ≠ 0 then firstE (edgeE l) l.length else if allB (joinF l l.length) l.length = false then 11 else pcheck (verts l)
theorem edge_ok {l : List Edge} {i : Nat} (h : edgeE l i = 0) : lcheck (gE l i).2 = 0 := by
 unfold edgeE at h
 split at h
 ·cases h
 ·split at h
  ·cases h
  ·exact h
theorem lcheck_len {l : List Spot} (h : lcheck l = 0) : 2 ≤ l.length ∧ l.length ≤ 40 := by
 unfold lcheck at h
 split at h
 ·cases h
 ·split at h
  ·cases h
  ·omega
theorem lens_of {l : List Edge} {n : Nat} (h : firstE (edgeE l) n = 0) {k : Nat} (hk : k < n) : 2 ≤ (gE l k).2.length ∧ (gE l k).2.length ≤ 40 := lcheck_len (edge_ok ((firstE_zero _ _).1 h k hk))
set_option maxRecDepth 100000 in
set_option maxHeartbeats 1600000 in
theorem ocheck_any (A : Option Addr) (n c : Nat) (l : List Edge) (w : World) (ha : EdgesAt w A l) (hl : l.length = n) (hn : n ≤ c) (_ : c ≤ 9223372036854775807) :
  Calls Tryz.prog 39 #[.slice A n c] w fun e w' => e = .returned (.int .i64 (ocheck l)) ∧ Ext w w' := by
 have HL := Lib.hid hl; clear hl
 have HA := Lib.hid ha; clear ha
 by_cases h16 : 16 < n
 ·go_enter Tryz.func39, Tryz.ntmps39
  go_wp2_with fail
  go_ret
  exact ⟨ret_int (by unfold ocheck; rw [HL.out, if_pos h16]), Ext.refl _⟩
 by_cases h2 : n < 2
 ·go_enter Tryz.func39, Tryz.ntmps39
  go_wp2_with fail
  go_ret
  exact ⟨ret_int (by unfold ocheck; rw [HL.out, if_neg (by omega), if_pos h2]), Ext.refl _⟩
 have hfail : ∀ k, k < n → firstE (edgeE l) k = 0 → ∀ e, edgeE l k = e → e ≠ 0 → e = ocheck l := fun k hk h0 e he hne => by
  have h := firstE_at (n := n) hk h0 (by rw [he]; exact hne)
  unfold ocheck
  rw [HL.out, if_neg (by omega), if_neg (by omega), h, he, if_pos hne]
 have HF := Lib.hid hfail; clear hfail
 go_enter Tryz.func39, Tryz.ntmps39
 go_wp2_with fail
 go_loopw [19] (fun i wr => ∃ k : Nat, k ≤ n ∧ i = .int .i64 k ∧ firstE (edgeE l) k = 0 ∧ Ext w wr) (fun i _ => n - (intOf i).toNat)
 case atStart => exact ⟨0, Nat.zero_le _, rfl, rfl, Ext.refl _⟩
 case round =>
  obtain ⟨k, hk, rfl, ht, hx⟩ := hrel
  have HT := Lib.hid ht; clear ht
  by_cases hlt : k < n
  ·have hkl : k < l.length := by rw [HL.out]; exact hlt
   obtain ⟨b, off, L, cL, rfl, hc0, hc1, hs, hcl, hcm⟩ := (HA.out.ext hx).g hkl
   have HS := Lib.hid hs; clear hs
   go_wp2_with fail
   refine (isName_any (gE l k).1 _).mono ?_
   rintro e w1 ⟨rfl, he1⟩
   have hx1 : Ext w w1 := (hx.alloc _).trans he1
   have g0 := ext_cells he1 (k := wr.heap.size) (j := 0) (by simp)
   have g1 := ext_cells he1 (k := wr.heap.size) (j := 1) (by simp)
   simp [go_sem] at g0 g1
   have hS1 : SpotsAt w1 L (gE l k).2 := (HS.out.ext ((Ext.refl _).alloc _)).ext he1
   have HS1 := Lib.hid hS1; clear hS1
   clear HS hc0 hc1
   obtain ⟨sb, hsb⟩ : ∃ sb, sb = wr.heap.size := ⟨_, rfl⟩
   rw [← hsb] at g0 g1
   rw [← hsb]
   clear he1
   cases hp : nameB (gE l k).1
   ·have HP := Lib.hid hp; clear hp
    clear hsb
    go_wp2_with fail
    go_ret
    exact ⟨ret_int (HF.out k hlt HT.out 1 (by unfold edgeE; rw [if_pos HP.out]) (by decide)), hx1⟩
   have HP := Lib.hid hp; clear hp
   clear hsb hx
   go_wp2_with fail
   go_loopw [32] (fun i wq => ∃ j : Nat, j ≤ k ∧ i = .int .i64 j ∧ allB (fun j => !sameN l k j) j = true ∧ Ext w1 wq) (fun i _ => k - (intOf i).toNat)
   case atStart => exact ⟨0, Nat.zero_le _, rfl, rfl, Ext.refl _⟩
   case round =>
    obtain ⟨wq, rfl⟩ : ∃ wq : World, wq = wr := ⟨_, rfl⟩
    obtain ⟨j, hj, rfl, hs, hy⟩ := hrel
    have HJ := Lib.hid hs; clear hs
    have e0 := hy.cell g0
    have e1 := hy.cell g1
    by_cases hjk : j < k
    ·obtain ⟨Lj, cj, d0, d1, _, _, _⟩ := (HA.out.ext (hx1.trans hy)).at1 (k := j) (by rw [HL.out]; omega)
     have hbl : sb < wq.heap.size := cell_lt e0
     cases hp : ((gE l j).1.toList == (gE l k).1.toList)
     ·go_wp2_with fail
      go_roundw
      case rel => exact ⟨j + 1, by omega, by go_num, allB_succ HJ.out (by unfold sameN; rw [hp]; rfl), hy.alloc _⟩
      case measure => simp [intOf]; omega
     ·go_wp2_with fail
      go_ret
      exact ⟨ret_int (HF.out k hlt HT.out 7 (by
       unfold edgeE
       rw [if_neg (by rw [HP.out]; decide), if_pos]
       exact allB_false hjk (by unfold sameN; rw [hp]; rfl)) (by decide)), (hx1.trans hy).alloc _⟩
    ·obtain rfl : j = k := by omega
     clear hj hjk
     go_wp2_with fail
     refine (lcheck_any L _ cL (gE l j).2 _ (HS1.out.ext hy) rfl).mono ?_
     rintro e w2 ⟨rfl, he2⟩
     have hE : edgeE l j = lcheck (gE l j).2 := by
      unfold edgeE
      rw [if_neg (by rw [HP.out]; decide), if_neg (by rw [HJ.out]; decide)]
     have HE := Lib.hid hE; clear hE
     by_cases hz : lcheck (gE l j).2 = 0
     ·have hzb : (lcheck (gE l j).2 != 0) = false := by rw [hz]; rfl
      have HZ := Lib.hid hz; clear hz
      go_wp2_with fail
      go_roundw
      case rel => exact ⟨j + 1, by omega, by go_num, firstE_succ HT.out (by rw [HE.out, HZ.out]), (hx1.trans hy).trans he2⟩
      case measure => simp [intOf]; omega
     ·have hzb : (lcheck (gE l j).2 != 0) = true := by simp [hz]
      have HZ := Lib.hid hz; clear hz
      go_wp2_with fail
      go_ret
      exact ⟨ret_int (HF.out j hlt HT.out _ HE.out HZ.out), (hx1.trans hy).trans he2⟩
  ·obtain rfl : k = n := by omega
   clear hlt hk HF
   go_wp2_with fail
   go_loopw [51] (fun i wq => ∃ j : Nat, j ≤ k ∧ i = .int .i64 j ∧ allB (joinF l k) j = true ∧ Ext w wq) (fun i _ => k - (intOf i).toNat)
   case atStart => exact ⟨0, Nat.zero_le _, rfl, rfl, hx⟩
   case round =>
    clear hx
    obtain ⟨wq, rfl⟩ : ∃ wq : World, wq = wr := ⟨_, rfl⟩
    obtain ⟨j, hj, rfl, hs, hx⟩ := hrel
    have HJ := Lib.hid hs; clear hs
    by_cases hjk : j < k
    ·have hm1 : (j + 1) % k < k := Nat.mod_lt _ (by omega)
     obtain ⟨b, off, L, cL, rfl, hc0, hc1, hs, hcl, hcm⟩ := (HA.out.ext hx).g (k := j) (by rw [HL.out]; exact hjk)
     obtain ⟨L', cL', hd0, hd1, hs', hcl', hcm'⟩ := (HA.out.ext hx).at1 (k := (j + 1) % k) (by rw [HL.out]; exact hm1)
     obtain ⟨hle, hle'⟩ := lens_of HT.out hjk
     obtain ⟨hre, hre'⟩ := lens_of HT.out hm1
     obtain ⟨m, hm⟩ : ∃ m, (gE l j).2.length = m + 1 := ⟨(gE l j).2.length - 1, by omega⟩
     obtain ⟨bl, ol, rfl, hl0, hl1⟩ := hs.g (k := m) (by omega)
     obtain ⟨br, or_, rfl, hr0, hr1⟩ := hs'.g (k := 0) (by omega)
     simp only [Nat.zero_mul, Nat.add_zero] at hr0 hr1
     have hbl : b < wq.heap.size := cell_lt hc0
     have hbl1 : b < wq.heap.size + 1 := by omega
     obtain ⟨hj0, hj1, hj2⟩ := mod_idx j k 1 1 rfl (by omega)
     rw [hm] at hc1 hcl hle hle'
     have HM := Lib.hid hm; clear hm hs hs'
     obtain ⟨mr, hmr⟩ : ∃ mr, (gE l ((j + 1) % k)).2.length = mr + 1 := ⟨(gE l ((j + 1) % k)).2.length - 1, by omega⟩
     rw [hmr] at hd1 hcl' hre hre'
     have HMR := Lib.hid hmr; clear hmr
     have hbl2 : bl < wq.heap.size := cell_lt hl0
     have hbl3 : bl < wq.heap.size + 1 := by omega
     have hbr2 : br < wq.heap.size := cell_lt hr0
     have hbr3 : br < wq.heap.size + 1 := by omega
     go_wp2
     clear hj0 hj1 hj2
     have hp0 := eqS_dec (gS (gE l j).2 m) (gS (gE l ((j + 1) % k)).2 0)
     have HQ : Hid (joinF l k j = eqS (gS (gE l j).2 m).1 (gS (gE l j).2 m).2 (gS (gE l ((j + 1) % k)).2 0).1 (gS (gE l ((j + 1) % k)).2 0).2) := by
      show joinF l k j = _
      unfold joinF
      rw [HM.out, hp0]; rfl
     clear hp0
     have hi0 : 0 ≤ (m : Int) := by omega
     have hi1 : (m : Int) < m + 1 := by omega
     have hi2 : (0 : Int) < (mr : Int) + 1 := by omega
     have hi3 : IntKind.i64.wrap (m : Int) = m := IntWalk.i64_in _ (by omega)
     cases hp : eqS (gS (gE l j).2 m).1 (gS (gE l j).2 m).2 (gS (gE l ((j + 1) % k)).2 0).1 (gS (gE l ((j + 1) % k)).2 0).2
     ·refine wp_region_quiet_lit (by kernel_rfl) (by kernel_rfl) ?_
      repeat (first | go_big_quiet_step (fail) | (go_big_quiet_want; go_simp; go_big_quiet_on))
      refine wpQuiet_nil ?_
      rintro _ ⟨nq, rfl⟩
      go_wp2_with fail
      go_ret
      exact ⟨ret_int (by
       unfold ocheck
       rw [HL.out, if_neg (by omega), if_neg (by omega), if_neg (by rw [HT.out]; simp), if_pos]
       exact allB_false hjk (HQ.out.trans hp)), ((hx.alloc _).alloc _).drewN _⟩
     ·refine wp_region_quiet_lit (by kernel_rfl) (by kernel_rfl) ?_
      repeat (first | go_big_quiet_step (fail) | (go_big_quiet_want; go_simp; go_big_quiet_on))
      refine wpQuiet_nil ?_
      rintro _ ⟨nq, rfl⟩
      go_wp2_with fail
      go_roundw
      case rel => exact ⟨j + 1, by omega, by go_num, allB_succ HJ.out (HQ.out.trans hp), ((hx.alloc _).alloc _).drewN _⟩
      case measure => simp [intOf]; omega
    ·obtain rfl : j = k := by omega
     clear hj hjk
     go_wp2_with fail
     refine (vertices_any A _ c l _ (HA.out.ext hx) HL.out (by omega) (fun q hq => ⟨by have := lens_of HT.out hq; omega, (lens_of HT.out hq).2⟩)).mono ?_
     rintro e w2 ⟨v, rfl, hv, he2⟩
     obtain ⟨V, cv, rfl, hsv, hcv, hcv'⟩ := hv.slice
     have HV := Lib.hid hsv; clear hsv hv
     go_wp2_with fail
     refine (pcheck_any V _ cv (verts l) _ HV.out rfl hcv).mono ?_
     rintro e w3 ⟨rfl, he3⟩
     go_wp2_with fail
     go_ret
     exact ⟨ret_int (by
      unfold ocheck
      rw [HL.out, if_neg (by omega), if_neg (by omega), if_neg (by rw [HT.out]; simp), if_neg (by rw [HJ.out]; decide)]), (hx.trans he2).trans he3⟩
theorem mul_bd {x y B : Int} (h0 : 0 ≤ x) (h1 : x ≤ 39) (h2 : -B ≤ y) (h3 : y ≤ B) : -(39 * B) ≤ x * y ∧ x * y ≤ 39 * B := by
 have hB : 0 ≤ B := by omega
 constructor
 ·have := Int.mul_le_mul_of_nonneg_left h2 h0
  have h4 : x * -B = -(x * B) := by rw [Int.mul_neg]
  have h5 : x * B ≤ 39 * B := Int.mul_le_mul_of_nonneg_right h1 hB
  omega
 ·have := Int.mul_le_mul_of_nonneg_left h3 h0
  have h5 : x * B ≤ 39 * B := Int.mul_le_mul_of_nonneg_right h1 hB
  omega
theorem movedS_get {l : List Spot} {a b : Spot} {k : Nat} (h : k < l.length) : (movedS l a b)[k]'(by rw [movedS_len]; exact h) = mvS l a b k := by simp [movedS]
theorem filled_succ {l : List Spot} {a b : Spot} {n k : Nat} (hl : l.length = n) (h : k < n) :
  ((movedS l a b).take k ++ List.replicate (n - k) (0, 0)).set k (mvS l a b k) = (movedS l a b).take (k + 1) ++ List.replicate (n - (k + 1)) (0, 0) := by
 have hlen : ((movedS l a b).take k).length = k := by rw [List.length_take, movedS_len, hl]; omega
 rw [List.set_append, if_neg (by omega), hlen, Nat.sub_self, take_succ _ _ (by rw [movedS_len]; omega), movedS_get (by omega)]
 rw [show n - k = (n - (k + 1)) + 1 from by omega, List.replicate_succ]
 simp
set_option maxRecDepth 100000 in
set_option maxHeartbeats 1600000 in
theorem moved_any (A : Option Addr) (m c : Nat) (l : List Spot) (a b : Spot) (w : World) (hA : SpotsAt w A l) (hl : l.length = m + 1) (hm : 1 ≤ m) (hm' : m ≤ 39)
  (ha1 : -100000 ≤ a.1 ∧ a.1 ≤ 100000) (ha2 : -100000 ≤ a.2 ∧ a.2 ≤ 100000) (hb1 : -100000 ≤ b.1 ∧ b.1 ≤ 100000) (hb2 : -100000 ≤ b.2 ∧ b.2 ≤ 100000) :
  Calls Tryz.prog 41 #[.slice A (m + 1) c, SV a, SV b] w (RetS w (movedS l a b)) := by
 have HL := Lib.hid hl; clear hl
 have HA := Lib.hid hA; clear hA
 obtain ⟨ax, ay⟩ := a; obtain ⟨bx, b_y⟩ := b
 simp only at ha1 ha2 hb1 hb2
 obtain ⟨ha1, ha1'⟩ := ha1; obtain ⟨ha2, ha2'⟩ := ha2; obtain ⟨hb1, hb1'⟩ := hb1; obtain ⟨hb2, hb2'⟩ := hb2
 have hmk : ∀ W : World, (Instr.makeSlice 38 (.int .i64 ((m : Int) + 1)) (.int .i64 ((m : Int) + 1))).run Tryz.prog W = .ok (.slice (some ⟨W.heap.size, 0, none⟩) (m + 1) (m + 1)) (W.alloc (.cells (scells (List.replicate (m + 1) (0, 0))).toArray 49)) := fun W => by
  have h := make_spots (m + 1) (by omega) W
  rw [made_two] at h
  simpa using h
 go_enter Tryz.func41, Tryz.ntmps41
 obtain ⟨Z, hZ⟩ : ∃ Z, Z = (scells (List.replicate (m + 1) (0, 0))).toArray := ⟨_, rfl⟩
 rw [← hZ] at hmk
 have HZ := Lib.hid hZ; clear hZ
 go_wp2_with fail
 go_loopw [19] (fun i wr => ∃ k : Nat, k ≤ m + 1 ∧ i = .int .i64 k ∧ BlkS wr (w.heap.size + 1 + 1) ((movedS l (ax, ay) (bx, b_y)).take k ++ List.replicate (m + 1 - k) (0, 0)) ∧
   wr.cell? ⟨w.heap.size, 0, none⟩ = some (.int .i64 ax) ∧ wr.cell? ⟨w.heap.size, 1, none⟩ = some (.int .i64 ay) ∧ wr.cell? ⟨w.heap.size + 1, 0, none⟩ = some (.int .i64 bx) ∧ wr.cell? ⟨w.heap.size + 1, 1, none⟩ = some (.int .i64 b_y) ∧ Ext w wr) (fun i _ => m + 1 - (intOf i).toNat)
 case atStart =>
  refine ⟨0, Nat.zero_le _, rfl, ?_, ?_, ?_, ?_, ?_, ?_⟩
  ·rw [HZ.out]
   have h := BlkS.new ((w.alloc (.cells #[.int .i64 ax, .int .i64 ay] 49)).alloc (.cells #[.int .i64 bx, .int .i64 b_y] 49)) (List.replicate (m + 1) (0, 0))
   simpa using h
  ·simp [go_sem]
  ·simp [go_sem]
  ·simp [go_sem]
  ·simp [go_sem]
  ·exact (((Ext.refl w).alloc _).alloc _).alloc _
 case round =>
  obtain ⟨k, hk, rfl, hB, a0, a1, a2, a3, hx⟩ := hrel
  have HB := Lib.hid hB; clear hB
  have hsz : w.heap.size + 1 + 1 < wr.heap.size := HB.out.lt
  have hsz1 : w.heap.size + 1 < wr.heap.size := by omega
  have hsz0 : w.heap.size < wr.heap.size := by omega
  by_cases hlt : k < m + 1
  ·have hkl : k < l.length := by rw [HL.out]; exact hlt
   obtain ⟨b, off, rfl, hc0, hc1⟩ := (HA.out.ext hx).g hkl
   have hlt' : (k : Int) < (m : Int) + 1 := by omega
   obtain ⟨p0, p0'⟩ := mul_bd (x := (m : Int) - k) (y := ax) (B := 100000) (by omega) (by omega) ha1 ha1'
   obtain ⟨p1, p1'⟩ := mul_bd (x := (k : Int)) (y := bx) (B := 100000) (by omega) (by omega) hb1 hb1'
   obtain ⟨p2, p2'⟩ := mul_bd (x := (m : Int) - k) (y := ay) (B := 100000) (by omega) (by omega) ha2 ha2'
   obtain ⟨p3, p3'⟩ := mul_bd (x := (k : Int)) (y := b_y) (B := 100000) (by omega) (by omega) hb2 hb2'
   simp only [Int.reduceMul, Int.reduceNeg] at p0 p0' p1 p1' p2 p2' p3 p3'
   go_wp2_with fail
   refine wp_at fun w0 hw0 => ?_
   have he0 : Ext wr w0 := by rw [hw0]; exact (Ext.refl _).alloc _
   have v0 : w0.cell? ⟨wr.heap.size, 0, none⟩ = some (.int .i64 (gS l k).1) := by rw [hw0]; simp [go_sem]
   have v1 : w0.cell? ⟨wr.heap.size, 1, none⟩ = some (.int .i64 (gS l k).2) := by rw [hw0]; simp [go_sem]
   clear hw0 hc0 hc1
   have d0 := fun z : After w0 => After.cell v0 z
   have d1 := fun z : After w0 => After.cell v1 z
   have d2 := fun z : After w0 => After.cell (he0.cell a0) z
   have d3 := fun z : After w0 => After.cell (he0.cell a1) z
   have d4 := fun z : After w0 => After.cell (he0.cell a2) z
   have d5 := fun z : After w0 => After.cell (he0.cell a3) z
   refine region_tail 36 (by kernel_rfl) (by kernel_rfl) ?_
   simp only [List.take_succ_cons, List.take_zero, List.drop_succ_cons, List.drop_zero]
   repeat (go_big_quiet_step ((go_at_call 71; exact after_same (rounded_any _ _ _ (by omega) (by omega) (by omega) (by omega)))))
   refine wpQuiet_nil ?_
   rintro w1 ⟨⟨_, he⟩, rfl⟩
   clear d0 d1 d2 d3 d4 d5
   have HB1 := Lib.hid ((HB.out.ext he0).ext he)
   have hlen : ((movedS l (ax, ay) (bx, b_y)).take k ++ List.replicate (m + 1 - k) (0, 0)).length = m + 1 := by
    rw [List.length_append, List.length_take, movedS_len, HL.out, List.length_replicate]; omega
   obtain ⟨t0, t1⟩ := HB1.out.at (k := k) (by rw [hlen]; exact hlt)
   have tf0 := HB1.out.frozen (k * 2)
   have tf1 := HB1.out.frozen (k * 2 + 1)
   have b0 := (he0.trans he).cell a0
   have b1 := (he0.trans he).cell a1
   have b2 := (he0.trans he).cell a2
   have b3 := (he0.trans he).cell a3
   have HLN := Lib.hid hlen; clear hlen
   clear a0 a1 a2 a3 v0 v1 p0 p0' p1 p1' p2 p2' p3 p3'
   go_wp2_with fail
   go_roundw
   case rel =>
    refine ⟨k + 1, by omega, by go_num, ?_, ?_, ?_, ?_, ?_, ?_⟩
    ·have h := HB1.out.set k (mvS l (ax, ay) (bx, b_y) k)
     rw [filled_succ HL.out hlt] at h
     have e1 : (mvS l (ax, ay) (bx, b_y) k).1 = wrap64 ((gS l k).1 + rnd (((m : Int) - k) * ax + k * bx) m) := by
      unfold mvS mvx; rw [HL.out]; simp
     have e2 : (mvS l (ax, ay) (bx, b_y) k).2 = wrap64 ((gS l k).2 + rnd (((m : Int) - k) * ay + k * b_y) m) := by
      unfold mvS mvx; rw [HL.out]; simp
     rw [e1, e2] at h
     exact h
    ·rw [World.cell?_setCell_other _ _ _ _ (fun e => by injection e with e; omega), World.cell?_setCell_other _ _ _ _ (fun e => by injection e with e; omega)]; exact b0
    ·rw [World.cell?_setCell_other _ _ _ _ (fun e => by injection e with e; omega), World.cell?_setCell_other _ _ _ _ (fun e => by injection e with e; omega)]; exact b1
    ·rw [World.cell?_setCell_other _ _ _ _ (fun e => by injection e with e; omega), World.cell?_setCell_other _ _ _ _ (fun e => by injection e with e; omega)]; exact b2
    ·rw [World.cell?_setCell_other _ _ _ _ (fun e => by injection e with e; omega), World.cell?_setCell_other _ _ _ _ (fun e => by injection e with e; omega)]; exact b3
    ·exact (((hx.trans he0).trans he).setCell (by simp; omega) _).setCell (by simp; omega) _
   case measure => simp [intOf]; omega
  ·go_wp2_with fail
   go_ret
   refine ⟨_, rfl, ?_, hx⟩
   obtain rfl : k = m + 1 := by omega
   have h := HB.out
   rw [List.take_of_length_le (by rw [movedS_len, HL.out]; omega), Nat.sub_self, List.replicate_zero, List.append_nil] at h
   have h2 := h.own (base := w.heap.size) (by omega) (by rw [movedS_len, HL.out]; omega)
   rw [movedS_len, HL.out] at h2
   exact h2
def cornF (cs : List Spot) (i : Nat) : Bool := decide (-1000 ≤ (gS cs i).1 ∧ (gS cs i).1 ≤ 1000) && decide (-1000 ≤ (gS cs i).2 ∧ (gS cs i).2 ≤ 1000)
def gradedAt (es : List Edge) (cs : List Spot) (m : Int) (i : Nat) : Edge := ((gE es i).1, movedS (gE es i).2 (mulS m (gS cs (i % cs.length))) (mulS m (gS cs ((i + 1) % cs.length))))
def gradedE (es : List Edge) (cs : List Spot) (m : Int) : List Edge := (List.range es.length).map (gradedAt es cs m)
def gradedR (es : List Edge) (cs : List Spot) (m : Int) : Int :=
 if decide (-100 ≤ m ∧ m ≤ 100) = false then 3 else if cs.length ≠ es.length then 1 else if allB (cornF cs) cs.length = false then 3 else if ocheck es ≠ 0 then ocheck es else ocheck (gradedE es cs m)
def RetG (w : World) (es : List Edge) (cs : List Spot) (m : Int) (e : Ending) (w' : World) : Prop :=
 ∃ v, e = .returned (.tuple #[v, .int .i64 (gradedR es cs m)]) ∧ (gradedR es cs m = 0 → OwnE w' w.heap.size v (gradedE es cs m)) ∧ (gradedR es cs m ≠ 0 → v = .slice none 0 0) ∧ Ext w w'
theorem retG_bad {w w' : World} {es : List Edge} {cs : List Spot} {m x : Int} (h : gradedR es cs m = x) (hx : x ≠ 0) (he : Ext w w') : RetG w es cs m (.returned (.tuple #[.slice none 0 0, .int .i64 x])) w' :=
 ⟨_, by rw [h], fun h0 => absurd (h.symm.trans h0) hx, fun _ => rfl, he⟩
theorem gradedE_len (es : List Edge) (cs : List Spot) (m : Int) : (gradedE es cs m).length = es.length := by simp [gradedE]
theorem gradedE_take {es : List Edge} {cs : List Spot} {m : Int} {k : Nat} (h : k < es.length) : (gradedE es cs m).take (k + 1) = (gradedE es cs m).take k ++ [gradedAt es cs m k] := by
 rw [take_succ _ _ (by rw [gradedE_len]; exact h)]; simp [gradedE]
theorem mulS_bd {cs : List Spot} {m : Int} {n j : Nat} (hm : -100 ≤ m ∧ m ≤ 100) (h : allB (cornF cs) n = true) (hj : j < n) :
  (-100000 ≤ (mulS m (gS cs j)).1 ∧ (mulS m (gS cs j)).1 ≤ 100000) ∧ (-100000 ≤ (mulS m (gS cs j)).2 ∧ (mulS m (gS cs j)).2 ≤ 100000) := by
 have h1 := (allB_iff _ _).1 h j hj
 simp only [cornF, Bool.and_eq_true, decide_eq_true_eq] at h1
 have key : ∀ y : Int, -1000 ≤ y ∧ y ≤ 1000 → -100000 ≤ wrap64 (m * y) ∧ wrap64 (m * y) ≤ 100000 := fun y hy => by
  have hb : -100000 ≤ m * y ∧ m * y ≤ 100000 := by
   rcases Int.le_total 0 m with h0 | h0
   ·have a1 := Int.mul_le_mul_of_nonneg_left hy.2 h0
    have a2 := Int.mul_le_mul_of_nonneg_left hy.1 h0
    omega
   ·have a1 := Int.mul_le_mul_of_nonpos_left h0 hy.2
    have a2 := Int.mul_le_mul_of_nonpos_left h0 hy.1
    omega
  rw [IntWalk.wrap64_in _ ⟨by omega, by omega⟩]
  exact hb
 exact ⟨key _ h1.1, key _ h1.2⟩
theorem ocheck_ok {l : List Edge} (h : ocheck l = 0) : 2 ≤ l.length ∧ l.length ≤ 16 ∧ firstE (edgeE l) l.length = 0 := by
 unfold ocheck at h
 split at h
 ·cases h
 ·split at h
  ·cases h
  ·split at h
   ·rename_i h1; exact absurd h h1
   ·rename_i h1; exact ⟨by omega, by omega, by simpa using h1⟩
set_option maxRecDepth 100000 in
set_option maxHeartbeats 3200000 in
theorem graded_any (nm : ByteArray) (AE AN AC AW : Option Addr) (nE cE nN cN nC cC nW cW : Nat) (gr m : Int) (mt : Bool) (es : List Edge) (cs : List Spot) (w : World)
  (hE : EdgesAt w AE es) (hlE : es.length = nE) (hcE : nE ≤ cE) (hcE' : cE ≤ 9223372036854775807) (hC : SpotsAt w AC cs) (hlC : cs.length = nC) (hnC : nC ≤ 9223372036854775807) :
  Calls Tryz.prog 15 #[.agg #[.string nm, .slice AE nE cE, .int .i64 gr, .slice AN nN cN, .slice AC nC cC, .slice AW nW cW, .bool mt], .int .i64 m] w (RetG w es cs m) := by
 have HLE := Lib.hid hlE; clear hlE
 have HLC := Lib.hid hlC; clear hlC
 have HE := Lib.hid hE; clear hE
 have HC := Lib.hid hC; clear hC
 cases hmb : decide (-100 ≤ m ∧ m ≤ 100)
 ·have HR : Hid (gradedR es cs m = 3) := by show gradedR es cs m = 3; unfold gradedR; rw [if_pos hmb]
  go_enter Tryz.func15, Tryz.ntmps15
  go_wp2_with fail
  refine (within_any m 100 _ (by omega) (by omega)).mono ?_
  rintro e w1 ⟨rfl, rfl⟩
  rw [hmb]
  go_wp2_with fail
  go_ret2
  exact retG_bad HR.out (by decide) ((Ext.refl _).alloc _)
 have HM := Lib.hid hmb
 by_cases hnn : nC = nE
 rotate_left
 ·have HR : Hid (gradedR es cs m = 1) := by show gradedR es cs m = 1; unfold gradedR; rw [if_neg (by rw [hmb]; decide), if_pos (by rw [HLE.out, HLC.out]; exact hnn)]
  have hnb : ((nC : Int) != nE) = true := by simp; omega
  go_enter Tryz.func15, Tryz.ntmps15
  go_wp2_with fail
  refine (within_any m 100 _ (by omega) (by omega)).mono ?_
  rintro e w1 ⟨rfl, rfl⟩
  rw [hmb]
  go_wp2_with fail
  go_ret2
  exact retG_bad HR.out (by decide) ((Ext.refl _).alloc _)
 subst hnn
 go_enter Tryz.func15, Tryz.ntmps15
 go_wp2_with fail
 refine (within_any m 100 _ (by omega) (by omega)).mono ?_
 rintro e w1 ⟨rfl, rfl⟩
 rw [hmb]
 clear hmb
 go_wp2_with fail
 refine wp_at fun W0 hW0 => ?_
 have hx0 : Ext w W0 := by rw [hW0]; exact (Ext.refl _).alloc _
 have b1 : W0.cell? ⟨w.heap.size, 1, none⟩ = some (.slice AE nC cE) := by rw [hW0]; simp [go_sem]
 have b4 : W0.cell? ⟨w.heap.size, 4, none⟩ = some (.slice AC nC cC) := by rw [hW0]; simp [go_sem]
 clear hW0
 go_loopw [27] (fun i wr => ∃ k : Nat, k ≤ nC ∧ i = .int .i64 k ∧ allB (cornF cs) k = true ∧ Ext W0 wr) (fun i _ => nC - (intOf i).toNat)
 case atStart => exact ⟨0, Nat.zero_le _, rfl, rfl, Ext.refl _⟩
 case round =>
  obtain ⟨k, hk, rfl, ht, hx⟩ := hrel
  have HT := Lib.hid ht; clear ht
  by_cases hlt : k < nC
  ·have hkl : k < cs.length := by rw [HLC.out]; exact hlt
   obtain ⟨b, off, rfl, hc0, hc1⟩ := (HC.out.ext (hx0.trans hx)).g hkl
   have hR : cornF cs k = false → gradedR es cs m = 3 := fun hf => by
    unfold gradedR
    rw [if_neg (by rw [HM.out]; decide), if_neg (by rw [HLE.out, HLC.out]; simp), if_pos]
    exact allB_false hkl hf
   have HR := Lib.hid hR; clear hR
   go_wp2_with fail
   refine (within_any _ 1000 _ (by omega) (by omega)).mono ?_
   rintro e w1 ⟨rfl, rfl⟩
   cases hp : decide (-1000 ≤ (gS cs k).1 ∧ (gS cs k).1 ≤ 1000)
   ·have HP := Lib.hid hp; clear hp
    go_wp2_with fail
    go_ret2
    exact retG_bad (HR.out (by unfold cornF; rw [HP.out]; rfl)) (by decide) ((hx0.trans hx).alloc _)
   have HP := Lib.hid hp; clear hp
   go_wp2_with fail
   refine (within_any _ 1000 _ (by omega) (by omega)).mono ?_
   rintro e w1 ⟨rfl, rfl⟩
   cases hp : decide (-1000 ≤ (gS cs k).2 ∧ (gS cs k).2 ≤ 1000)
   ·have HQ := Lib.hid hp; clear hp
    go_wp2_with fail
    go_ret2
    exact retG_bad (HR.out (by unfold cornF; rw [HP.out, HQ.out]; rfl)) (by decide) ((hx0.trans hx).alloc _)
   have HQ := Lib.hid hp; clear hp
   go_wp2_with fail
   go_roundw
   case rel => exact ⟨k + 1, by omega, by go_num, allB_succ HT.out (by unfold cornF; rw [HP.out, HQ.out]; rfl), hx.alloc _⟩
   case measure => simp [intOf]; omega
  ·obtain rfl : k = nC := by omega
   clear hlt hk
   have c1 := hx.cell b1
   have c4 := hx.cell b4
   clear b1 b4
   obtain ⟨sb, hsb⟩ : ∃ sb, sb = w.heap.size := ⟨_, rfl⟩
   rw [← hsb] at c1 c4
   rw [← hsb]
   have HSB := Lib.hid hsb; clear hsb
   have hxw : Ext w wr := hx0.trans hx
   clear hx hx0
   go_wp2_with fail
   refine (ocheck_any AE k cE es _ (HE.out.ext hxw) HLE.out hcE hcE').mono ?_
   rintro e w2 ⟨rfl, he2⟩
   have d1 := he2.cell c1
   have d4 := he2.cell c4
   clear c1 c4
   have hxw2 : Ext w w2 := hxw.trans he2
   clear hxw he2
   by_cases hz : ocheck es = 0
   rotate_left
   ·have hzb : (ocheck es != 0) = true := by simp [hz]
    have HZ := Lib.hid hz; clear hz
    go_wp2_with fail
    go_ret2
    exact retG_bad (by unfold gradedR; rw [if_neg (by rw [HM.out]; decide), if_neg (by rw [HLE.out, HLC.out]; simp), if_neg (by rw [HLC.out, HT.out]; decide), if_pos HZ.out]) HZ.out hxw2
   have hzb : (ocheck es != 0) = false := by rw [hz]; rfl
   rw [hz]
   have HZ := Lib.hid hz; clear hz hzb
   have HRr : Hid (gradedR es cs m = ocheck (gradedE es cs m)) := by
    show gradedR es cs m = _
    unfold gradedR; rw [if_neg (by rw [HM.out]; decide), if_neg (by rw [HLE.out, HLC.out]; simp), if_neg (by rw [HLC.out, HT.out]; decide), if_neg (by rw [HZ.out]; simp)]
   obtain ⟨hk2, hk16, hfe⟩ := ocheck_ok HZ.out
   rw [HLE.out] at hk2 hk16 hfe
   have HFE := Lib.hid hfe; clear hfe
   obtain ⟨i0, hi0, hz0, hz1, hz2⟩ := info_parts edge_info
   go_wp2_with fail
   go_loopw [10, 56] (fun v i wr => ∃ j : Nat, j ≤ k ∧ i = .int .i64 j ∧ OwnE wr w.heap.size v ((gradedE es cs m).take j) ∧ Ext w wr) (fun _ i _ => k - (intOf i).toNat)
   case atStart => exact ⟨0, Nat.zero_le _, rfl, OwnE.nil _ _, hxw2⟩
   case round =>
    obtain ⟨wq, rfl⟩ : ∃ wq : World, wq = wr := ⟨_, rfl⟩
    obtain ⟨j, hj, rfl, ho, hxq⟩ := hrel
    by_cases hjk : j < k
    ·have hjl : j < es.length := by rw [HLE.out]; exact hjk
     obtain ⟨b, off, L, cL, rfl, hc0, hc1, hs, hcl, hcm⟩ := (HE.out.ext hxq).g hjl
     obtain ⟨hle, hle'⟩ := lens_of HFE.out hjk
     obtain ⟨mm, hmm⟩ : ∃ mm, (gE es j).2.length = mm + 1 := ⟨(gE es j).2.length - 1, by omega⟩
     rw [hmm] at hc1 hcl hle hle'
     have HMM := Lib.hid hmm; clear hmm
     have HS := Lib.hid hs; clear hs
     obtain ⟨ps, hps, hor⟩ := ho
     have HPS := Lib.hid hps; clear hps
     have HOR := Lib.hid hor; clear hor
     have hlen : ((gradedE es cs m).take j).length = j := by rw [List.length_take, gradedE_len, HLE.out]; omega
     have HLN := Lib.hid hlen; clear hlen
     go_wp2_with fail
     refine wp_at fun w0 hw0 => ?_
     have he0 : Ext wq w0 := by rw [hw0]; exact (Ext.refl _).alloc _
     have v0 : w0.cell? ⟨wq.heap.size, 0, none⟩ = some (.string (gE es j).1) := by rw [hw0]; simp [go_sem]
     have v1 : w0.cell? ⟨wq.heap.size, 1, none⟩ = some (.slice L (mm + 1) cL) := by rw [hw0]; simp [go_sem]
     clear hw0 hc0 hc1
     have keep : ∀ W W1 : World, (Ext w W ∧ W.cell? ⟨wq.heap.size, 0, none⟩ = some (.string (gE es j).1) ∧ W.cell? ⟨wq.heap.size, 1, none⟩ = some (.slice L (mm + 1) cL)) → Ext W W1 → (Ext w W1 ∧ W1.cell? ⟨wq.heap.size, 0, none⟩ = some (.string (gE es j).1) ∧ W1.cell? ⟨wq.heap.size, 1, none⟩ = some (.slice L (mm + 1) cL)) := fun W W1 ⟨h0, h1, h2⟩ hx => ⟨h0.trans hx, hx.cell h1, hx.cell h2⟩
     have KEEP := Lib.hid keep; clear keep
     have keepg : ∀ W W1 : World, (Ext w W ∧ W.cell? ⟨wq.heap.size, 0, none⟩ = some (.string (gE es j).1) ∧ W.cell? ⟨wq.heap.size, 1, none⟩ = some (.slice L (mm + 1) cL)) → W.grownBy W1 u10.ownBlock → (Ext w W1 ∧ W1.cell? ⟨wq.heap.size, 0, none⟩ = some (.string (gE es j).1) ∧ W1.cell? ⟨wq.heap.size, 1, none⟩ = some (.slice L (mm + 1) cL)) := fun W W1 ⟨h0, h1, h2⟩ hg => by
      have hlt := World.ownsRow.lt HOR.out
      have hbw : wq.heap.size < W.heap.size := cell_lt h1
      have hne : some wq.heap.size ≠ u10.ownBlock := fun e => by have := (hlt _ e.symm).2; omega
      exact ⟨h0.grown hg (fun g hg' => (hlt g hg').1), (World.cell?_of_block (hg.block _ hbw hne)).trans h1, (World.cell?_of_block (hg.block _ hbw hne)).trans h2⟩
     have KEEPG := Lib.hid keepg; clear keepg
     have h63 : ((gradedE es cs m).take j).length + 1 ≤ maxLen := by rw [HLN.out]; unfold maxLen; omega
     have h64 : (((gradedE es cs m).take j).length + 1) * 40 ≤ 140737488355328 := by rw [HLN.out]; omega
     have H63 := Lib.hid h63; have H64 := Lib.hid h64; clear h63 h64
     have getw : ∀ W : World, (Ext w W ∧ W.cell? ⟨wq.heap.size, 0, none⟩ = some (.string (gE es j).1) ∧ W.cell? ⟨wq.heap.size, 1, none⟩ = some (.slice L (mm + 1) cL)) → Ext w W := fun W h => h.1
     have GETW := Lib.hid getw; clear getw
     have hbd : ∀ q, q < k → (-100000 ≤ (mulS m (gS cs q)).1 ∧ (mulS m (gS cs q)).1 ≤ 100000) ∧ (-100000 ≤ (mulS m (gS cs q)).2 ∧ (mulS m (gS cs q)).2 ≤ 100000) := fun q hq => mulS_bd (by simpa using HM.out) HT.out hq
     have HBD := Lib.hid hbd; clear hbd
     have HV0 := Lib.hid v0; have HV1 := Lib.hid v1; clear v0 v1
     have hj0 : 0 ≤ (j : Int) := by omega
     have hj0' : (j : Int) ≤ 1000 := by omega
     have hj1 : 0 ≤ (j : Int) + 1 := by omega
     have hj1' : (j : Int) + 1 ≤ 1000 := by omega
     have hq1 : 1 ≤ k := by omega
     have hq2 : k ≤ 1000 := by omega
     have hmm1 : 1 ≤ mm := by omega
     have hmm2 : mm ≤ 39 := by omega
     have hjn1 : ((j : Int) + 1).toNat = j + 1 := by omega
     have hmod0 : j % k < k := Nat.mod_lt _ (by omega)
     have hmod1 : (j + 1) % k < k := Nat.mod_lt _ (by omega)
     have hwr : IntKind.i64.wrap ((j : Int) + 1) = j + 1 := IntWalk.i64_in _ (by omega)
     go_region_held3 (fun W => Ext w W ∧ W.cell? ⟨wq.heap.size, 0, none⟩ = some (.string (gE es j).1) ∧ W.cell? ⟨wq.heap.size, 1, none⟩ = some (.slice L (mm + 1) cL))
      (first | exact KEEP.out w0 _ ⟨hxq.trans he0, HV0.out, HV1.out⟩ (Ext.drew (Ext.refl _)) | exact KEEP.out _ _ ‹_› ‹_› | exact KEEP.out _ _ ‹_› (Ext.alloc (Ext.refl _) _) | exact KEEPG.out _ _ ‹_› hgrow | fail)
      (first
       |(refine step_append_lies _ (by rfl) (.tmp 61) (.tmp 75) 36 (by rfl) w.heap.size 59 i0 (.agg #[.string ⟨#[]⟩, .slice none 0 0]) 2 40 Tryz.underlying36 hi0 hz0 hz1 hz2 rfl (by decide) u10 _ (ecells ps) (by rfl)
          (own_ext HOR.out (Ext.alloc (Ext.trans (Ext.trans (Ext.trans (Ext.drew he0) hxa) hxb) hxm) _)) ⟨wm.heap.size, 0, none⟩ 1 1 [.string (gE es j).1, .slice Am (movedS (gE es j).2 (mulS m (gS cs (j % k))) (mulS m (gS cs ((j + 1) % k)))).length cm] (by rfl) (by rfl)
          (World.news_of_block (cs := #[.string (gE es j).1, .slice Am (movedS (gE es j).2 (mulS m (gS cs (j % k))) (mulS m (gS cs ((j + 1) % k)))).length cm]) (t := 59) (fr := (0, 0)) (heap_alloc_new wm _)) (by simp [Value.oneCell']) (by decide) H63.out H64.out
          (Ext.size (Ext.alloc (Ext.trans hxq (Ext.trans (Ext.trans (Ext.trans (Ext.drew he0) hxa) hxb) hxm)) _)) (wm.heap.size + 1) (by simp) ?_
         intro gg cap wn hown1 hgrow hat hltn)
       |(go_at_call 40; have _t := hxa; refine (corner_int AC k cC _ m cs _ (HC.out.ext (GETW.out _ ‹_›)) HLC.out hq1 hq2 hj1 hj1').mono ?_; rintro e wb ⟨rfl, hxb⟩)
       |(go_at_call 40; refine (corner_int AC k cC _ m cs _ (HC.out.ext (GETW.out _ ‹_›)) HLC.out hq1 hq2 hj0 hj0').mono ?_; rintro e wa ⟨rfl, hxa⟩)
       |(go_at_call 41; refine (moved_any L mm cL (gE es j).2 _ _ _ ((((HS.out.ext he0).ext (Ext.drew (Ext.refl _))).ext hxa).ext hxb) HMM.out hmm1 hmm2 ?q1 ?q2 ?q3 ?q4).mono ?_
         case q1 => exact (HBD.out _ hmod0).1
         case q2 => exact (HBD.out _ hmod0).2
         case q3 => exact (HBD.out _ hmod1).1
         case q4 => exact (HBD.out _ hmod1).2
         rintro e wm ⟨vm, rfl, hvm, hxm⟩
         obtain ⟨Am, cm, rfl, _, _, _⟩ := hvm.slice)
       |fail)
     have hO' : OwnE wn w.heap.size (.slice (some ⟨gg, 0, none⟩) (min j (gradedE es cs m).length + 1) cap) ((gradedE es cs m).take (j + 1)) := by
      have hch : Ext wq (wm.alloc (.cells #[.string (gE es j).1, .slice Am (movedS (gE es j).2 (mulS m (gS cs (j % k))) (mulS m (gS cs ((j + 1) % k)))).length cm] 59)) := Ext.alloc (Ext.trans (Ext.trans (Ext.trans (Ext.drew he0) hxa) hxb) hxm) _
      have hor1 := own_ext HOR.out hch
      have hp1 := (HPS.out.ext hch).grown hor1 (by decide) hgrow
      have hvm1 := ((hvm.ext ((Ext.refl _).alloc _)).grown hor1 (by decide) hgrow).base_le (base' := w.heap.size) (Ext.size (Ext.trans hxq (Ext.trans (Ext.trans (Ext.drew he0) hxa) hxb)))
      rw [gradedE_take hjl]
      refine ⟨ps ++ [((gE es j).1, .slice Am (movedS (gE es j).2 (mulS m (gS cs (j % k))) (mulS m (gS cs ((j + 1) % k)))).length cm)], hp1.snoc (e := gradedAt es cs m j) ⟨rfl, ?_⟩, ?_⟩
      ·have e : (gradedAt es cs m j).2 = movedS (gE es j).2 (mulS m (gS cs (j % k))) (mulS m (gS cs ((j + 1) % k))) := by unfold gradedAt; rw [HLC.out]
       rw [e]; exact hvm1
      ·rw [ecells_append]
       have e2 : ((gradedE es cs m).take j ++ [gradedAt es cs m j]).length = ((gradedE es cs m).take j).length + 1 := by simp
       have e3 : min j (gradedE es cs m).length + 1 = ((gradedE es cs m).take j).length + 1 := by rw [List.length_take]
       rw [e2, e3]
       exact hown1
     have HO' := Lib.hid hO'; clear hO' hown1 hgrow hat hltn hvm hwr
     have hxn : Ext w wn := And.left ‹Ext w wn ∧ _›
     go_wp2_with fail
     exact ⟨⟨j + 1, by omega, by go_num, HO'.out, hxn⟩, by simp [intOf]; omega⟩
    ·have hO : OwnE wq w.heap.size u10 (gradedE es cs m) := by
      rw [List.take_of_length_le (by rw [gradedE_len, HLE.out]; omega)] at ho
      exact ho
     clear ho
     have HO := Lib.hid hO
     obtain ⟨A', cap, rfl, hEA, hcap, hcap'⟩ := hO.slice
     have HEA := Lib.hid hEA; clear hEA hO
     go_wp2_with fail
     refine (ocheck_any A' _ cap (gradedE es cs m) _ HEA.out rfl hcap hcap').mono ?_
     rintro e w3 ⟨rfl, he3⟩
     by_cases hz : ocheck (gradedE es cs m) = 0
     rotate_left
     ·have hzb : (ocheck (gradedE es cs m) != 0) = true := by simp [hz]
      have HZ2 := Lib.hid hz; clear hz
      go_wp2_with fail
      go_ret2
      exact retG_bad HRr.out HZ2.out (hxq.trans he3)
     ·rw [hz]
      have HZ2 := Lib.hid hz; clear hz
      go_wp2_with fail
      go_ret2
      exact ⟨_, by rw [HRr.out, HZ2.out]; rfl, fun _ => HO.out.ext he3, fun h => absurd (HRr.out.trans HZ2.out) h, hxq.trans he3⟩
end Go.Proofs.YtfegbaokcbjllaaGreat
