/- Basins: small contracts. -/
import Derived.Test.YtihknapgdkladaaK
set_option linter.unusedSimpArgs false
set_option linter.unusedVariables false
set_option linter.unusedSectionVars false
namespace Go.Proofs.Ytihknapgdkladaa
open Go.RowKit Fl
attribute [local go_sem] w_add w_sub w_mul w_store

/-! ## numbers -/
theorem num_zero : Num Ieee.single 0 := ⟨false, 0, -149, by decide⟩
theorem fv_zero : fv Ieee.single 0 = 0 := by
  have h : Ieee.single.read 0 = .number false 0 (-149) := by decide
  rw [fv_num h]; simp
theorem sub_self_fin {x : Nat} (h : Num Ieee.single x) : (Ieee.single.order (fsub Ieee.single x x) 0 == some .eq) = true := by
  have hp := pw_pos 127
  have r := sub_rnd okS h h (by grind) (by grind)
  have h0 : fv Ieee.single (fsub Ieee.single x x) = 0 := by
    have := r.nonneg (by grind); have := r.nonpos (by grind); grind
  rw [order_num r.num num_zero, h0, fv_zero]
  simp
theorem not_nan {x : Nat} (h : Num Ieee.single x) : (Ieee.single.order x x != some .eq) = false := by
  rw [order_num h h]; simp

set_option maxHeartbeats 400000 in
theorem c_in (n l h : Int) (w : World) :
    Calls Try.prog 38 #[.int .i64 n, .int .i64 l, .int .i64 h] w fun e w' => e = .returned (.bool (decide (l ≤ n) && decide (n ≤ h))) ∧ w = w' := by
  by_cases h1 : l ≤ n
  · go_enter Try.func38, Try.ntmps38
    go_wp2
    go_ret
    exact ⟨by simp [h1], rfl⟩
  · go_enter Try.func38, Try.ntmps38
    go_wp2
    go_ret
    exact ⟨by simp; omega, rfl⟩

set_option maxHeartbeats 400000 in
theorem c_in_yes (n l h : Int) (w : World) (h1 : l ≤ n) (h2 : n ≤ h) :
    Calls Try.prog 38 #[.int .i64 n, .int .i64 l, .int .i64 h] w fun e w' => e = .returned (.bool true) ∧ w = w' :=
  (c_in n l h w).mono fun _ _ ⟨he, hw⟩ => ⟨by rw [he]; simp [h1, h2], hw⟩

set_option maxHeartbeats 400000 in
theorem c_sideOk (n : Int) (w : World) (h1 : 3 ≤ n) (h2 : n ≤ 16) :
    Calls Try.prog 42 #[.int .i64 n] w fun e w' => e = .returned (.bool true) ∧ w = w' := by
  go_enter Try.func42, Try.ntmps42
  go_wp2_with (go_at_call 38; refine (c_in_yes _ _ _ _ h1 h2).mono ?_; rintro e w' ⟨rfl, rfl⟩)
  go_ret
  exact ⟨rfl, rfl⟩

set_option maxHeartbeats 400000 in
theorem c_isNaN (x : Nat) (w : World) (h : Num Ieee.single x) :
    Calls Try.prog 75 #[.float .f32 x] w fun e w' => e = .returned (.bool false) ∧ w = w' := by
  have hn := not_nan h
  go_enter Try.func75, Try.ntmps75
  go_wp2
  go_ret
  exact ⟨congrArg (fun b => Ending.returned (.bool b)) hn, rfl⟩

set_option maxHeartbeats 400000 in
theorem c_IsFinite (x : Nat) (w : World) (h : Num Ieee.single x) :
    Calls Try.prog 50 #[.float .f32 x] w fun e w' => e = .returned (.bool true) ∧ w = w' := by
  have hn := sub_self_fin h
  go_enter Try.func50, Try.ntmps50
  go_wp2
  go_ret
  exact ⟨congrArg (fun b => Ending.returned (.bool b)) hn, rfl⟩

set_option maxHeartbeats 400000 in
theorem c_finite1 (x : Nat) (w : World) (h : Num Ieee.single x) :
    Calls Try.prog 68 #[.float .f32 x] w fun e w' => e = .returned (.bool false) ∧ w = w' := by
  go_enter Try.func68, Try.ntmps68
  go_wp2_with (go_at_call 50; refine (c_IsFinite _ _ h).mono ?_; rintro e w' ⟨rfl, rfl⟩)
  go_ret
  exact ⟨rfl, rfl⟩

set_option maxHeartbeats 400000 in
theorem c_toldNumber (x : Nat) (w : World) (h : Num Ieee.single x) :
    Calls Try.prog 36 #[.float .f32 x] w fun e w' => e = .returned (.tuple #[.float .f32 x, .bool true]) ∧ w = w' := by
  go_enter Try.func36, Try.ntmps36
  go_wp2_with (go_at_call 50; refine (c_IsFinite _ _ h).mono ?_; rintro e w' ⟨rfl, rfl⟩)
  go_ret2
  exact ⟨rfl, rfl⟩

/-! ## places -/
theorem wrap_small (x : Int) (h : -9000000000000000000 ≤ x) (h' : x ≤ 9000000000000000000) : wrap64 x = x := by unfold wrap64; omega
theorem place_one (x W : Int) (hW : 3 ≤ W) (hW' : W ≤ 16) : wrap64 (x.tmod W + W) = x.tmod W + W ∧ (x.tmod W + W).tmod W = x % W := by
  have h1 := Int.tmod_lt_of_pos x (show 0 < W by omega)
  have h2 := Int.lt_tmod_of_pos x (show 0 < W by omega)
  refine ⟨wrap_small _ (by omega) (by omega), ?_⟩
  rw [Int.tmod_eq_emod_of_nonneg (by omega), Int.add_emod_right]
  have h3 := Int.mul_tdiv_add_tmod x W
  conv => rhs; rw [← h3]
  rw [Int.add_comm, Int.add_mul_emod_self_left]
theorem place_num (x y W H : Int) (hW : 3 ≤ W) (hW' : W ≤ 16) (hH : 3 ≤ H) (hH' : H ≤ 16) :
    wrap64 ((wrap64 (x.tmod W + W)).tmod W + wrap64 (W * (wrap64 (y.tmod H + H)).tmod H)) = x % W + W * (y % H) := by
  obtain ⟨a1, a2⟩ := place_one x W hW hW'
  obtain ⟨b1, b2⟩ := place_one y H hH hH'
  rw [a1, a2, b1, b2]
  have h1 := Int.emod_nonneg x (show W ≠ 0 by omega)
  have h2 := Int.emod_lt_of_pos x (show 0 < W by omega)
  have h3 := Int.emod_nonneg y (show H ≠ 0 by omega)
  have h4 := Int.emod_lt_of_pos y (show 0 < H by omega)
  have h5 : 0 ≤ W * (y % H) := Int.mul_nonneg (by omega) h3
  have h6 : W * (y % H) ≤ 16 * 16 := Int.mul_le_mul hW' (by omega) h3 (by omega)
  rw [wrap_small (W * (y % H)) (by omega) (by omega), wrap_small _ (by omega) (by omega)]

/-- the index of a place, as a number -/
def plc (W H : Nat) (x y : Int) : Nat := (x % W + W * (y % H)).toNat
theorem plc_cast (W H : Nat) (x y : Int) (hW : 3 ≤ W) (hH : 3 ≤ H) : (plc W H x y : Int) = x % W + W * (y % H) ∧ plc W H x y < W * H := by
  have h1 := Int.emod_nonneg x (show (W : Int) ≠ 0 by omega)
  have h2 := Int.emod_lt_of_pos x (show 0 < (W : Int) by omega)
  have h3 := Int.emod_nonneg y (show (H : Int) ≠ 0 by omega)
  have h4 := Int.emod_lt_of_pos y (show 0 < (H : Int) by omega)
  have h5 : 0 ≤ (W : Int) * (y % H) := Int.mul_nonneg (by omega) h3
  have h6 : (W : Int) * (y % H) ≤ W * (H - 1) := Int.mul_le_mul_of_nonneg_left (by omega) (by omega)
  have h7 : ((plc W H x y : Nat) : Int) = x % W + W * (y % H) := by unfold plc; omega
  refine ⟨h7, ?_⟩
  have h8 : (W : Int) * (H - 1) = W * H - W := by rw [Int.mul_sub, Int.mul_one]
  have h9 : ((W * H : Nat) : Int) = W * H := Int.natCast_mul W H
  omega

set_option maxHeartbeats 400000 in
theorem c_place (g : Nat) (W H : Nat) (x y : Int) (w : World) (h0 : w.cell? ⟨g, 0, none⟩ = some (.int .i64 W)) (h1 : w.cell? ⟨g, 1, none⟩ = some (.int .i64 H))
    (hW : 3 ≤ W) (hW' : W ≤ 16) (hH : 3 ≤ H) (hH' : H ≤ 16) :
    Calls Try.prog 48 #[.pointer (some ⟨g, 0, none⟩), .int .i64 x, .int .i64 y] w fun e w' => e = .returned (.int .i64 (plc W H x y)) ∧ ∃ n, w' = w.drewN n := by
  go_enter Try.func48, Try.ntmps48
  go_wp2_with fail
  go_quiet (fail)
  go_wp2
  go_ret
  refine ⟨?_, _, rfl⟩
  rw [(plc_cast W H x y hW hH).1]
  exact congrArg (fun n => Ending.returned (.int .i64 n)) (place_num x y W H (by omega) (by omega) (by omega) (by omega))

/-- what lies at a place -/
def bat (W H : Nat) (l : List Nat) (x y : Int) : Nat := l.getD (plc W H x y) 0

set_option maxHeartbeats 800000 in
theorem c_at (g : Nat) (W H b off n c : Nat) (l : List Nat) (x y : Int) (w : World) (hb : BasP w g W H b off n c l)
    (hW : 3 ≤ W) (hW' : W ≤ 16) (hH : 3 ≤ H) (hH' : H ≤ 16) (hn : W * H ≤ n) (hl : W * H ≤ l.length) :
    Calls Try.prog 34 #[.pointer (some ⟨g, 0, none⟩), .int .i64 x, .int .i64 y] w fun e w' => e = .returned (.float .f32 (bat W H l x y)) ∧ ∃ n, w' = w.drewN n := by
  obtain ⟨p1, p2⟩ := plc_cast W H x y hW hH
  have h0 := hb.c0
  have h1 := hb.c1
  have h2 := hb.c2
  have hc : w.cell? ⟨b, off + plc W H x y, none⟩ = some (.float .f32 (bat W H l x y)) := hb.row.2 _ (by omega)
  have hlt : (plc W H x y : Int) < n := by omega
  have hge : (0 : Int) ≤ plc W H x y := by omega
  have hpl : ∀ wx : World, wx.cell? ⟨g, 0, none⟩ = some (.int .i64 W) → wx.cell? ⟨g, 1, none⟩ = some (.int .i64 H) → Calls Try.prog 48 #[.pointer (some ⟨g, 0, none⟩), .int .i64 x, .int .i64 y] wx fun e w' => e = .returned (.int .i64 (plc W H x y)) ∧ ∃ n, w' = wx.drewN n :=
    fun wx q0 q1 => c_place g W H x y wx q0 q1 hW hW' hH hH'
  have HP := hid hpl
  clear hpl p1 p2 hb hn hl
  generalize plc W H x y = i at *
  generalize bat W H l x y = r at *
  go_enter Try.func34, Try.ntmps34
  go_wp2_with fail
  go_quiet ((go_at_call 48; exact Calls.quiet_of (HP.out _ h0 h1)))
  go_wp2
  go_ret
  exact ⟨rfl, _, rfl⟩
end Go.Proofs.Ytihknapgdkladaa
