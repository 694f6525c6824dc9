/- Turned: the numbers. -/
import Derived.Test.YtdjhgnpllnmdmaaK
import Derived.Test.YtdjhgnpllnmdmaaQ4
import Derived.Laws.Bits64
set_option linter.unusedVariables false
set_option linter.unusedSectionVars false
set_option linter.unusedSimpArgs false
namespace Go.Proofs.Ytdjhgnpllnmdmaa
open Go.RowKit

section
variable {P : Program} (w : World)
theorem r_addD (t : TypeId) (x y : Nat) (h : (Q.addD x y).isSome = true) : (binOp .add t (.float .f64 x) (.float .f64 y)).run P w = .ok (.float .f64 ((Q.addD x y).getD 0)) w := by
  obtain ⟨r, hr⟩ := Option.isSome_iff_exists.1 h
  rw [hr]
  exact run_float_arith w .add t .f64 x y r (Q.addD_eq hr)
theorem r_subD (t : TypeId) (x y : Nat) (h : (Q.subD x y).isSome = true) : (binOp .sub t (.float .f64 x) (.float .f64 y)).run P w = .ok (.float .f64 ((Q.subD x y).getD 0)) w := by
  obtain ⟨r, hr⟩ := Option.isSome_iff_exists.1 h
  rw [hr]
  exact run_float_arith w .sub t .f64 x y r (Q.subD_eq hr)
theorem r_mulD (t : TypeId) (x y : Nat) (h : (Q.mulD x y).isSome = true) : (binOp .mul t (.float .f64 x) (.float .f64 y)).run P w = .ok (.float .f64 ((Q.mulD x y).getD 0)) w := by
  obtain ⟨r, hr⟩ := Option.isSome_iff_exists.1 h
  rw [hr]
  exact run_float_arith w .mul t .f64 x y r (Q.mulD_eq hr)
theorem r_divD (t : TypeId) (x y : Nat) (h : (Q.divD' x y).isSome = true) : (binOp .quo t (.float .f64 x) (.float .f64 y)).run P w = .ok (.float .f64 ((Q.divD' x y).getD 0)) w := by
  obtain ⟨r, hr⟩ := Option.isSome_iff_exists.1 h
  rw [hr]
  exact run_float_arith w .quo t .f64 x y r (Q.divD_eq hr)
theorem r_addS (t : TypeId) (x y : Nat) (h : (Q.addS x y).isSome = true) : (binOp .add t (.float .f32 x) (.float .f32 y)).run P w = .ok (.float .f32 ((Q.addS x y).getD 0)) w := by
  obtain ⟨r, hr⟩ := Option.isSome_iff_exists.1 h
  rw [hr]
  exact run_float_arith w .add t .f32 x y r (Q.addS_eq hr)
theorem r_subS (t : TypeId) (x y : Nat) (h : (Q.subS x y).isSome = true) : (binOp .sub t (.float .f32 x) (.float .f32 y)).run P w = .ok (.float .f32 ((Q.subS x y).getD 0)) w := by
  obtain ⟨r, hr⟩ := Option.isSome_iff_exists.1 h
  rw [hr]
  exact run_float_arith w .sub t .f32 x y r (Q.subS_eq hr)
theorem r_mulS (t : TypeId) (x y : Nat) (h : (Q.mulS x y).isSome = true) : (binOp .mul t (.float .f32 x) (.float .f32 y)).run P w = .ok (.float .f32 ((Q.mulS x y).getD 0)) w := by
  obtain ⟨r, hr⟩ := Option.isSome_iff_exists.1 h
  rw [hr]
  exact run_float_arith w .mul t .f32 x y r (Q.mulS_eq hr)
theorem r_divS (t : TypeId) (x y : Nat) (h : (Q.divS x y).isSome = true) : (binOp .quo t (.float .f32 x) (.float .f32 y)).run P w = .ok (.float .f32 ((Q.divS x y).getD 0)) w := by
  obtain ⟨r, hr⟩ := Option.isSome_iff_exists.1 h
  rw [hr]
  exact run_float_arith w .quo t .f32 x y r (Q.divS_eq hr)
theorem r_neg (k : FloatKind) (z : Nat) : (Op.unary .neg (.float k z)).run P w = .ok (.float k (Op.negFloat k z)) w := rfl
theorem r_wide (x : Nat) (h : (Q.wide x).isSome = true) : (convert 25 40 (.float .f32 x)).run Try.prog w = .ok (.float .f64 ((Q.wide x).getD 0)) w := by
  obtain ⟨r, hr⟩ := Option.isSome_iff_exists.1 h
  rw [hr]
  exact run_convert_float_float w 25 40 .f32 .f64 x r (by rw [Try.underlying25]; rfl) Try.underlying40 (Q.wide_eq hr)
theorem r_narrow (x : Nat) (h : (Q.narrow x).isSome = true) : (convert 40 25 (.float .f64 x)).run Try.prog w = .ok (.float .f32 ((Q.narrow x).getD 0)) w := by
  obtain ⟨r, hr⟩ := Option.isSome_iff_exists.1 h
  rw [hr]
  exact run_convert_float_float w 40 25 .f64 .f32 x r (by rw [Try.underlying40]; rfl) Try.underlying25 (Q.narrow_eq hr)
end
attribute [local go_sem] r_addD r_subD r_mulD r_divD r_addS r_subS r_mulS r_divS r_wide r_narrow w_store

theorem ext_bits64 (b : Nat) : ∀ w : World, (callFunc 54 #[.float .f64 b]).run Try.prog w = .ok (.value (.int .u64 b)) w := by
  intro w
  rw [run_callFunc_extern (e := Extern.MathFloatBits.float64bits) Try.func54 (by kernel_rfl) (by kernel_rfl) (by kernel_rfl) (by kernel_rfl)]
  rfl
theorem ext_from64 (b : Nat) (hb : b < 18446744073709551616) : ∀ w : World, (callFunc 53 #[.int .u64 b]).run Try.prog w = .ok (.value (.float .f64 b)) w := by
  intro w
  rw [run_callFunc_extern (e := Extern.MathFloatBits.float64frombits) Try.func53 (by kernel_rfl) (by kernel_rfl) (by kernel_rfl) (by kernel_rfl)]
  rfl

open Ieee in
/-- a number below one, cut -/
theorem cut_below (t : Nat) (ht : t < 4607182418800017408) : FloatKind.f64.encode ((FloatKind.f64.decode t).integral .zero) = 0 := by
  obtain ⟨k1, k2, k3, k4, k5⟩ := Q.cD
  have hm : t % 9223372036854775808 = t := Nat.mod_eq_of_lt (by omega)
  have hd : t / 9223372036854775808 = 0 := Nat.div_eq_of_lt (by omega)
  have hr : FloatKind.f64.decode t = _ := Q.read_fin double t (by rw [k4, k3, hm]; omega)
  rw [k4, k2, k5, hm, hd] at hr
  rw [hr]
  have hb : t / 4503599627370496 ≤ 1022 := by omega
  have hmag : Q.sig 4503599627370496 (t / 4503599627370496) t < 2 ^ 53 := by
    unfold Q.sig
    by_cases h0 : t / 4503599627370496 = 0
    · rw [h0]
      show t < 2 ^ 53
      omega
    · rw [Q.beq_false h0, cond_false]
      have h1 : Nat.mod t 4503599627370496 < 4503599627370496 := Nat.mod_lt t (by decide)
      show 4503599627370496 + Nat.mod t 4503599627370496 < 2 ^ 53
      omega
  generalize Q.sig 4503599627370496 (t / 4503599627370496) t = m at *
  generalize t / 4503599627370496 = b at *
  have e1 : (-1074 + ((b - 1 : Nat) : Int)).toNat = 0 := by omega
  have e2 : (-(-1074 + ((b - 1 : Nat) : Int))).toNat = 1074 - (b - 1) := by omega
  have hc : ∀ s, Toward.zero.cut s (m <<< (-1074 + ((b - 1 : Nat) : Int)).toNat) (-(-1074 + ((b - 1 : Nat) : Int))).toNat = 0 := by
    intro s
    rw [e1, e2, Nat.shiftLeft_zero]
    unfold Toward.cut
    simp only [Nat.one_shiftLeft]
    have hlt : m < 2 ^ min (1074 - (b - 1)) (m.log2 + 2) := by
      by_cases h : 1074 - (b - 1) ≤ m.log2 + 2
      · rw [Nat.min_eq_left h]
        exact Nat.lt_of_lt_of_le hmag (Nat.pow_le_pow_right (by decide) (by omega))
      · rw [Nat.min_eq_right (by omega)]
        exact Nat.lt_of_lt_of_le Nat.lt_log2_self (Nat.pow_le_pow_right (by decide) (by omega))
    rw [Nat.div_eq_of_lt hlt]
    rfl
  show double.write (Datum.number _ _ 0) = 0
  rw [hc]
  rfl
theorem ext_trunc (t : Nat) (ht : t < 4607182418800017408) : ∀ w : World, (callFunc 63 #[.float .f64 t]).run Try.prog w = .ok (.value (.float .f64 0)) w := by
  intro w
  rw [run_callFunc_extern (e := Extern.MathFloor.toIntegral "math.archTrunc" .zero) Try.func63 (by kernel_rfl) (by kernel_rfl) (by kernel_rfl) (by kernel_rfl)]
  have hc := cut_below t ht
  obtain ⟨k1, k2, k3, k4, k5⟩ := Q.cD
  have hm : t % 9223372036854775808 = t := Nat.mod_eq_of_lt (by omega)
  have hr : FloatKind.f64.decode t = _ := Q.read_fin Ieee.double t (by rw [k4, k3, hm]; omega)
  have hp : Extern.MathFloor.toIntegral "math.archTrunc" .zero #[.float .f64 t] = pure (.float .f64 0) := by
    show ((match FloatKind.f64.decode t with
      | .nan s u => if FloatKind.f64.format.quiet u = u then pure (Value.float .f64 t) else (do
        let kept ← choose (.extern "math.Floor,Ceil,Trunc,RoundToEven.signallingNaN kept" 2)
        pure (Value.float .f64 (if kept == 1 then t else FloatKind.f64.encode (.nan s (FloatKind.f64.format.quiet u)))))
      | d => pure (Value.float .f64 (FloatKind.f64.encode (d.integral .zero)))) : Sem Value) = pure (Value.float .f64 0)
    rw [hr] at hc ⊢
    simp only []
    rw [hc]
  rw [hp]
  rfl

theorem c_Trunc (t : Nat) (ht : t < 4607182418800017408) (w : World) :
    Calls Try.prog 55 #[.float .f64 t] w fun e w' => e = .returned (.float .f64 0) ∧ w' = w := by
  have hx := ext_trunc t ht
  go_enter Try.func55, Try.ntmps55
  go_wp2_with fail
  go_ret
  exact ⟨rfl, rfl⟩

theorem ordD_self0 : FloatKind.f64.format.order 0 0 = some .eq := by decide +kernel
theorem ord_ge0 (t : Nat) (ht : t < 9218868437227405312) : FloatKind.f64.format.order t 0 = some .gt ∨ FloatKind.f64.format.order t 0 = some .eq := by
  obtain ⟨k1, k2, k3, k4, k5⟩ := Q.cD
  have hm : t % 9223372036854775808 = t := Nat.mod_eq_of_lt (by omega)
  have hd : t / 9223372036854775808 = 0 := Nat.div_eq_of_lt (by omega)
  have hr : FloatKind.f64.decode t = _ := Q.read_fin Ieee.double t (by rw [k4, k3, hm]; omega)
  rw [k4, k2, k5, hm, hd] at hr
  have h0 : FloatKind.f64.decode 0 = .number false 0 (-1074) := by decide +kernel
  show Ieee.Datum.order (FloatKind.f64.decode t) (FloatKind.f64.decode 0) = _ ∨ Ieee.Datum.order (FloatKind.f64.decode t) (FloatKind.f64.decode 0) = _
  rw [hr, h0]
  unfold Ieee.Datum.order
  simp only []
  have hs : ∀ n k : Nat, compare (Ieee.signed (0 % 2 == 1) n k) (Ieee.signed false 0 0) = .gt ∨ compare (Ieee.signed (0 % 2 == 1) n k) (Ieee.signed false 0 0) = .eq := by
    intro n k
    show compare ((n <<< k : Nat) : Int) 0 = .gt ∨ compare ((n <<< k : Nat) : Int) 0 = .eq
    rcases Nat.eq_zero_or_pos (n <<< k) with h | h
    · right; rw [h]; rfl
    · left; exact Int.compare_eq_gt.2 (by omega)
  have hz : ∀ k : Nat, Ieee.signed false 0 k = Ieee.signed false 0 0 := by intro k; unfold Ieee.signed; simp
  rw [hz]
  rcases hs (Q.sig 4503599627370496 (t / 4503599627370496) t) ((-1074 + ((t / 4503599627370496 - 1 : Nat) : Int)) - min (-1074 + ((t / 4503599627370496 - 1 : Nat) : Int)) (-1074)).toNat with h | h
  · left; rw [h]
  · right; rw [h]
theorem c_partOf (t : Nat) (ht : t < 4607182418800017408) (w : World) :
    Calls Try.prog 42 #[.float .f64 t] w fun e w' => e = .returned (.float .f64 t) ∧ w' = w := by
  have HT := hid (c_Trunc t ht w)
  have h00 := ordD_self0
  rcases ord_ge0 t (by omega) with h | h
  · go_enter Try.func42, Try.ntmps42
    go_wp2_with fail
    refine HT.out.mono ?_
    rintro e w' ⟨rfl, rfl⟩
    go_wp2_with fail
    go_ret
    exact ⟨rfl, rfl⟩
  · go_enter Try.func42, Try.ntmps42
    go_wp2_with fail
    refine HT.out.mono ?_
    rintro e w' ⟨rfl, rfl⟩
    go_wp2_with fail
    go_ret
    exact ⟨rfl, rfl⟩
end Go.Proofs.Ytdjhgnpllnmdmaa
