/- Turned: sines. -/
import Derived.Test.YtdjhgnpllnmdmaaT1
set_option linter.unusedVariables false
set_option linter.unusedSectionVars false
set_option linter.unusedSimpArgs false
namespace Go.Proofs.Ytdjhgnpllnmdmaa
open Go.RowKit
attribute [local go_sem] r_addD r_subD r_mulD r_divD r_addS r_subS r_mulS r_divS r_wide r_narrow w_store r_neg
attribute [local go_sem ↓] Go.wp_at_zero Go.wp_at_succ

theorem andNot63 (b : Nat) (hb : b < 18446744073709551616) : bits BinOp.andNot IntKind.u64 (b : Int) 9223372036854775808 = ((b % 9223372036854775808 : Nat) : Int) := by
  have h1 : bits BinOp.andNot IntKind.u64 (b : Int) 9223372036854775808 = IntKind.u64.wrap ((BitVec.ofInt 64 b &&& ~~~ BitVec.ofInt 64 9223372036854775808).toNat : Int) := rfl
  rw [h1]
  have h2 : (BitVec.ofInt 64 (b : Int) &&& ~~~ BitVec.ofInt 64 9223372036854775808).toNat = b % 9223372036854775808 := by
    rw [BitVec.toNat_and]
    have e1 : (BitVec.ofInt 64 (b : Int)).toNat = b := by
      rw [BitVec.toNat_ofInt]
      omega
    have e2 : (~~~ BitVec.ofInt 64 9223372036854775808).toNat = 2 ^ 63 - 1 := by decide
    rw [e1, e2, Nat.and_two_pow_sub_one_eq_mod]
  rw [h2]
  simp only [IntKind.wrap_u64]
  omega
theorem c_Abs (b : Nat) (hb : b < 18446744073709551616) (w : World) :
    Calls Try.prog 41 #[.float .f64 b] w fun e w' => e = .returned (.float .f64 (b % 9223372036854775808)) ∧ w' = w := by
  have h1 := ext_bits64 b
  have h2 := ext_from64 (b % 9223372036854775808) (by omega)
  have hc : ((b % 9223372036854775808 : Nat) : Int) = (b : Int) % 9223372036854775808 := by omega
  have h3 := andNot63 b hb
  rw [hc] at h2 h3
  clear hc
  go_enter Try.func41, Try.ntmps41
  go_wp2_with fail
  go_ret
  exact ⟨rfl, rfl⟩
theorem c_Sqrt (x r : Nat) (h : Q.sqrt x = some r) (w : World) :
    Calls Try.prog 58 #[.float .f64 x] w fun e w' => e = .returned (.float .f64 r) ∧ w' = w := by
  have hx : ∀ w : World, (callFunc 66 #[.float .f64 x]).run Try.prog w = .ok (.value (.float .f64 r)) w := by
    intro w
    rw [run_callFunc_extern (e := Extern.MathSqrt.sqrt) Try.func66 (by kernel_rfl) (by kernel_rfl) (by kernel_rfl) (by kernel_rfl)]
    have hs : FloatKind.f64.format.sqrt x = some r := Q.sqrt_eq x r h
    have hp : Extern.MathSqrt.sqrt #[.float .f64 x] = pure (Value.float .f64 r) := by
      show ((match FloatKind.f64.format.sqrt x with
        | some r => pure (Value.float .f64 r)
        | none => do pure (Value.float .f64 (← choose (.nanBits .f64 x x)))) : Sem Value) = pure (Value.float .f64 r)
      rw [hs]
    rw [hp]
    rfl
  go_enter Try.func58, Try.ntmps58
  go_wp2_with fail
  go_ret
  exact ⟨rfl, rfl⟩

/-! ## the sine -/
def ifO {α : Type} (b : Bool) (x y : α) : α := cond b x y
def sineLoop (u : Nat) : Nat → Nat → Option Nat
  | 0, p => some p
  | k + 1, p => (Q.mulD u p).bind fun a => (Q.divD' a (Q.ofNatD (2 * (k + 1) * (2 * (k + 1) + 1)))).bind fun b => (Q.subD 4607182418800017408 b).bind fun q => sineLoop u k q
def neg64 (r : Nat) : Nat := Op.negFloat .f64 r
def isLt (o : Ordering) : Bool := match o with | .lt => true | _ => false
def isGt (o : Ordering) : Bool := match o with | .gt => true | _ => false
def sineB (neg : Bool) (f2 : Nat) : Option Nat :=
  (Q.mulD f2 4618760256179416344).bind fun z => (Q.mulD z z).bind fun u => (sineLoop u 8 4607182418800017408).bind fun p => (Q.mulD z p).bind fun r => some (cond neg (neg64 r) r)
def sineA (neg : Bool) (f1 : Nat) : Option Nat :=
  (Q.ordD f1 4598175219545276416).bind fun o2 => (cond (isGt o2) (Q.subD 4602678819172646912 f1) (some f1)).bind fun f2 => sineB neg f2
def sineO (t : Nat) : Option Nat :=
  cond (Nat.ble 4607182418800017408 t) none
    ((Q.ordD t 4602678819172646912).bind fun o1 => (cond (isLt o1) (some t) (Q.subD t 4602678819172646912)).bind fun f1 => sineA (!isLt o1) f1)

theorem bind_some {α β : Type} {o : Option α} {f : α → Option β} {r : β} (h : o.bind f = some r) : ∃ a, o = some a ∧ f a = some r := Option.bind_eq_some_iff.1 h
theorem ofNatD_f (k : Nat) : floatOfInt .f64 (k : Int) = Q.ofNatD k := Q.ofNatD_eq k
theorem ofNatS_f (k : Nat) : floatOfInt .f32 (k : Int) = Q.ofNatS k := Q.ofNatS_eq k

theorem sineLoop_step (u k p : Nat) (hk : 1 ≤ k) : sineLoop u k p = (Q.mulD u p).bind fun a => (Q.divD' a (Q.ofNatD (2 * k * (2 * k + 1)))).bind fun b => (Q.subD 4607182418800017408 b).bind fun q => sineLoop u (k - 1) q := by
  obtain ⟨j, rfl⟩ : ∃ j, k = j + 1 := ⟨k - 1, by omega⟩
  rfl

set_option maxHeartbeats 4000000 in
theorem c_sineB (f1 f2 r : Nat) (o1 o2 : Ordering) (t : Nat) (w : World) (ht : t < 4607182418800017408)
    (h1 : Q.ordD t 4602678819172646912 = some o1) (h2 : cond (isLt o1) (some t) (Q.subD t 4602678819172646912) = some f1)
    (h3 : Q.ordD f1 4598175219545276416 = some o2) (h4 : cond (isGt o2) (Q.subD 4602678819172646912 f1) (some f1) = some f2) (h5 : sineB (!isLt o1) f2 = some r) :
    Calls Try.prog 43 #[.float .f64 t] w fun e w' => e = .returned (.float .f64 r) ∧ w' = w := by
  have HP := hid (c_partOf t ht w)
  have k1 : FloatKind.f64.format.order t 4602678819172646912 = some o1 := Q.ordD_eq h1
  have k3 : FloatKind.f64.format.order f1 4598175219545276416 = some o2 := Q.ordD_eq h3
  unfold sineB at h5
  obtain ⟨z, hz, h5⟩ := bind_some h5
  obtain ⟨u, hu, h5⟩ := bind_some h5
  obtain ⟨p, hp, h5⟩ := bind_some h5
  obtain ⟨q, hq, h5⟩ := bind_some h5
  have HPP := hid hp
  have H5 := hid h5
  clear h1 h3 hp h5 ht
  cases o1 <;> cases o2 <;> simp only [isLt, isGt, cond_true, cond_false, Option.some.injEq] at h2 h4 <;> (try subst h2) <;> (try subst h4)
  all_goals
    go_enter Try.func43, Try.ntmps43
    go_wp2_with fail
    refine HP.out.mono ?_
    rintro e w' ⟨rfl, rfl⟩
    go_wp2_with fail
    go_loop [7, 8] (fun a b => ∃ k pk : Nat, k ≤ 8 ∧ b = .int .i64 k ∧ a = .float .f64 pk ∧ sineLoop u k pk = some p) (fun _ b => (intOf b).toNat)
    case atStart => exact ⟨8, _, Nat.le_refl _, rfl, rfl, HPP.out⟩
    case round =>
      obtain ⟨k, pk, hk, rfl, rfl, hl⟩ := hrel
      by_cases hk0 : 1 ≤ k
      · rw [sineLoop_step _ _ _ hk0] at hl
        obtain ⟨a, ha, hl⟩ := bind_some hl
        obtain ⟨b, hb, hl⟩ := bind_some hl
        obtain ⟨c, hc, hl⟩ := bind_some hl
        have HL := hid hl
        have hf := ofNatD_f (2 * k * (2 * k + 1))
        have hm : 2 * k * (2 * k + 1) ≤ 16 * 17 := Nat.mul_le_mul (by omega) (by omega)
        have hcast : ((2 * k * (2 * k + 1) : Nat) : Int) = 2 * (k : Int) * (2 * (k : Int) + 1) := by push_cast; rfl
        rw [hcast] at hf
        have hm0 : 0 ≤ 2 * (k : Int) * (2 * (k : Int) + 1) := by omega
        have hm1 : 2 * (k : Int) * (2 * (k : Int) + 1) ≤ 300 := by omega
        clear hcast hl hm
        go_wp2_with fail
        go_round
        case rel => exact ⟨k - 1, c, by omega, by go_num, rfl, HL.out⟩
        case measure => simp [intOf]; omega
      · obtain rfl : k = 0 := by omega
        have hpk : pk = p := Option.some.inj hl
        subst hpk
        clear hl hk0
        go_wp2_with fail
        go_ret
        exact ⟨congrArg (fun n => Ending.returned (.float .f64 n)) (Option.some.inj H5.out), rfl⟩
theorem c_sine (t r : Nat) (h : sineO t = some r) (w : World) : Calls Try.prog 43 #[.float .f64 t] w fun e w' => e = .returned (.float .f64 r) ∧ w' = w := by
  unfold sineO at h
  cases hb : Nat.ble 4607182418800017408 t
  · rw [hb] at h
    have ht := Q.not_ble hb
    obtain ⟨o1, h1, h⟩ := bind_some h
    obtain ⟨f1, h2, h⟩ := bind_some h
    obtain ⟨o2, h3, h⟩ := bind_some h
    obtain ⟨f2, h4, h⟩ := bind_some h
    exact c_sineB f1 f2 r o1 o2 t w ht h1 h2 h3 h4 h
  · rw [hb] at h; cases h
end Go.Proofs.Ytdjhgnpllnmdmaa
