/- Turned: angles. -/
import Derived.Test.YtdjhgnpllnmdmaaT4
set_option linter.unusedVariables false
set_option linter.unusedSectionVars false
set_option linter.unusedSimpArgs false
namespace Go.Proofs.Ytdjhgnpllnmdmaa
open Go.RowKit
attribute [local go_sem] r_addD r_subD r_mulD r_divD r_addS r_subS r_mulS r_divS r_wide r_narrow w_store r_neg
attribute [local go_sem ↓] Go.wp_at_zero Go.wp_at_succ

def isEq (o : Ordering) : Bool := match o with | .eq => true | _ => false
def divX (a b : Nat) : Option Nat := match Q.divD' a b with | some r => some r | none => Ieee.double.div a b
theorem divX_eq {a b r : Nat} (h : divX a b = some r) : Ieee.double.div a b = some r := by
  unfold divX at h
  cases hd : Q.divD' a b
  · rw [hd] at h; exact h
  · rw [hd] at h; rw [← h]; exact Q.divD_eq hd
def angT : Nat → Nat → Option Nat
  | 0, t => some t
  | k + 1, t => (Q.mulD t t).bind fun a => (Q.addD 4607182418800017408 a).bind fun b => (Q.sqrt b).bind fun c => (Q.addD 4607182418800017408 c).bind fun d => (Q.divD' t d).bind fun e => angT k e
def angP (u : Nat) : Nat → Nat → Option Nat
  | 0, p => some p
  | n + 1, p => (Q.divD' 4607182418800017408 (Q.ofNatD (2 * n + 1))).bind fun a => (Q.mulD u p).bind fun b => (Q.subD a b).bind fun q => angP u n q
def angE (gt xlt ylt : Bool) (t p : Nat) : Option Nat :=
  (Q.mulD t p).bind fun a => (Q.mulD 4620693217682128896 a).bind fun b => (Q.divD' b 4618760256179416344).bind fun c =>
  (cond gt (Q.subD 4598175219545276416 c) (some c)).bind fun d => (cond xlt (Q.subD 4602678819172646912 d) (some d)).bind fun e => Q.narrow (cond ylt (neg64 e) e)
def angM (gt xlt ylt : Bool) (t : Nat) : Option Nat :=
  (angT 3 t).bind fun t3 => (Q.mulD t3 t3).bind fun u => (angP u 8 0).bind fun p => angE gt xlt ylt t3 p
def angA (xlt ylt : Bool) (a b : Nat) : Option Nat :=
  (divX a b).bind fun t0 => (Q.ordD a b).bind fun og => (cond (isGt og) (Q.divD' b a) (some t0)).bind fun t => angM (isGt og) xlt ylt t
def angW (xlt ylt : Bool) (wy wx : Nat) : Option Nat :=
  cond (and (Nat.ble wy 18446744073709551615) (Nat.ble wx 18446744073709551615)) (Q.st (Nat.mod wy 9223372036854775808) fun a => Q.st (Nat.mod wx 9223372036854775808) fun b => angA xlt ylt a b) none
/-- the angle of (x, y), in turns -/
def angleO (y x : Nat) : Option Nat :=
  cond (and (finS y) (finS x)) ((Q.ordS x 0).bind fun ox => (Q.ordS y 0).bind fun oy => cond (and (isEq ox) (isEq oy)) (some 0)
    ((Q.wide y).bind fun wy => (Q.wide x).bind fun wx => angW (isLt ox) (isLt oy) wy wx)) none

theorem angT_step (k t : Nat) (hk : 1 ≤ k) : angT k t = (Q.mulD t t).bind fun a => (Q.addD 4607182418800017408 a).bind fun b => (Q.sqrt b).bind fun c => (Q.addD 4607182418800017408 c).bind fun d => (Q.divD' t d).bind fun e => angT (k - 1) e := by
  obtain ⟨j, rfl⟩ : ∃ j, k = j + 1 := ⟨k - 1, by omega⟩
  rfl
theorem angP_step (u n p : Nat) (hk : 1 ≤ n) : angP u n p = (Q.divD' 4607182418800017408 (Q.ofNatD (2 * (n - 1) + 1))).bind fun a => (Q.mulD u p).bind fun b => (Q.subD a b).bind fun q => angP u (n - 1) q := by
  obtain ⟨j, rfl⟩ : ∃ j, n = j + 1 := ⟨n - 1, by omega⟩
  rfl

set_option maxHeartbeats 40000000 in
theorem c_angA (y x wy wx t0 t t3 u p r : Nat) (ox oy og : Ordering) (w : World) (hy : finS y = true) (hx : finS x = true) (hox : Q.ordS x 0 = some ox) (hoy : Q.ordS y 0 = some oy) (hne : and (isEq ox) (isEq oy) = false)
    (hwy : Q.wide y = some wy) (hwx : Q.wide x = some wx) (b1 : wy < 18446744073709551616) (b2 : wx < 18446744073709551616)
    (h0 : divX (wy % 9223372036854775808) (wx % 9223372036854775808) = some t0) (hog : Q.ordD (wy % 9223372036854775808) (wx % 9223372036854775808) = some og)
    (ht : cond (isGt og) (Q.divD' (wx % 9223372036854775808) (wy % 9223372036854775808)) (some t0) = some t)
    (ht3 : angT 3 t = some t3) (hu : Q.mulD t3 t3 = some u) (hp : angP u 8 0 = some p) (he : angE (isGt og) (isLt ox) (isLt oy) t3 p = some r) :
    Calls Try.prog 45 #[.float .f32 y, .float .f32 x] w fun e w' => e = .returned (.float .f32 r) ∧ Below w.heap.size w w' := by
  have HF := hid (c_finite w.heap.size 0 2 2 [y, x] _ (frow_two w y x) rfl (by omega) (finL_two hy hx))
  have HA1 := hid (fun wx' => c_Abs wy b1 wx')
  have HA2 := hid (fun wx' => c_Abs wx b2 wx')
  have k1 : FloatKind.f32.format.order x 0 = some ox := Q.ordS_eq hox
  have k2 : FloatKind.f32.format.order y 0 = some oy := Q.ordS_eq hoy
  have k3 : FloatKind.f64.format.order (wy % 9223372036854775808) (wx % 9223372036854775808) = some og := Q.ordD_eq hog
  have hq : ∀ wx' : World, (binOp .quo 40 (.float .f64 (wy % 9223372036854775808)) (.float .f64 (wx % 9223372036854775808))).run Try.prog wx' = .ok (.float .f64 t0) wx' := fun wx' => run_float_arith wx' .quo 40 .f64 _ _ t0 (divX_eq h0)
  clear hy hx hox hoy hog h0 b1 b2
  generalize wy % 9223372036854775808 = a at *
  generalize wx % 9223372036854775808 = b at *
  unfold angE at he
  obtain ⟨m1, hm1, e1⟩ := bind_some he
  obtain ⟨m2, hm2, e2⟩ := bind_some e1
  obtain ⟨m3, hm3, e3⟩ := bind_some e2
  obtain ⟨m4, hm4, e4⟩ := bind_some e3
  obtain ⟨m5, hm5, e5⟩ := bind_some e4
  clear he e1 e2 e3 e4
  unfold neg64 at e5
  have HT3 := hid ht3
  have HP := hid hp
  clear ht3 hp
  cases ox <;> cases oy <;> cases og <;> simp only [isLt, isGt, isEq, Bool.and_self, Bool.and_true, Bool.true_and, Bool.and_false, Bool.false_and, reduceCtorEq, Bool.true_eq_false, Bool.false_eq_true, cond_true, cond_false, Option.some.injEq] at hne ht hm4 hm5 e5 <;> (try contradiction) <;> (try subst ht) <;> (try subst hm4) <;> (try subst hm5)
  all_goals
    have HE := hid e5
    clear e5
    go_enter Try.func45, Try.ntmps45
    go_wp2_with fail
    refine HF.out.mono ?_
    rintro e w' ⟨rfl, rfl⟩
    go_wp2_with fail
    refine (HA1.out _).mono ?_
    rintro e w' ⟨rfl, rfl⟩
    go_wp2_with fail
    refine (HA2.out _).mono ?_
    rintro e w' ⟨rfl, rfl⟩
    go_wp2_with fail
    clear HF HA1 HA2 hq
    go_loop [7, 42] (fun a b => ∃ k i tt : Nat, k + i = 3 ∧ b = .int .i64 i ∧ a = .float .f64 tt ∧ angT k tt = some t3) (fun _ b => 3 - (intOf b).toNat)
    case atStart => exact ⟨3, 0, _, rfl, rfl, rfl, HT3.out⟩
    case round =>
      obtain ⟨k, i, tt, hk, rfl, rfl, hl⟩ := hrel
      by_cases hk0 : 1 ≤ k
      · rw [angT_step _ _ hk0] at hl
        obtain ⟨a1, ha1, hl⟩ := bind_some hl
        obtain ⟨a2, ha2, hl⟩ := bind_some hl
        obtain ⟨a3, ha3, hl⟩ := bind_some hl
        obtain ⟨a4, ha4, hl⟩ := bind_some hl
        obtain ⟨a5, ha5, hl⟩ := bind_some hl
        have HL := hid hl
        have HS := hid (fun wx' => c_Sqrt a2 a3 ha3 wx')
        clear hl ha3
        go_wp2_with fail
        refine (HS.out _).mono ?_
        rintro e w' ⟨rfl, rfl⟩
        go_wp2_with fail
        go_round
        case rel => exact ⟨k - 1, i + 1, a5, by omega, by go_num, rfl, HL.out⟩
        case measure => simp [intOf]; omega
      · obtain rfl : k = 0 := by omega
        have htt : tt = t3 := Option.some.inj hl
        subst htt
        obtain rfl : i = 3 := by omega
        clear hl hk0 hk HT3
        go_wp2_with fail
        go_loop [9, 10] (fun a b => ∃ n pp : Nat, n ≤ 8 ∧ b = .int .i64 (2 * (n : Int) - 1) ∧ a = .float .f64 pp ∧ angP u n pp = some p) (fun _ b => (intOf b + 1).toNat)
        case atStart => exact ⟨8, 0, Nat.le_refl _, rfl, rfl, HP.out⟩
        case round =>
          obtain ⟨n, pp, hn, rfl, rfl, hl⟩ := hrel
          by_cases hn0 : 1 ≤ n
          · rw [angP_step _ _ _ hn0] at hl
            obtain ⟨a1, ha1, hl⟩ := bind_some hl
            obtain ⟨a2, ha2, hl⟩ := bind_some hl
            obtain ⟨a3, ha3, hl⟩ := bind_some hl
            have HL := hid hl
            have hf := ofNatD_f (2 * (n - 1) + 1)
            have hcast : ((2 * (n - 1) + 1 : Nat) : Int) = 2 * (n : Int) - 1 := by omega
            rw [hcast] at hf
            clear hcast hl
            go_wp2_with fail
            go_round
            case rel => exact ⟨n - 1, a3, by omega, by go_num, rfl, HL.out⟩
            case measure => simp [intOf]; omega
          · obtain rfl : n = 0 := by omega
            have hpp : pp = p := Option.some.inj hl
            subst hpp
            have he := HE.out
            clear hl hn0 HP HE
            go_wp2_with fail
            go_ret
            exact ⟨rfl, (Below.refl _ _).alloc (Nat.le_refl _) _⟩
end Go.Proofs.Ytdjhgnpllnmdmaa
