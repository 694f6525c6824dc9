/- Turned: the law's helpers. -/
import Derived.Test.YtdjhgnpllnmdmaaT12
set_option linter.unusedVariables false
set_option linter.unusedSectionVars false
set_option linter.unusedSimpArgs false
namespace Go.Proofs.Ytdjhgnpllnmdmaa
open Go.RowKit
attribute [local go_sem] r_addD r_subD r_mulD r_divD r_addS r_subS r_mulS r_divS r_wide r_narrow w_store r_neg r_subC r_addC
attribute [local go_sem ↓] Go.wp_at_zero Go.wp_at_succ

/-- BYTES THAT CAME IN, of a world. -/
def BIn (w : World) (A : Option Addr) (len : Nat) : Prop :=
  0 < len → ∃ b off : Nat, A = some ⟨b, off, none⟩ ∧ b < w.heap.size ∧ ∀ i, i < len → ∃ c : Nat, c ≤ 255 ∧ w.cell? ⟨b, off + i, none⟩ = some (.int .u8 c)
theorem BIn.below {w w' : World} {A : Option Addr} {len : Nat} (h : BIn w A len) (hb : Below w.heap.size w w') : BIn w' A len := by
  intro hl
  obtain ⟨b, off, h1, h2, h4⟩ := h hl
  refine ⟨b, off, h1, Nat.lt_of_lt_of_le h2 hb.size, fun i hi => ?_⟩
  obtain ⟨c, c1, c2⟩ := h4 i hi
  exact ⟨c, c1, (hb.cell (p := ⟨b, off + i, none⟩) h2).trans c2⟩

theorem c_b10Long (A A' : Option Addr) (len cap len' cap' : Nat) (h : len ≤ 9223372036854775807) (h' : len' ≤ 9223372036854775807) (w : World) :
    Calls Try.prog 4 #[.slice A len cap, .slice A' len' cap'] w fun e w' => e = .returned (.bool (decide (1048576 < len) || decide (1048576 < len'))) ∧ w = w' := by
  go_enter Try.func4, Try.ntmps4
  by_cases h1 : 1048576 < len
  · go_wp2_with fail
    go_ret
    refine ⟨?_, rfl⟩
    simp [h1]
    try omega
  · go_wp2_with fail
    go_ret
    refine ⟨?_, rfl⟩
    by_cases h2 : 1048576 < len'
    · simp [h1, h2]
      try omega
    · simp [h1, h2]
      try omega

theorem c_b10At (A : Option Addr) (len cap k n : Nat) (w : World) (hb : BIn w A len) (hl : len ≤ 2000000) (hk : k ≤ 1000) (hn : 2 ≤ n) (hn2 : n ≤ 1000) :
    Calls Try.prog 5 #[.slice A len cap, .int .i64 k, .int .i64 n] w fun e w' => ∃ r : Nat, r < n ∧ e = .returned (.int .i64 r) ∧ Below w.heap.size w w' := by
  by_cases h2 : len ≤ k
  · go_enter Try.func5, Try.ntmps5
    go_wp2_with fail
    go_ret
    refine ⟨(k * 37 + 11) % n, Nat.mod_lt _ (by omega), ?_, Below.refl _ _⟩
    congr 2
  · obtain ⟨b, off, rfl, hbl, hc⟩ := hb (by omega)
    obtain ⟨c, hc1, hc2⟩ := hc k (by omega)
    clear hc hb
    go_enter Try.func5, Try.ntmps5
    go_wp2_with fail
    go_ret
    refine ⟨c % n, Nat.mod_lt _ (by omega), ?_, Below.refl _ _⟩
    congr 2

def gapO (a b : Nat) : Option Nat := (Q.ordD a b).bind fun o => cond (isLt o) (Q.subD b a) (Q.subD a b)
theorem c_b10Gap (a b r : Nat) (h : gapO a b = some r) (w : World) : Calls Try.prog 12 #[.float .f64 a, .float .f64 b] w fun e w' => e = .returned (.float .f64 r) ∧ w' = w := by
  unfold gapO at h
  obtain ⟨o, ho, h1⟩ := bind_some h
  have k1 : FloatKind.f64.format.order a b = some o := Q.ordD_eq ho
  clear h ho
  cases o <;> simp only [isLt, cond_true, cond_false] at h1
  all_goals
    go_enter Try.func12, Try.ntmps12
    go_wp2_with fail
    go_ret
    exact ⟨rfl, rfl⟩

/-- the root, of zero too -/
def sqrtX (s : Nat) : Option Nat := cond (Nat.beq s 0) (some 0) (Q.sqrt s)
theorem sqrt_zero : Ieee.double.sqrt 0 = some 0 := by decide +kernel
theorem sqrtX_eq {s r : Nat} (h : sqrtX s = some r) : Ieee.double.sqrt s = some r := by
  unfold sqrtX at h
  cases hb : Nat.beq s 0
  · rw [hb] at h
    exact Q.sqrt_eq s r h
  · rw [hb] at h
    obtain rfl := Nat.eq_of_beq_eq_true hb
    rw [sqrt_zero, ← h]
    rfl
theorem c_SqrtX (x r : Nat) (h : sqrtX x = some r) (w : World) :
    Calls Try.prog 58 #[.float .f64 x] w fun e w' => e = .returned (.float .f64 r) ∧ w' = w := by
  have hx : ∀ w : World, (callFunc 66 #[.float .f64 x]).run Try.prog w = .ok (.value (.float .f64 r)) w := by
    intro w
    rw [run_callFunc_extern (e := Extern.MathSqrt.sqrt) Try.func66 (by kernel_rfl) (by kernel_rfl) (by kernel_rfl) (by kernel_rfl)]
    have hs : FloatKind.f64.format.sqrt x = some r := sqrtX_eq h
    have hp : Extern.MathSqrt.sqrt #[.float .f64 x] = pure (Value.float .f64 r) := by
      show ((match FloatKind.f64.format.sqrt x with
        | some r => pure (Value.float .f64 r)
        | none => do pure (Value.float .f64 (← choose (.nanBits .f64 x x)))) : Sem Value) = pure (Value.float .f64 r)
      rw [hs]
    rw [hp]
    rfl
  go_enter Try.func58, Try.ntmps58
  go_wp2_with fail
  go_ret
  exact ⟨rfl, rfl⟩
def longO (a b : Nat) : Option Nat :=
  (Q.wide a).bind fun x => (Q.wide b).bind fun y => (Q.mulD x x).bind fun xx => (Q.mulD y y).bind fun yy => (Q.addD xx yy).bind fun s => (sqrtX s).bind fun r => Q.narrow r
theorem c_LongOf (a b r : Nat) (h : longO a b = some r) (w : World) : Calls Try.prog 36 #[.complex .f32 a b] w fun e w' => e = .returned (.float .f32 r) ∧ w' = w := by
  unfold longO at h
  obtain ⟨x, hx, h1⟩ := bind_some h
  obtain ⟨y, hy, h2⟩ := bind_some h1
  obtain ⟨xx, hxx, h3⟩ := bind_some h2
  obtain ⟨yy, hyy, h4⟩ := bind_some h3
  obtain ⟨s, hs, h5⟩ := bind_some h4
  obtain ⟨q, hq, h6⟩ := bind_some h5
  clear h h1 h2 h3 h4 h5
  have HP : Hid (Calls Try.prog 62 #[.complex .f32 a b] w fun e w' => e = .returned (.float .f64 s) ∧ w' = w) := by
    clear h6 hq
    go_enter Try.func62, Try.ntmps62
    go_wp2_with fail
    go_ret
    exact ⟨rfl, rfl⟩
  have HN : Hid (Calls Try.prog 61 #[.float .f64 q] w fun e w' => e = .returned (.float .f32 r) ∧ w' = w) := by
    clear HP hx hy hxx hyy hs hq
    go_enter Try.func61, Try.ntmps61
    go_wp2_with fail
    go_ret
    exact ⟨rfl, rfl⟩
  have HS := hid (c_SqrtX s q hq w)
  clear hx hy hxx hyy hs hq h6
  have HL : Hid (Calls Try.prog 50 #[.complex .f32 a b] w fun e w' => e = .returned (.float .f32 r) ∧ w' = w) := by
    go_enter Try.func50, Try.ntmps50
    go_wp2_with fail
    refine HP.out.mono ?_
    rintro e w' ⟨rfl, rfl⟩
    go_wp2_with fail
    refine HS.out.mono ?_
    rintro e w' ⟨rfl, rfl⟩
    go_wp2_with fail
    refine HN.out.mono ?_
    rintro e w' ⟨rfl, rfl⟩
    go_wp2_with fail
    go_ret
    exact ⟨rfl, rfl⟩
  clear HP HN HS
  go_enter Try.func36, Try.ntmps36
  go_wp2_with fail
  refine HL.out.mono ?_
  rintro e w' ⟨rfl, rfl⟩
  go_wp2_with fail
  go_ret
  exact ⟨rfl, rfl⟩
def apartO (a b c d : Nat) : Option Nat := (Q.subS a c).bind fun x => (Q.subS b d).bind fun y => (longO x y).bind fun l => Q.wide l
theorem c_b10Apart (a b c d r : Nat) (h : apartO a b c d = some r) (w : World) : Calls Try.prog 13 #[.complex .f32 a b, .complex .f32 c d] w fun e w' => e = .returned (.float .f64 r) ∧ w' = w := by
  unfold apartO at h
  obtain ⟨x, hx, h1⟩ := bind_some h
  obtain ⟨y, hy, h2⟩ := bind_some h1
  obtain ⟨l, hl, h3⟩ := bind_some h2
  have HL := hid (c_LongOf x y l hl w)
  clear h h1 h2 hl
  go_enter Try.func13, Try.ntmps13
  go_wp2_with fail
  refine HL.out.mono ?_
  rintro e w' ⟨rfl, rfl⟩
  go_wp2_with fail
  go_ret
  exact ⟨rfl, rfl⟩
end Go.Proofs.Ytdjhgnpllnmdmaa
