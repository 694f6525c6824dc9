/- Turned: a length that is right. -/
import Derived.Test.YtdjhgnpllnmdmaaT9
set_option linter.unusedVariables false
set_option linter.unusedSectionVars false
set_option linter.unusedSimpArgs false
namespace Go.Proofs.Ytdjhgnpllnmdmaa
open Go.RowKit
attribute [local go_sem] r_addD r_subD r_mulD r_divD r_addS r_subS r_mulS r_divS r_wide r_narrow w_store r_neg
attribute [local go_sem ↓] Go.wp_at_zero Go.wp_at_succ

set_option maxHeartbeats 1000000 in
theorem c_IndexLen (b x : Nat) (w : World) (hr : FRow w b 0 [x]) (ho : Q.ordS x 0 = some .gt) :
    Calls Try.prog 51 #[.slice (some ⟨b, 0, none⟩) 1 1, .func (.func 38) #[] #[]] w fun e w' => e = .returned (.int .i64 (-1)) ∧ w' = w := by
  have hcell : w.cell? ⟨b, 0, none⟩ = some (.float .f32 x) := hr.2 0 (by simp)
  have HF := hid (fun wx => c_lengthOk1 x .gt ho rfl wx)
  clear hr ho
  go_enter Try.func51, Try.ntmps51
  go_wp2
  go_loop [8] (fun i => ∃ k : Nat, k ≤ 1 ∧ i = .int .i64 k) (fun i => 1 - (intOf i).toNat)
  case atStart => exact ⟨0, Nat.zero_le _, rfl⟩
  case round =>
    obtain ⟨k, hk, rfl⟩ := hrel
    by_cases hlt : k < 1
    · obtain rfl : k = 0 := by omega
      go_wp2_with (go_at_call 38; refine (HF.out _).mono ?_; rintro e w' ⟨rfl, rfl⟩)
      go_round
      case rel => exact ⟨1, by omega, by go_num⟩
      case measure => simp [intOf]
    · go_wp2
      go_ret
      exact ⟨rfl, rfl⟩
theorem c_lengthOk (b x : Nat) (w : World) (hr : FRow w b 0 [x]) (hf : finS x = true) (ho : Q.ordS x 0 = some .gt) :
    Calls Try.prog 15 #[.slice (some ⟨b, 0, none⟩) 1 1] w fun e w' => e = .returned (.bool true) ∧ w' = w := by
  have H := hid (c_IndexLen b x w hr ho)
  have HF := hid (c_finite b 0 1 1 [x] w hr rfl (by omega) (fun i hi => by
    have : i = 0 := by simp at hi; omega
    subst this; exact hf))
  have HC : Hid (Calls Try.prog 37 #[.slice (some ⟨b, 0, none⟩) 1 1, .func (.func 38) #[] #[]] w fun e w' => e = .returned (.bool false) ∧ w' = w) := by
    clear hr hf ho HF
    go_enter Try.func37, Try.ntmps37
    go_wp2_with (go_at_call 51; refine H.out.mono ?_; rintro e w' ⟨rfl, rfl⟩)
    go_ret
    exact ⟨rfl, rfl⟩
  clear hr hf ho H
  go_enter Try.func15, Try.ntmps15
  go_wp2_with fail
  refine HF.out.mono ?_
  rintro e w' ⟨rfl, rfl⟩
  go_wp2_with fail
  refine HC.out.mono ?_
  rintro e w' ⟨rfl, rfl⟩
  go_wp2_with fail
  go_ret
  exact ⟨rfl, rfl⟩
end Go.Proofs.Ytdjhgnpllnmdmaa
