/- Exact words: powers of two, quotients by four and by eight. -/
import Derived.Test.YtihknapgdkladaaF4
set_option linter.unusedSimpArgs false
set_option linter.unusedVariables false
set_option linter.unusedSectionVars false
namespace Fl
open Ieee Go

theorem gr_pow {b : Nat} {e j : Int} (hl : b < 2 ^ 32) (h : single.read b = .number false 8388608 e) (hj : j = e + 23) : Gr single j 1 b ∧ fv single b = pw j := by
  have h1 : fv single b = pw j := by
    rw [fv_num h, hj, show e + 23 = 23 + e by omega, pw_add, show (23 : Int) = ((23 : Nat) : Int) by rfl, pw_nat]
    simp only [sg]
    norm_cast
    simp
  exact ⟨⟨⟨false, 8388608, e, h⟩, hl, 1, by rw [h1]; simp, by simp⟩, h1⟩

/-- the k-th quarter and the k-th eighth, from -8 on -/
def quart (k : Nat) : Nat := fdiv single (FloatKind.f32.nearest ((k : Int) - 8)) 1082130432
def eighth (k : Nat) : Nat := fdiv single (FloatKind.f32.nearest ((k : Int) - 8)) 1090519040

theorem quarts : ∀ k : Nat, k < 17 → single.div (FloatKind.f32.nearest ((k : Int) - 8)) 1082130432 = single.mul (FloatKind.f32.nearest ((k : Int) - 8)) 1048576000 := by decide
theorem eighths : ∀ k : Nat, k < 17 → single.div (FloatKind.f32.nearest ((k : Int) - 8)) 1090519040 = single.mul (FloatKind.f32.nearest ((k : Int) - 8)) 1040187392 := by decide

theorem quart_gr (k : Nat) (hk : k < 17) : single.div (FloatKind.f32.nearest ((k : Int) - 8)) 1082130432 = some (quart k) ∧ Gr single (-2) 8 (quart k) := by
  obtain ⟨g1, _⟩ := ofInt_gr .f32 okS ((k : Int) - 8) 8 (by omega) (by decide) (by decide)
  obtain ⟨g2, _⟩ := gr_pow (b := 1048576000) (e := -25) (j := -2) (by decide) (by decide) (by decide)
  obtain ⟨h1, h2, _⟩ := Gr.mul okS g1 g2 (by decide) (by decide) (by decide)
  have h3 := quarts k hk
  rw [h1] at h3
  have e : quart k = fmul single (FloatKind.f32.nearest ((k : Int) - 8)) 1048576000 := by unfold quart fdiv; rw [h3]; rfl
  rw [e]
  exact ⟨h3, h2⟩
theorem eighth_gr (k : Nat) (hk : k < 17) : single.div (FloatKind.f32.nearest ((k : Int) - 8)) 1090519040 = some (eighth k) ∧ Gr single (-3) 8 (eighth k) := by
  obtain ⟨g1, _⟩ := ofInt_gr .f32 okS ((k : Int) - 8) 8 (by omega) (by decide) (by decide)
  obtain ⟨g2, _⟩ := gr_pow (b := 1040187392) (e := -26) (j := -3) (by decide) (by decide) (by decide)
  obtain ⟨h1, h2, _⟩ := Gr.mul okS g1 g2 (by decide) (by decide) (by decide)
  have h3 := eighths k hk
  rw [h1] at h3
  have e : eighth k = fmul single (FloatKind.f32.nearest ((k : Int) - 8)) 1040187392 := by unfold eighth fdiv; rw [h3]; rfl
  rw [e]
  exact ⟨h3, h2⟩
end Fl
