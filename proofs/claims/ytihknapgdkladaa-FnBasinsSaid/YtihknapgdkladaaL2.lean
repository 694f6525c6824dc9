/- Basins, plain: the Laplace basin is nothing together; sums; rolls; mirrors. -/
import Derived.Test.YtihknapgdkladaaL1
set_option linter.unusedVariables false
set_option linter.unusedSectionVars false
set_option linter.unusedSimpArgs false
namespace Go.Proofs.Ytihknapgdkladaa
open Fl Go

theorem sumR_congr {f g : Nat → Rat} (n : Nat) (h : ∀ i, i < n → f i = g i) : sumR f n = sumR g n := by
  induction n with
  | zero => rfl
  | succ n ih => simp only [sumR]; rw [ih (fun i hi => h i (by omega)), h n (by omega)]
theorem sumR_add (f g : Nat → Rat) (n : Nat) : sumR (fun i => f i + g i) n = sumR f n + sumR g n := by
  induction n with
  | zero => simp only [sumR]; grind
  | succ n ih => simp only [sumR]; rw [ih]; grind
theorem sumR_sub (f g : Nat → Rat) (n : Nat) : sumR (fun i => f i - g i) n = sumR f n - sumR g n := by
  induction n with
  | zero => simp only [sumR]; grind
  | succ n ih => simp only [sumR]; rw [ih]; grind
theorem sumR_mul (c : Rat) (f : Nat → Rat) (n : Nat) : sumR (fun i => c * f i) n = c * sumR f n := by
  induction n with
  | zero => simp only [sumR]; grind
  | succ n ih => simp only [sumR]; rw [ih]; grind
theorem sumR_const (c : Rat) (n : Nat) : sumR (fun _ => c) n = (n : Rat) * c := by
  induction n with
  | zero => simp only [sumR]; grind
  | succ n ih => simp only [sumR]; rw [ih]; push_cast; grind
theorem sumR_left (f : Nat → Rat) (n : Nat) : f 0 + sumR (fun i => f (i + 1)) n = sumR f (n + 1) := by
  induction n with
  | zero => simp only [sumR]; grind
  | succ n ih => rw [sumR, sumR, ← ih]; grind
theorem sumR_shift (f : Nat → Rat) (n : Nat) : sumR (fun i => f ((i + 1) % n)) n = sumR f n := by
  cases n with
  | zero => rfl
  | succ m =>
    rw [sumR, ← sumR_left f m]
    have h : sumR (fun i => f ((i + 1) % (m + 1))) m = sumR (fun i => f (i + 1)) m := sumR_congr m (fun i hi => by rw [Nat.mod_eq_of_lt (by omega)])
    rw [h, Nat.mod_self]
    grind
theorem sumR_unshift (f : Nat → Rat) (n : Nat) : sumR (fun i => f ((i + (n - 1)) % n)) n = sumR f n := by
  cases n with
  | zero => rfl
  | succ m =>
    rw [← sumR_left (fun i => f ((i + (m + 1 - 1)) % (m + 1))) m]
    have h : sumR (fun i => f ((i + 1 + (m + 1 - 1)) % (m + 1))) m = sumR f m := sumR_congr m (fun i hi => by
      rw [show i + 1 + (m + 1 - 1) = i + (m + 1) by omega, Nat.add_mod_right, Nat.mod_eq_of_lt (by omega)])
    rw [h]
    simp only [sumR]
    rw [show 0 + (m + 1 - 1) = m by omega, Nat.mod_eq_of_lt (by omega)]
    grind
theorem sumR_app (f : Nat → Rat) (a n : Nat) : sumR f (a + n) = sumR f a + sumR (fun i => f (a + i)) n := by
  induction n with
  | zero => simp only [sumR]; grind
  | succ n ih => rw [← Nat.add_assoc, sumR, sumR, ih]; grind
theorem sumR_grid (g : Nat → Nat → Rat) (W H : Nat) (hW : 0 < W) : sumR (fun i => g (i % W) (i / W)) (W * H) = sumR (fun y => sumR (fun x => g x y) W) H := by
  induction H with
  | zero => rfl
  | succ H ih =>
    rw [Nat.mul_succ, sumR_app, ih, sumR]
    congr 1
    apply sumR_congr
    intro x hx
    rw [Nat.mul_add_mod, Nat.mod_eq_of_lt hx, Nat.mul_add_div hW, Nat.div_eq_of_lt hx, Nat.add_zero]
theorem sumR_swap (g : Nat → Nat → Rat) (W H : Nat) : sumR (fun y => sumR (fun x => g x y) W) H = sumR (fun x => sumR (fun y => g x y) H) W := by
  induction H with
  | zero => simp only [sumR]; rw [sumR_const]; grind
  | succ H ih => simp only [sumR]; rw [ih, sumR_add]

theorem right_mod {W : Nat} (x : Nat) : ((x : Int) + 1) % (W : Int) = (((x + 1) % W : Nat) : Int) % (W : Int) := by
  rw [Int.natCast_emod, Int.emod_emod, Int.natCast_add]; rfl
theorem left_mod {W : Nat} (x : Nat) (hW : 0 < W) : ((x : Int) - 1) % (W : Int) = (((x + (W - 1)) % W : Nat) : Int) % (W : Int) := by
  rw [Int.natCast_emod, Int.emod_emod, Int.natCast_add, show ((W - 1 : Nat) : Int) = (W : Int) - 1 by omega, show (x : Int) + ((W : Int) - 1) = ((x : Int) - 1) + W by omega, Int.add_emod_right]

/-- THE LAPLACE BASIN IS NOTHING TOGETHER. -/
theorem lapl_total {N W H : Nat} {l : List Nat} (h : GrL N l) (hN : N ≤ 1000) (hs : Siz W H) (hl : l.length = W * H) : fv Ieee.single (sumK (lapl W H l) (W * H)) = 0 := by
  have hWH : W * H ≤ 256 := Nat.mul_le_mul hs.b hs.d
  have h3 := hs.a
  have h4 := hs.c
  obtain ⟨g, _⟩ := lapl_gr h (by omega) hs hl
  rw [(sum_gr g (by omega) (by rw [lapl_len]; exact hWH) (W * H) (by rw [lapl_len]; exact Nat.le_refl _)).2]
  have e1 : sumR (fun i => fv Ieee.single ((lapl W H l).getD i 0)) (W * H) = sumR (fun i => (fun x y : Nat => (vb W H l ((x : Int) - 1) y + vb W H l ((x : Int) + 1) y) + (vb W H l x ((y : Int) - 1) + vb W H l x ((y : Int) + 1)) - 4 * vb W H l x y) (i % W) (i / W)) (W * H) :=
    sumR_congr _ (fun i hi => by
      show fv Ieee.single ((cl W (fun x y => laplaceB W H l x y) (W * H)).getD i 0) = _
      rw [cl_getD _ _ _ _ hi]
      exact (laplace_gr h (by omega) hs hl _ _).2.2)
  rw [e1, sumR_grid (fun x y : Nat => (vb W H l ((x : Int) - 1) y + vb W H l ((x : Int) + 1) y) + (vb W H l x ((y : Int) - 1) + vb W H l x ((y : Int) + 1)) - 4 * vb W H l x y) W H (by omega)]
  have r1 : ∀ y : Nat, sumR (fun x : Nat => vb W H l ((x : Int) - 1) y) W = sumR (fun x : Nat => vb W H l x y) W := fun y => by
    rw [← sumR_unshift (fun x : Nat => vb W H l x y) W]
    exact sumR_congr _ (fun x _ => by unfold vb; rw [bat_congr l (left_mod x (by omega)) rfl])
  have r2 : ∀ y : Nat, sumR (fun x : Nat => vb W H l ((x : Int) + 1) y) W = sumR (fun x : Nat => vb W H l x y) W := fun y => by
    rw [← sumR_shift (fun x : Nat => vb W H l x y) W]
    exact sumR_congr _ (fun x _ => by unfold vb; rw [bat_congr l (right_mod x) rfl])
  have r3 : ∀ x : Nat, sumR (fun y : Nat => vb W H l x ((y : Int) - 1)) H = sumR (fun y : Nat => vb W H l x y) H := fun x => by
    rw [← sumR_unshift (fun y : Nat => vb W H l x y) H]
    exact sumR_congr _ (fun y _ => by unfold vb; rw [bat_congr l rfl (left_mod y (by omega))])
  have r4 : ∀ x : Nat, sumR (fun y : Nat => vb W H l x ((y : Int) + 1)) H = sumR (fun y : Nat => vb W H l x y) H := fun x => by
    rw [← sumR_shift (fun y : Nat => vb W H l x y) H]
    exact sumR_congr _ (fun y _ => by unfold vb; rw [bat_congr l rfl (right_mod y)])
  have e2 : sumR (fun y : Nat => sumR (fun x : Nat => (vb W H l ((x : Int) - 1) y + vb W H l ((x : Int) + 1) y) + (vb W H l x ((y : Int) - 1) + vb W H l x ((y : Int) + 1)) - 4 * vb W H l x y) W) H =
      sumR (fun y : Nat => (sumR (fun x : Nat => vb W H l ((x : Int) - 1) y) W + sumR (fun x : Nat => vb W H l ((x : Int) + 1) y) W) + (sumR (fun x : Nat => vb W H l x ((y : Int) - 1)) W + sumR (fun x : Nat => vb W H l x ((y : Int) + 1)) W) - 4 * sumR (fun x : Nat => vb W H l x y) W) H :=
    sumR_congr _ (fun y _ => by rw [sumR_sub, sumR_add, sumR_add, sumR_add, sumR_mul])
  rw [e2, sumR_sub, sumR_add, sumR_add, sumR_add, sumR_mul]
  rw [sumR_congr H (fun y _ => r1 y), sumR_congr H (fun y _ => r2 y)]
  rw [sumR_swap (fun x y : Nat => vb W H l x ((y : Int) - 1)), sumR_swap (fun x y : Nat => vb W H l x ((y : Int) + 1)), sumR_congr W (fun x _ => r3 x), sumR_congr W (fun x _ => r4 x), ← sumR_swap (fun x y : Nat => vb W H l x y)]
  grind
end Go.Proofs.Ytihknapgdkladaa
