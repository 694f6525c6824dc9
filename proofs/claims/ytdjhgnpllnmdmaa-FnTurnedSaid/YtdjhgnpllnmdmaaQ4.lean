/- Fast words: doubles, singles, conversions, by name. -/
import Derived.Test.YtdjhgnpllnmdmaaQ3
set_option linter.unusedVariables false
set_option linter.unusedSectionVars false
set_option linter.unusedSimpArgs false
namespace Q
open Ieee Go

/-- the word itself is reckoned first, not its text handed on -/
def fo (o : Option Nat) : Option Nat := match o with | some r => st r some | none => none
theorem fo_eq (o : Option Nat) : fo o = o := by cases o <;> simp [fo, st_eq]
def fo2 (f : Nat → Nat → Option Nat) (x y : Nat) : Option Nat := fo (st x fun x => st y fun y => f x y)
theorem fo2_eq (f : Nat → Nat → Option Nat) (x y : Nat) : fo2 f x y = f x y := by simp only [fo2, st_eq, fo_eq]
def addD (x y : Nat) : Option Nat := fo2 (fun x y => addG 52 4503599627370496 9218868437227405312 9223372036854775808 0 x y) x y
def subD (x y : Nat) : Option Nat := fo2 (fun x y => addG 52 4503599627370496 9218868437227405312 9223372036854775808 1 x y) x y
def mulD (x y : Nat) : Option Nat := fo2 (fun x y => mulG 52 1074 4503599627370496 9218868437227405312 9223372036854775808 x y) x y
def divD' (x y : Nat) : Option Nat := fo2 (fun x y => divG 52 3000 1926 4503599627370496 9218868437227405312 9223372036854775808 x y) x y
def ordD (x y : Nat) : Option Ordering := ordG 4503599627370496 9218868437227405312 9223372036854775808 x y
def addS (x y : Nat) : Option Nat := fo2 (fun x y => addG 23 8388608 2139095040 2147483648 0 x y) x y
def subS (x y : Nat) : Option Nat := fo2 (fun x y => addG 23 8388608 2139095040 2147483648 1 x y) x y
def mulS (x y : Nat) : Option Nat := fo2 (fun x y => mulG 23 149 8388608 2139095040 2147483648 x y) x y
def divS (x y : Nat) : Option Nat := fo2 (fun x y => divG 23 1000 851 8388608 2139095040 2147483648 x y) x y
def ordS (x y : Nat) : Option Ordering := ordG 8388608 2139095040 2147483648 x y

theorem cD : double.fractionBits = 52 ∧ double.binade = 4503599627370496 ∧ double.infRung = 9218868437227405312 ∧ double.signWeight = 9223372036854775808 ∧ double.leastPlace = -1074 := by decide +kernel
theorem cS : single.fractionBits = 23 ∧ single.binade = 8388608 ∧ single.infRung = 2139095040 ∧ single.signWeight = 2147483648 ∧ single.leastPlace = -149 := by decide +kernel
theorem addD_eq {x y r : Nat} (h : addD x y = some r) : double.add x y = some r := by
  obtain ⟨h1, h2, h3, h4, h5⟩ := cD
  exact addG_add double 1074 (by rw [h5]; rfl) x y r (by rw [h1, h2, h3, h4]; exact (fo2_eq _ x y).symm.trans h)
theorem subD_eq {x y r : Nat} (h : subD x y = some r) : double.sub x y = some r := by
  obtain ⟨h1, h2, h3, h4, h5⟩ := cD
  exact addG_sub double 1074 (by rw [h5]; rfl) x y r (by rw [h1, h2, h3, h4]; exact (fo2_eq _ x y).symm.trans h)
theorem mulD_eq {x y r : Nat} (h : mulD x y = some r) : double.mul x y = some r := by
  obtain ⟨h1, h2, h3, h4, h5⟩ := cD
  exact mulG_eq double 1074 (by rw [h5]; rfl) x y r (by rw [h1, h2, h3, h4]; exact (fo2_eq _ x y).symm.trans h)
theorem divD_eq {x y r : Nat} (h : divD' x y = some r) : double.div x y = some r := by
  obtain ⟨h1, h2, h3, h4, h5⟩ := cD
  exact divG_eq double 3000 1926 (by rw [h5]; rfl) x y r (by rw [h1, h2, h3, h4]; exact (fo2_eq _ x y).symm.trans h)
theorem ordD_eq {x y : Nat} {o : Ordering} (h : ordD x y = some o) : double.order x y = some o := by
  obtain ⟨h1, h2, h3, h4, h5⟩ := cD
  exact ordG_eq double x y o (by rw [h2, h3, h4]; exact h)
theorem addS_eq {x y r : Nat} (h : addS x y = some r) : single.add x y = some r := by
  obtain ⟨h1, h2, h3, h4, h5⟩ := cS
  exact addG_add single 149 (by rw [h5]; rfl) x y r (by rw [h1, h2, h3, h4]; exact (fo2_eq _ x y).symm.trans h)
theorem subS_eq {x y r : Nat} (h : subS x y = some r) : single.sub x y = some r := by
  obtain ⟨h1, h2, h3, h4, h5⟩ := cS
  exact addG_sub single 149 (by rw [h5]; rfl) x y r (by rw [h1, h2, h3, h4]; exact (fo2_eq _ x y).symm.trans h)
theorem mulS_eq {x y r : Nat} (h : mulS x y = some r) : single.mul x y = some r := by
  obtain ⟨h1, h2, h3, h4, h5⟩ := cS
  exact mulG_eq single 149 (by rw [h5]; rfl) x y r (by rw [h1, h2, h3, h4]; exact (fo2_eq _ x y).symm.trans h)
theorem divS_eq {x y r : Nat} (h : divS x y = some r) : single.div x y = some r := by
  obtain ⟨h1, h2, h3, h4, h5⟩ := cS
  exact divG_eq single 1000 851 (by rw [h5]; rfl) x y r (by rw [h1, h2, h3, h4]; exact (fo2_eq _ x y).symm.trans h)
theorem ordS_eq {x y : Nat} {o : Ordering} (h : ordS x y = some o) : single.order x y = some o := by
  obtain ⟨h1, h2, h3, h4, h5⟩ := cS
  exact ordG_eq single x y o (by rw [h2, h3, h4]; exact h)

/-- float64 of a float32 -/
def wideB (sg rx bx : Nat) : Nat := near 52 0 4503599627370496 9218868437227405312 sg (sig 8388608 bx rx) (Nat.add (Nat.pred bx) 925)
def wideC (r : Nat) : Option Nat := cond (Nat.ble 9218868437227405312 (Nat.mod r 9223372036854775808)) none (some r)
def wideA (sg rx : Nat) : Option Nat := cond (Nat.ble 2139095040 rx) none (st (st (Nat.div rx 8388608) fun bx => wideB sg rx bx) wideC)
def wide0 (x : Nat) : Option Nat := st (Nat.mul 9223372036854775808 (Nat.mod (Nat.div x 2147483648) 2)) fun sg => st (Nat.mod x 2147483648) fun rx => wideA sg rx
/-- float32 of a float64 -/
def narrowB (sg rx bx : Nat) : Nat := near 23 925 8388608 2139095040 sg (sig 4503599627370496 bx rx) (Nat.pred bx)
def narrowC (r : Nat) : Option Nat := cond (Nat.ble 2139095040 (Nat.mod r 2147483648)) none (some r)
def narrowA (sg rx : Nat) : Option Nat := cond (Nat.ble 9218868437227405312 rx) none (st (st (Nat.div rx 4503599627370496) fun bx => narrowB sg rx bx) narrowC)
def narrow0 (x : Nat) : Option Nat := st (Nat.mul 2147483648 (Nat.mod (Nat.div x 9223372036854775808) 2)) fun sg => st (Nat.mod x 9223372036854775808) fun rx => narrowA sg rx
def wide (x : Nat) : Option Nat := fo (st x wide0)
def narrow (x : Nat) : Option Nat := fo (st x narrow0)
theorem wide_0 (x : Nat) : wide x = wide0 x := by simp only [wide, fo_eq, st_eq]
theorem narrow_0 (x : Nat) : narrow x = narrow0 x := by simp only [narrow, fo_eq, st_eq]
theorem sgnif (sw x : Nat) (n : Nat) : sw * (n % 2) = if (n % 2 == 1) = true then sw else 0 := by
  rcases Nat.mod_two_eq_zero_or_one n with h | h <;> rw [h] <;> simp
theorem wide_eq {x r : Nat} (h : wide x = some r) : floatToFloatBits .f32 x .f64 = some r := by
  obtain ⟨h1, h2, h3, h4, h5⟩ := cS
  obtain ⟨k1, k2, k3, k4, k5⟩ := cD
  rw [wide_0] at h
  unfold wide0 wideA wideC wideB at h
  simp only [st_eq] at h
  cases c1 : Nat.ble 2139095040 (Nat.mod x 2147483648)
  · rw [c1] at h
    change cond (Nat.ble 9218868437227405312 (Nat.mod (near 52 0 4503599627370496 9218868437227405312 (9223372036854775808 * (x / 2147483648 % 2)) (sig 8388608 (x % 2147483648 / 8388608) (x % 2147483648)) ((x % 2147483648 / 8388608 - 1) + 925)) 9223372036854775808)) none (some _) = some r at h
    have hr := read_fin single x (by rw [h4, h3]; exact not_ble c1)
    rw [h4, h2, h5] at hr
    unfold floatToFloatBits
    rw [if_neg (by decide)]
    have hr' : FloatKind.f32.decode x = _ := hr
    rw [hr']
    simp only []
    have hn : FloatKind.f64.encode (.number (x / 2147483648 % 2 == 1) (sig 8388608 (x % 2147483648 / 8388608) (x % 2147483648)) (-149 + ((x % 2147483648 / 8388608 - 1 : Nat) : Int))) =
        near 52 0 4503599627370496 9218868437227405312 (9223372036854775808 * (x / 2147483648 % 2)) (sig 8388608 (x % 2147483648 / 8388608) (x % 2147483648)) ((x % 2147483648 / 8388608 - 1) + 925) := by
      show double.nearest _ _ _ = _
      rw [near_eq double 1074 0 _ _ ((x % 2147483648 / 8388608 - 1) + 925) _ (by omega) (by rw [k5]; rfl), k1, k2, k3, k4, sgnif _ 0]
    rw [hn]
    generalize near 52 0 4503599627370496 9218868437227405312 (9223372036854775808 * (x / 2147483648 % 2)) (sig 8388608 (x % 2147483648 / 8388608) (x % 2147483648)) ((x % 2147483648 / 8388608 - 1) + 925) = q at h ⊢
    cases c2 : Nat.ble 9218868437227405312 (Nat.mod q 9223372036854775808)
    · rw [c2] at h
      have hq := read_fin double q (by rw [k4, k3]; exact not_ble c2)
      have hq' : FloatKind.f64.decode q = _ := hq
      rw [hq']
      exact h
    · rw [c2] at h; cases h
  · rw [c1] at h; cases h
theorem narrow_eq {x r : Nat} (h : narrow x = some r) : floatToFloatBits .f64 x .f32 = some r := by
  obtain ⟨k1, k2, k3, k4, k5⟩ := cS
  obtain ⟨h1, h2, h3, h4, h5⟩ := cD
  rw [narrow_0] at h
  unfold narrow0 narrowA narrowC narrowB at h
  simp only [st_eq] at h
  cases c1 : Nat.ble 9218868437227405312 (Nat.mod x 9223372036854775808)
  · rw [c1] at h
    change cond (Nat.ble 2139095040 (Nat.mod (near 23 925 8388608 2139095040 (2147483648 * (x / 9223372036854775808 % 2)) (sig 4503599627370496 (x % 9223372036854775808 / 4503599627370496) (x % 9223372036854775808)) (x % 9223372036854775808 / 4503599627370496 - 1)) 2147483648)) none (some _) = some r at h
    have hr := read_fin double x (by rw [h4, h3]; exact not_ble c1)
    rw [h4, h2, h5] at hr
    unfold floatToFloatBits
    rw [if_neg (by decide)]
    have hr' : FloatKind.f64.decode x = _ := hr
    rw [hr']
    simp only []
    have hn : FloatKind.f32.encode (.number (x / 9223372036854775808 % 2 == 1) (sig 4503599627370496 (x % 9223372036854775808 / 4503599627370496) (x % 9223372036854775808)) (-1074 + ((x % 9223372036854775808 / 4503599627370496 - 1 : Nat) : Int))) =
        near 23 925 8388608 2139095040 (2147483648 * (x / 9223372036854775808 % 2)) (sig 4503599627370496 (x % 9223372036854775808 / 4503599627370496) (x % 9223372036854775808)) (x % 9223372036854775808 / 4503599627370496 - 1) := by
      show single.nearest _ _ _ = _
      rw [near_eq single 1074 925 _ _ (x % 9223372036854775808 / 4503599627370496 - 1) _ (by omega) (by rw [k5]; rfl), k1, k2, k3, k4, sgnif _ 0]
    rw [hn]
    generalize near 23 925 8388608 2139095040 (2147483648 * (x / 9223372036854775808 % 2)) (sig 4503599627370496 (x % 9223372036854775808 / 4503599627370496) (x % 9223372036854775808)) (x % 9223372036854775808 / 4503599627370496 - 1) = q at h ⊢
    cases c2 : Nat.ble 2139095040 (Nat.mod q 2147483648)
    · rw [c2] at h
      have hq := read_fin single q (by rw [k4, k3]; exact not_ble c2)
      have hq' : FloatKind.f32.decode q = _ := hq
      rw [hq']
      exact h
    · rw [c2] at h; cases h
  · rw [c1] at h; cases h

/-- a whole number as a double, as a single -/
def ofNatD (n : Nat) : Nat := near 52 0 4503599627370496 9218868437227405312 0 n 1074
def ofNatS (n : Nat) : Nat := near 23 0 8388608 2139095040 0 n 149
theorem ofNatD_eq (n : Nat) : FloatKind.f64.nearest (n : Int) = ofNatD n := by
  obtain ⟨k1, k2, k3, k4, k5⟩ := cD
  show double.nearest (decide ((n : Int) < 0)) ((n : Int).natAbs) 0 = _
  rw [show decide ((n : Int) < 0) = false by simp, Int.natAbs_natCast, near_eq double 1074 0 _ _ 1074 0 (by omega) (by rw [k5]; rfl), k1, k2, k3]
  rfl
theorem ofNatS_eq (n : Nat) : FloatKind.f32.nearest (n : Int) = ofNatS n := by
  obtain ⟨k1, k2, k3, k4, k5⟩ := cS
  show single.nearest (decide ((n : Int) < 0)) ((n : Int).natAbs) 0 = _
  rw [show decide ((n : Int) < 0) = false by simp, Int.natAbs_natCast, near_eq single 149 0 _ _ 149 0 (by omega) (by rw [k5]; rfl), k1, k2, k3]
  rfl
end Q
