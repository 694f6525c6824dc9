/- Fast words: multiplying, adding, dividing. -/
import Derived.Test.YtdjhgnpllnmdmaaQ1
set_option linter.unusedVariables false
set_option linter.unusedSectionVars false
set_option linter.unusedSimpArgs false
namespace Q
open Ieee

def sig (bn b r : Nat) : Nat := cond (Nat.beq b 0) r (Nat.add bn (Nat.mod r bn))
theorem beq_false {a b : Nat} (h : a ≠ b) : Nat.beq a b = false := by
  cases hh : Nat.beq a b
  · rfl
  · exact absurd (Nat.eq_of_beq_eq_true hh) h
theorem ble_false {a b : Nat} (h : b < a) : Nat.ble a b = false := by
  cases hh : Nat.ble a b
  · rfl
  · have := Nat.le_of_ble_eq_true hh; omega
theorem ble_true {a b : Nat} (h : Nat.ble a b = true) : a ≤ b := Nat.le_of_ble_eq_true h
theorem not_ble {a b : Nat} (h : Nat.ble a b = false) : b < a := by
  apply Nat.lt_of_not_le
  intro hc
  rw [Nat.ble_eq_true_of_le hc] at h
  cases h

theorem bn_pos (f : Format) : 0 < f.binade := Nat.two_pow_pos _
theorem sw_pos (f : Format) : 0 < f.signWeight := Nat.two_pow_pos _
theorem read_fin (f : Format) (x : Nat) (h : x % f.signWeight < f.infRung) :
    f.read x = .number (x / f.signWeight % 2 == 1) (sig f.binade (x % f.signWeight / f.binade) (x % f.signWeight)) (f.leastPlace + ((x % f.signWeight / f.binade - 1 : Nat) : Int)) := by
  unfold Format.read
  generalize x % f.signWeight = r at *
  by_cases hb : r < f.binade
  · simp only [hb, if_true]
    have : r / f.binade = 0 := Nat.div_eq_of_lt hb
    rw [this]
    simp [sig]
  · have hne : r / f.binade ≠ 0 := by
      have := Nat.div_pos (Nat.le_of_not_lt hb) (bn_pos f)
      omega
    simp only [hb, h, if_true, if_false]
    unfold sig
    rw [beq_false hne]
    rfl

/-- the sign of a product -/
def sgn (sw x y : Nat) : Nat := Nat.mul sw (Nat.mod (Nat.add (Nat.div x sw) (Nat.div y sw)) 2)
theorem sgn_eq (sw x y : Nat) : sgn sw x y = if ((x / sw % 2 == 1) ^^ (y / sw % 2 == 1)) then sw else 0 := by
  show sw * ((x / sw + y / sw) % 2) = _
  rcases Nat.mod_two_eq_zero_or_one (x / sw) with h | h <;> rcases Nat.mod_two_eq_zero_or_one (y / sw) with k | k <;> rw [h, k]
  · rw [show (x / sw + y / sw) % 2 = 0 by omega]; simp
  · rw [show (x / sw + y / sw) % 2 = 1 by omega]; simp
  · rw [show (x / sw + y / sw) % 2 = 1 by omega]; simp
  · rw [show (x / sw + y / sw) % 2 = 0 by omega]; simp

/-! ## multiplying -/
def mulC (fb lb bn inf sg rx ry bx by_ : Nat) : Nat :=
  st (Nat.mul (sig bn bx rx) (sig bn by_ ry)) fun mag => st (Nat.add (Nat.pred bx) (Nat.pred by_)) fun E => near fb lb bn inf sg mag E
def mulB (fb lb bn inf sg rx ry : Nat) : Option Nat :=
  cond (or (Nat.ble inf rx) (Nat.ble inf ry)) none (st (mulC fb lb bn inf sg rx ry (Nat.div rx bn) (Nat.div ry bn)) some)
def mulG (fb lb bn inf sw x y : Nat) : Option Nat := st (sgn sw x y) fun sg => st (Nat.mod x sw) fun rx => st (Nat.mod y sw) fun ry => mulB fb lb bn inf sg rx ry
theorem mulG_eq (f : Format) (lb : Nat) (hl : f.leastPlace + (lb : Int) = 0) (x y r : Nat) (h : mulG f.fractionBits lb f.binade f.infRung f.signWeight x y = some r) : f.mul x y = some r := by
  unfold mulG mulB at h
  simp only [st_eq] at h
  cases h1 : Nat.ble f.infRung (Nat.mod x f.signWeight)
  · cases h2 : Nat.ble f.infRung (Nat.mod y f.signWeight)
    · rw [h1, h2] at h
      have h' : mulC f.fractionBits lb f.binade f.infRung (sgn f.signWeight x y) (x % f.signWeight) (y % f.signWeight) (x % f.signWeight / f.binade) (y % f.signWeight / f.binade) = r := Option.some.inj h
      unfold mulC at h'
      simp only [st_eq] at h'
      unfold Format.mul
      rw [read_fin f x (not_ble h1), read_fin f y (not_ble h2)]
      show some (f.nearest _ _ _) = some r
      rw [near_eq f (lb + lb) lb _ _ ((x % f.signWeight / f.binade - 1) + (y % f.signWeight / f.binade - 1)) _ (by omega) (by omega), ← sgn_eq, ← h']
      rfl
    · rw [h1, h2] at h; cases h
  · rw [h1] at h; cases h

/-! ## adding -/
def addC (fb bn inf sw sx sy A B E : Nat) : Nat :=
  cond (Nat.beq sx sy) (near fb 0 bn inf (Nat.mul sw sx) (Nat.add A B) E)
    (cond (Nat.ble (Nat.succ B) A) (near fb 0 bn inf (Nat.mul sw sx) (Nat.sub A B) E)
      (cond (Nat.ble (Nat.succ A) B) (near fb 0 bn inf (Nat.mul sw sy) (Nat.sub B A) E) 0))
def mn (a b : Nat) : Nat := cond (Nat.ble a b) a b
theorem mn_eq (a b : Nat) : mn a b = min a b := by
  unfold mn
  cases h : Nat.ble a b
  · have := not_ble h; show b = _; omega
  · have := ble_true h; show a = _; omega
def addA (fb bn inf sw sx sy mx my ex ey E : Nat) : Nat :=
  st (Nat.shiftLeft mx (Nat.sub ex E)) fun A => st (Nat.shiftLeft my (Nat.sub ey E)) fun B => addC fb bn inf sw sx sy A B E
def addE (fb bn inf sw sx sy mx my ex ey : Nat) : Nat := st (mn ex ey) fun E => addA fb bn inf sw sx sy mx my ex ey E
def addB (fb bn inf sw sx sy rx ry bx by_ : Nat) : Nat :=
  st (sig bn bx rx) fun mx => st (sig bn by_ ry) fun my => st (Nat.pred bx) fun ex => st (Nat.pred by_) fun ey => addE fb bn inf sw sx sy mx my ex ey
def addR (fb bn inf sw sx sy rx ry : Nat) : Option Nat :=
  cond (or (Nat.ble inf rx) (Nat.ble inf ry)) none (st (addB fb bn inf sw sx sy rx ry (Nat.div rx bn) (Nat.div ry bn)) some)
/-- x + y (flip = 0), x - y (flip = 1) -/
def addG (fb bn inf sw flip x y : Nat) : Option Nat :=
  st (Nat.mod (Nat.div x sw) 2) fun sx => st (Nat.mod (Nat.add (Nat.div y sw) flip) 2) fun sy => st (Nat.mod x sw) fun rx => st (Nat.mod y sw) fun ry => addR fb bn inf sw sx sy rx ry

theorem addC_eq (f : Format) (lb : Nat) (hl : f.leastPlace + (lb : Int) = 0) (s t : Bool) (A B E : Nat) (base : Int) (hb : base = (E : Int) - lb) (total : Int)
    (ht : total = (if s then -(A : Int) else A) + (if t then -(B : Int) else B)) :
    f.nearest (if total = 0 then s && t else decide (total < 0)) total.natAbs base = addC f.fractionBits f.binade f.infRung f.signWeight s.toNat t.toNat A B E := by
  rw [near_eq f lb 0 _ _ E base hb (by omega)]
  unfold addC
  have c1 : f.signWeight * 1 = f.signWeight := Nat.mul_one _
  have c0 : f.signWeight * 0 = 0 := Nat.mul_zero _
  have hz : near f.fractionBits 0 f.binade f.infRung 0 0 E = 0 := rfl
  cases s <;> cases t
  · have e : total.natAbs = A + B := by simp at ht; omega
    have e2 : (if (if total = 0 then (false && false) else decide (total < 0)) = true then f.signWeight else 0) = 0 := by
      simp only [Bool.false_eq_true, if_false] at ht
      by_cases h : total = 0
      · simp [h]
      · have : ¬ total < 0 := by omega
        simp [h, this]
    rw [e, e2]
    show _ = near _ _ _ _ (f.signWeight * 0) (A + B) E
    rw [c0]
  · simp only [Bool.false_eq_true, if_false, if_true] at ht
    show _ = cond (Nat.ble (B + 1) A) (near _ _ _ _ (f.signWeight * 0) (A - B) E) (cond (Nat.ble (A + 1) B) (near _ _ _ _ (f.signWeight * 1) (B - A) E) 0)
    rw [c0, c1]
    by_cases h1 : B < A
    · rw [Nat.ble_eq_true_of_le (show B + 1 ≤ A from h1), cond_true]
      have : ¬ total < 0 := by omega
      have h0 : total ≠ 0 := by omega
      rw [show total.natAbs = A - B by omega]
      simp [h0, this]
    · rw [ble_false (show A < B + 1 by omega), cond_false]
      by_cases h2 : A < B
      · rw [Nat.ble_eq_true_of_le (show A + 1 ≤ B from h2), cond_true]
        have : total < 0 := by omega
        have h0 : total ≠ 0 := by omega
        rw [show total.natAbs = B - A by omega]
        simp [h0, this]
      · rw [ble_false (show B < A + 1 by omega), cond_false]
        have h0 : total = 0 := by omega
        rw [h0]
        exact hz
  · simp only [Bool.false_eq_true, if_false, if_true] at ht
    show _ = cond (Nat.ble (B + 1) A) (near _ _ _ _ (f.signWeight * 1) (A - B) E) (cond (Nat.ble (A + 1) B) (near _ _ _ _ (f.signWeight * 0) (B - A) E) 0)
    rw [c0, c1]
    by_cases h1 : B < A
    · rw [Nat.ble_eq_true_of_le (show B + 1 ≤ A from h1), cond_true]
      have : total < 0 := by omega
      have h0 : total ≠ 0 := by omega
      rw [show total.natAbs = A - B by omega]
      simp [h0, this]
    · rw [ble_false (show A < B + 1 by omega), cond_false]
      by_cases h2 : A < B
      · rw [Nat.ble_eq_true_of_le (show A + 1 ≤ B from h2), cond_true]
        have : ¬ total < 0 := by omega
        have h0 : total ≠ 0 := by omega
        rw [show total.natAbs = B - A by omega]
        simp [h0, this]
      · rw [ble_false (show B < A + 1 by omega), cond_false]
        have h0 : total = 0 := by omega
        rw [h0]
        exact hz
  · have e : total.natAbs = A + B := by simp at ht; omega
    have e2 : (if (if total = 0 then (true && true) else decide (total < 0)) = true then f.signWeight else 0) = f.signWeight := by
      simp only [if_true] at ht
      by_cases h : total = 0
      · simp [h]
      · have : total < 0 := by omega
        simp [h, this]
    rw [e, e2]
    show _ = near _ _ _ _ (f.signWeight * 1) (A + B) E
    rw [c1]

theorem bit_toNat (n : Nat) : (n % 2 == 1).toNat = n % 2 := by
  rcases Nat.mod_two_eq_zero_or_one n with h | h <;> rw [h] <;> rfl
theorem addR_eq (f : Format) (lb : Nat) (hl : f.leastPlace + (lb : Int) = 0) (s t : Bool) (mx my ex ey r : Nat)
    (h : addE f.fractionBits f.binade f.infRung f.signWeight s.toNat t.toNat mx my ex ey = r) :
    ((Datum.number s mx (f.leastPlace + (ex : Int))).sum (Datum.number t my (f.leastPlace + (ey : Int)))).map f.write = some r := by
  unfold addE addA at h
  simp only [st_eq, mn_eq] at h
  show some (f.nearest _ _ _) = some r
  congr 1
  rw [← h]
  have e1 : (f.leastPlace + (ex : Int) - min (f.leastPlace + (ex : Int)) (f.leastPlace + (ey : Int))).toNat = ex - min ex ey := by omega
  have e2 : (f.leastPlace + (ey : Int) - min (f.leastPlace + (ex : Int)) (f.leastPlace + (ey : Int))).toNat = ey - min ex ey := by omega
  rw [e1, e2]
  exact addC_eq f lb hl s t (mx <<< (ex - min ex ey)) (my <<< (ey - min ex ey)) (min ex ey) _ (by omega) _ (by unfold signed; cases s <;> cases t <;> rfl)
theorem addG_add (f : Format) (lb : Nat) (hl : f.leastPlace + (lb : Int) = 0) (x y r : Nat) (h : addG f.fractionBits f.binade f.infRung f.signWeight 0 x y = some r) : f.add x y = some r := by
  unfold addG addR at h
  simp only [st_eq] at h
  cases h1 : Nat.ble f.infRung (Nat.mod x f.signWeight)
  · cases h2 : Nat.ble f.infRung (Nat.mod y f.signWeight)
    · rw [h1, h2] at h
      have h' : addB f.fractionBits f.binade f.infRung f.signWeight (x / f.signWeight % 2) (y / f.signWeight % 2) (x % f.signWeight) (y % f.signWeight) (x % f.signWeight / f.binade) (y % f.signWeight / f.binade) = r := Option.some.inj h
      unfold addB at h'
      simp only [st_eq] at h'
      unfold Format.add
      rw [read_fin f x (not_ble h1), read_fin f y (not_ble h2)]
      rw [← bit_toNat (x / f.signWeight), ← bit_toNat (y / f.signWeight)] at h'
      exact addR_eq f lb hl _ _ _ _ _ _ r h'
    · rw [h1, h2] at h; cases h
  · rw [h1] at h; cases h
theorem addG_sub (f : Format) (lb : Nat) (hl : f.leastPlace + (lb : Int) = 0) (x y r : Nat) (h : addG f.fractionBits f.binade f.infRung f.signWeight 1 x y = some r) : f.sub x y = some r := by
  unfold addG addR at h
  simp only [st_eq] at h
  cases h1 : Nat.ble f.infRung (Nat.mod x f.signWeight)
  · cases h2 : Nat.ble f.infRung (Nat.mod y f.signWeight)
    · rw [h1, h2] at h
      have h' : addB f.fractionBits f.binade f.infRung f.signWeight (x / f.signWeight % 2) ((y / f.signWeight + 1) % 2) (x % f.signWeight) (y % f.signWeight) (x % f.signWeight / f.binade) (y % f.signWeight / f.binade) = r := Option.some.inj h
      unfold addB at h'
      simp only [st_eq] at h'
      unfold Format.sub
      rw [read_fin f x (not_ble h1), read_fin f y (not_ble h2)]
      have hf : (y / f.signWeight + 1) % 2 = (!(y / f.signWeight % 2 == 1)).toNat := by
        rcases Nat.mod_two_eq_zero_or_one (y / f.signWeight) with k | k
        · rw [k, show (y / f.signWeight + 1) % 2 = 1 by omega]; rfl
        · rw [k, show (y / f.signWeight + 1) % 2 = 0 by omega]; rfl
      rw [hf, ← bit_toNat (x / f.signWeight)] at h'
      exact addR_eq f lb hl _ _ _ _ _ _ r h'
    · rw [h1, h2] at h; cases h
  · rw [h1] at h; cases h
end Q
