/- Fast words: dividing, square roots, order, conversions; the double and the single format. -/
import Derived.Test.YtdjhgnpllnmdmaaQ2
import Derived.Laws.FloatArith
set_option linter.unusedVariables false
set_option linter.unusedSectionVars false
set_option linter.unusedSimpArgs false
namespace Q
open Ieee

/-! ## dividing -/
def divD (fb K lb bn inf sg m n ex ey more dv : Nat) : Nat :=
  st (Nat.add (Nat.mul 2 (Nat.div dv n)) (cond (Nat.beq (Nat.mod dv n) 0) 0 1)) fun mag => near fb lb bn inf sg mag (Nat.sub (Nat.add ex K) (Nat.add ey (Nat.succ more)))
def divC (fb K lb bn inf sg m n ex ey more : Nat) : Option Nat :=
  cond (Nat.ble (Nat.add ey (Nat.succ more)) (Nat.add ex K)) (st (st (Nat.shiftLeft m more) fun dv => divD fb K lb bn inf sg m n ex ey more dv) some) none
def divA (fb K lb bn inf sg m n ex ey : Nat) : Option Nat :=
  cond (Nat.beq n 0) none (st (Nat.sub (Nat.add (Nat.add fb 2) (lg n)) (lg m)) fun more => divC fb K lb bn inf sg m n ex ey more)
def divB (fb K lb bn inf sg rx ry bx by_ : Nat) : Option Nat := st (sig bn bx rx) fun m => st (sig bn by_ ry) fun n => divA fb K lb bn inf sg m n (Nat.pred bx) (Nat.pred by_)
def divR (fb K lb bn inf sg rx ry : Nat) : Option Nat :=
  cond (or (Nat.ble inf rx) (Nat.ble inf ry)) none (st (Nat.div rx bn) fun bx => st (Nat.div ry bn) fun by_ => divB fb K lb bn inf sg rx ry bx by_)
def divG (fb K lb bn inf sw x y : Nat) : Option Nat := st (sgn sw x y) fun sg => st (Nat.mod x sw) fun rx => st (Nat.mod y sw) fun ry => divR fb K lb bn inf sg rx ry
theorem divG_eq (f : Format) (K lb : Nat) (hl : f.leastPlace + (K : Int) = (lb : Int)) (x y r : Nat) (h : divG f.fractionBits K lb f.binade f.infRung f.signWeight x y = some r) : f.div x y = some r := by
  unfold divG divR divB divA divC divD at h
  simp only [st_eq, lg_eq] at h
  cases h1 : Nat.ble f.infRung (Nat.mod x f.signWeight)
  · cases h2 : Nat.ble f.infRung (Nat.mod y f.signWeight)
    · rw [h1, h2] at h
      unfold Format.div
      rw [read_fin f x (not_ble h1), read_fin f y (not_ble h2)]
      unfold Datum.quotient
      change cond (Nat.beq (sig f.binade (y % f.signWeight / f.binade) (y % f.signWeight)) 0) none _ = some r at h
      rw [sgn_eq] at h
      change cond (Nat.beq (sig f.binade (y % f.signWeight / f.binade) (y % f.signWeight)) 0) none
        (cond (Nat.ble ((y % f.signWeight / f.binade - 1) + ((f.fractionBits + 2 + (sig f.binade (y % f.signWeight / f.binade) (y % f.signWeight)).log2) - (sig f.binade (x % f.signWeight / f.binade) (x % f.signWeight)).log2 + 1)) ((x % f.signWeight / f.binade - 1) + K)) _ none) = some r at h
      change cond (Nat.beq (sig f.binade (y % f.signWeight / f.binade) (y % f.signWeight)) 0) none
        (cond (Nat.ble ((y % f.signWeight / f.binade - 1) + ((f.fractionBits + 2 + (sig f.binade (y % f.signWeight / f.binade) (y % f.signWeight)).log2) - (sig f.binade (x % f.signWeight / f.binade) (x % f.signWeight)).log2 + 1)) ((x % f.signWeight / f.binade - 1) + K))
          (some (near f.fractionBits lb f.binade f.infRung (if ((x / f.signWeight % 2 == 1) ^^ (y / f.signWeight % 2 == 1)) then f.signWeight else 0)
            (2 * (sig f.binade (x % f.signWeight / f.binade) (x % f.signWeight) <<< ((f.fractionBits + 2 + (sig f.binade (y % f.signWeight / f.binade) (y % f.signWeight)).log2) - (sig f.binade (x % f.signWeight / f.binade) (x % f.signWeight)).log2) / sig f.binade (y % f.signWeight / f.binade) (y % f.signWeight)) +
              cond (Nat.beq (sig f.binade (x % f.signWeight / f.binade) (x % f.signWeight) <<< ((f.fractionBits + 2 + (sig f.binade (y % f.signWeight / f.binade) (y % f.signWeight)).log2) - (sig f.binade (x % f.signWeight / f.binade) (x % f.signWeight)).log2) % sig f.binade (y % f.signWeight / f.binade) (y % f.signWeight)) 0) 0 1)
            ((x % f.signWeight / f.binade - 1) + K - ((y % f.signWeight / f.binade - 1) + ((f.fractionBits + 2 + (sig f.binade (y % f.signWeight / f.binade) (y % f.signWeight)).log2) - (sig f.binade (x % f.signWeight / f.binade) (x % f.signWeight)).log2 + 1))))) none) = some r at h
      generalize sig f.binade (x % f.signWeight / f.binade) (x % f.signWeight) = m at *
      generalize sig f.binade (y % f.signWeight / f.binade) (y % f.signWeight) = n at *
      generalize x % f.signWeight / f.binade - 1 = ex at *
      generalize y % f.signWeight / f.binade - 1 = ey at *
      by_cases hn : n = 0
      · subst hn
        cases h
      · rw [beq_false hn, cond_false] at h
        simp only [hn, if_false]
        generalize f.fractionBits + 2 + n.log2 - m.log2 = more at *
        cases hb : Nat.ble (ey + (more + 1)) (ex + K)
        · rw [hb] at h; cases h
        · rw [hb, cond_true] at h
          have hle := ble_true hb
          rw [← h]
          show some (f.nearest _ _ _) = _
          congr 1
          rw [near_eq f K lb _ _ (ex + K - (ey + (more + 1))) _ (show f.leastPlace + (ex : Int) - (f.leastPlace + (ey : Int)) - (more : Int) - 1 = ((ex + K - (ey + (more + 1)) : Nat) : Int) - (K : Int) by omega) hl]
          congr 1
          generalize m <<< more % n = q
          congr 1
          cases q <;> rfl
    · rw [h1, h2] at h; cases h
  · rw [h1] at h; cases h

/-! ## square roots, of doubles -/
theorem rootFrom_eq (n w : Nat) (hw : w * w ≤ n) (hw2 : n < (w + 1) * (w + 1)) : ∀ todo root, root * root ≤ n → n < (root + 2 ^ todo) * (root + 2 ^ todo) → Datum.rootFrom n todo root = w := by
  intro todo
  induction todo with
  | zero =>
    intro root h1 h2
    show root = w
    rw [Nat.pow_zero] at h2
    rcases Nat.lt_trichotomy root w with h | h | h
    · have := Nat.mul_le_mul (show root + 1 ≤ w from h) (show root + 1 ≤ w from h); omega
    · exact h
    · have := Nat.mul_le_mul (show w + 1 ≤ root from h) (show w + 1 ≤ root from h); omega
  | succ t ih =>
    intro root h1 h2
    unfold Datum.rootFrom
    simp only [Nat.one_shiftLeft]
    by_cases hb : (root + 2 ^ t) * (root + 2 ^ t) ≤ n
    · rw [if_pos hb]
      refine ih _ hb ?_
      rw [Nat.pow_succ] at h2
      rw [show root + 2 ^ t + 2 ^ t = root + 2 ^ t * 2 by omega]
      exact h2
    · rw [if_neg hb]
      exact ih _ h1 (by omega)
def nw (n r : Nat) : Nat := Nat.div (Nat.add r (Nat.div n r)) 2
def nw2 (n r : Nat) : Nat := st (nw n r) fun r => nw n r
def nw4 (n r : Nat) : Nat := st (nw2 n r) fun r => nw2 n r
def nw8 (n r : Nat) : Nat := st (nw4 n r) fun r => nw4 n r
def isC (n r : Nat) : Nat := cond (and (Nat.ble (Nat.mul r r) n) (Nat.ble (Nat.succ n) (Nat.mul (Nat.succ r) (Nat.succ r)))) r (Datum.rootFrom n (Nat.add (Nat.div (Nat.log2 n) 2) 1) 0)
def isq (n : Nat) : Nat := st (st (Nat.shiftLeft 1 (Nat.succ (Nat.div (lg n) 2))) fun r => nw8 n r) fun r => isC n r
theorem isq_eq (n : Nat) : isq n = Datum.rootFrom n (n.log2 / 2 + 1) 0 := by
  unfold isq
  simp only [st_eq]
  generalize nw8 n _ = r
  unfold isC
  cases h : (Nat.ble (Nat.mul r r) n && Nat.ble (Nat.succ n) (Nat.mul (Nat.succ r) (Nat.succ r)))
  · rfl
  · rw [Bool.and_eq_true] at h
    have h1 : r * r ≤ n := ble_true h.1
    have h2 : n < (r + 1) * (r + 1) := ble_true h.2
    rw [cond_true]
    refine (rootFrom_eq n r h1 h2 _ 0 (Nat.zero_le _) ?_).symm
    rw [Nat.zero_add, ← Nat.pow_add]
    exact Nat.lt_of_lt_of_le Nat.lt_log2_self (Nat.pow_le_pow_right (by decide) (by omega))
def sqW (m ex more n w : Nat) : Nat :=
  st (Nat.add (Nat.mul 2 w) (cond (Nat.beq (Nat.mul w w) n) 0 1)) fun mag => near 52 464 4503599627370496 9218868437227405312 0 mag (Nat.div (Nat.sub (Nat.add ex 2000) more) 2)
def sqN (m ex more n : Nat) : Nat := st (isq n) fun w => sqW m ex more n w
def sqM (m ex more : Nat) : Option Nat := cond (Nat.ble more (Nat.add ex 2000)) (st (st (Nat.shiftLeft m more) fun n => sqN m ex more n) some) none
def sqA (m ex : Nat) : Option Nat := cond (Nat.beq m 0) none (st (Nat.sub 108 (lg m)) fun o => st (Nat.add o (Nat.mod (Nat.add ex o) 2)) fun more => sqM m ex more)
def sqB (rx bx : Nat) : Option Nat := st (sig 4503599627370496 bx rx) fun m => sqA m (Nat.pred bx)
/-- the root of a double that is not negative -/
def sqrt (x : Nat) : Option Nat := cond (Nat.ble 9218868437227405312 x) none (st (Nat.div x 4503599627370496) fun bx => sqB x bx)
def sqF2 (m ex more : Nat) : Option Nat :=
  cond (Nat.ble more (ex + 2000)) (some (near 52 464 4503599627370496 9218868437227405312 0
    (2 * Datum.rootFrom (m <<< more) ((m <<< more).log2 / 2 + 1) 0 + cond (Nat.beq (Datum.rootFrom (m <<< more) ((m <<< more).log2 / 2 + 1) 0 * Datum.rootFrom (m <<< more) ((m <<< more).log2 / 2 + 1) 0) (m <<< more)) 0 1)
    ((ex + 2000 - more) / 2))) none
def sqF (m ex : Nat) : Option Nat := cond (Nat.beq m 0) none (sqF2 m ex ((108 - m.log2) + (ex + (108 - m.log2)) % 2))
theorem sqM_eq (m ex more : Nat) : sqM m ex more = sqF2 m ex more := by
  unfold sqM sqN sqW sqF2
  simp only [st_eq, isq_eq]
  rfl
theorem sqB_eq (x : Nat) : sqB x (x / 4503599627370496) = sqF (sig 4503599627370496 (x / 4503599627370496) x) (x / 4503599627370496 - 1) := by
  unfold sqB sqA sqF
  simp only [st_eq, lg_eq, sqM_eq]
  rfl
theorem sqrt_eq (x r : Nat) (h : sqrt x = some r) : double.sqrt x = some r := by
  unfold sqrt at h
  cases h1 : Nat.ble 9218868437227405312 x
  · have hx : x < 9218868437227405312 := not_ble h1
    have hsw : double.signWeight = 9223372036854775808 := by decide +kernel
    have hinf : double.infRung = 9218868437227405312 := by decide +kernel
    have hbn : double.binade = 4503599627370496 := by decide +kernel
    have hlp : double.leastPlace = -1074 := by decide +kernel
    have hmod : x % double.signWeight = x := by rw [hsw]; exact Nat.mod_eq_of_lt (by omega)
    have hdiv : x / double.signWeight = 0 := by rw [hsw]; exact Nat.div_eq_of_lt (by omega)
    rw [h1, cond_false, st_eq] at h
    replace h : sqB x (x / 4503599627370496) = some r := h
    rw [sqB_eq] at h
    unfold Format.sqrt
    rw [read_fin double x (by rw [hmod, hinf]; exact hx), hmod, hdiv, hbn, hlp]
    unfold Datum.root
    generalize sig 4503599627370496 (x / 4503599627370496) x = m at *
    generalize hex : x / 4503599627370496 - 1 = ex at *
    unfold sqF at h
    by_cases hm : m = 0
    · subst hm; cases h
    · rw [beq_false hm, cond_false] at h
      simp only [hm, if_false]
      have hfb : double.fractionBits + 2 = 54 := rfl
      rw [hfb]
      have hpar : ((-1074 + (ex : Int) - ((2 * 54 - m.log2 : Nat) : Int)) % 2).toNat = (ex + (108 - m.log2)) % 2 := by omega
      simp only [hpar]
      have hmm : 2 * 54 - m.log2 = 108 - m.log2 := rfl
      rw [hmm]
      have hlt : 108 - m.log2 + (ex + (108 - m.log2)) % 2 ≤ 109 := by omega
      have hev : (ex + (108 - m.log2 + (ex + (108 - m.log2)) % 2)) % 2 = 0 := by omega
      generalize 108 - m.log2 + (ex + (108 - m.log2)) % 2 = more at *
      unfold sqF2 at h
      rw [Nat.ble_eq_true_of_le (show more ≤ ex + 2000 by omega), cond_true] at h
      rw [← h]
      show some (double.nearest _ _ _) = some _
      congr 1
      rw [near_eq double 1538 464 false _ ((ex + 2000 - more) / 2) ((-1074 + (ex : Int) - (more : Int)) / 2 - 1) (by omega) (by rw [hlp]; omega)]
      rw [hinf, hbn]
      have hs : ∀ a b : Nat, (a != b).toNat = cond (Nat.beq a b) 0 1 := by
        intro a b
        by_cases hab : a = b
        · subst hab; simp
        · rw [beq_false hab]
          have : (a != b) = true := by simpa using hab
          rw [this]; rfl
      rw [hs]
      rfl
  · rw [h1] at h; cases h

/-! ## order -/
def cmp (A B : Nat) : Ordering := cond (Nat.ble (Nat.succ A) B) .lt (cond (Nat.beq A B) .eq .gt)
def ordA (sx sy A B : Nat) : Ordering :=
  cond (Nat.beq sx sy) (cond (Nat.beq sx 0) (cmp A B) (cmp B A)) (cond (Nat.beq (Nat.add A B) 0) .eq (cond (Nat.beq sx 0) .gt .lt))
def ordE (sx sy mx my ex ey E : Nat) : Ordering := st (Nat.shiftLeft mx (Nat.sub ex E)) fun A => st (Nat.shiftLeft my (Nat.sub ey E)) fun B => ordA sx sy A B
def ordB (bn sx sy rx ry bx by_ : Nat) : Ordering :=
  st (sig bn bx rx) fun mx => st (sig bn by_ ry) fun my => st (Nat.pred bx) fun ex => st (Nat.pred by_) fun ey => st (mn ex ey) fun E => ordE sx sy mx my ex ey E
def ordR (bn inf sx sy rx ry : Nat) : Option Ordering := cond (or (Nat.ble inf rx) (Nat.ble inf ry)) none (some (ordB bn sx sy rx ry (Nat.div rx bn) (Nat.div ry bn)))
def ordG (bn inf sw x y : Nat) : Option Ordering :=
  st (Nat.mod (Nat.div x sw) 2) fun sx => st (Nat.mod (Nat.div y sw) 2) fun sy => st (Nat.mod x sw) fun rx => st (Nat.mod y sw) fun ry => ordR bn inf sx sy rx ry
theorem cmp_eq (A B : Nat) : cmp A B = compare (A : Int) (B : Int) := by
  unfold cmp
  rcases Nat.lt_trichotomy A B with h | h | h
  · rw [Nat.ble_eq_true_of_le (show A.succ ≤ B from h), cond_true]
    exact (Int.compare_eq_lt.2 (by omega)).symm
  · subst h
    rw [ble_false (show A < A.succ by omega), cond_false]
    rw [show Nat.beq A A = true from Nat.beq_refl A, cond_true]
    exact (Int.compare_eq_eq.2 rfl).symm
  · rw [ble_false (show B < A.succ by omega), cond_false, beq_false (by omega), cond_false]
    exact (Int.compare_eq_gt.2 (by omega)).symm
theorem ordA_eq (s t : Bool) (A B : Nat) : ordA s.toNat t.toNat A B = compare (if s then -(A : Int) else A) (if t then -(B : Int) else B) := by
  unfold ordA
  cases s <;> cases t
  · exact cmp_eq A B
  · show cond (Nat.beq (A + B) 0) _ _ = compare (A : Int) (-(B : Int))
    by_cases h : A + B = 0
    · obtain ⟨rfl, rfl⟩ : A = 0 ∧ B = 0 := by omega
      rfl
    · rw [beq_false h]
      exact (Int.compare_eq_gt.2 (by omega)).symm
  · show cond (Nat.beq (A + B) 0) _ _ = compare (-(A : Int)) (B : Int)
    by_cases h : A + B = 0
    · obtain ⟨rfl, rfl⟩ : A = 0 ∧ B = 0 := by omega
      rfl
    · rw [beq_false h]
      exact (Int.compare_eq_lt.2 (by omega)).symm
  · show cmp B A = compare (-(A : Int)) (-(B : Int))
    rw [cmp_eq]
    rcases Nat.lt_trichotomy A B with h | h | h
    · rw [Int.compare_eq_gt.2 (by omega), Int.compare_eq_gt.2 (by omega)]
    · subst h; rw [Int.compare_eq_eq.2 rfl, Int.compare_eq_eq.2 rfl]
    · rw [Int.compare_eq_lt.2 (by omega), Int.compare_eq_lt.2 (by omega)]
theorem ordG_eq (f : Format) (x y : Nat) (o : Ordering) (h : ordG f.binade f.infRung f.signWeight x y = some o) : f.order x y = some o := by
  unfold ordG ordR ordB ordE at h
  simp only [st_eq, mn_eq] at h
  cases h1 : Nat.ble f.infRung (Nat.mod x f.signWeight)
  · cases h2 : Nat.ble f.infRung (Nat.mod y f.signWeight)
    · rw [h1, h2] at h
      unfold Format.order
      rw [read_fin f x (not_ble h1), read_fin f y (not_ble h2)]
      have h' := Option.some.inj h
      change ordA (x / f.signWeight % 2) (y / f.signWeight % 2) _ _ = o at h'
      rw [← bit_toNat (x / f.signWeight), ← bit_toNat (y / f.signWeight), ordA_eq] at h'
      rw [← h']
      show some (compare _ _) = some _
      congr 1
      generalize hex : x % f.signWeight / f.binade - 1 = ex at *
      generalize hey : y % f.signWeight / f.binade - 1 = ey at *
      have q1 : (Nat.mod x f.signWeight).div f.binade - 1 = ex := hex
      have q2 : (Nat.mod y f.signWeight).div f.binade - 1 = ey := hey
      have e1 : (f.leastPlace + (ex : Int) - min (f.leastPlace + (ex : Int)) (f.leastPlace + (ey : Int))).toNat = ex - min ex ey := by omega
      have e2 : (f.leastPlace + (ey : Int) - min (f.leastPlace + (ex : Int)) (f.leastPlace + (ey : Int))).toNat = ey - min ex ey := by omega
      simp only [e1, e2]
      have p1 : ((Nat.mod x f.signWeight).div f.binade).pred = ex := q1
      have p2 : ((Nat.mod y f.signWeight).div f.binade).pred = ey := q2
      rw [p1, p2]
      unfold signed
      rfl
    · rw [h1, h2] at h; cases h
  · rw [h1] at h; cases h
end Q
