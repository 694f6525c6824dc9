import Ieee.Arith
import Derived.Laws.FloatBits
set_option linter.unusedSimpArgs false
set_option linter.unusedVariables false
set_option linter.unusedSectionVars false
namespace Fl
open Ieee

/-! powers of two -/
def pw (e : Int) : Rat := (2 : Rat) ^ e
theorem pw_pos (e : Int) : 0 < pw e := Rat.zpow_pos (by decide)
theorem pw_add (a b : Int) : pw (a + b) = pw a * pw b := Rat.zpow_add (by decide) a b
theorem pw_zero : pw 0 = 1 := Rat.zpow_zero 2
theorem pw_one : pw 1 = 2 := Rat.zpow_one 2
theorem pw_nat (n : Nat) : pw (n : Int) = ((2 ^ n : Nat) : Rat) := by
  unfold pw
  rw [Rat.zpow_natCast]
  induction n with
  | zero => simp
  | succ n ih => rw [Rat.pow_succ, ih, Nat.pow_succ, Rat.natCast_mul]; rfl
theorem pw_succ (e : Int) : pw (e + 1) = 2 * pw e := by rw [pw_add, pw_one]; grind
theorem pw_neg_mul (e : Int) : pw (-e) * pw e = 1 := by rw [← pw_add, show -e + e = 0 by omega, pw_zero]
theorem pw_le {a b : Int} (h : a ≤ b) : pw a ≤ pw b := by
  obtain ⟨n, rfl⟩ : ∃ n : Nat, b = a + n := ⟨(b - a).toNat, by omega⟩
  rw [pw_add, pw_nat]
  have h1 : (1 : Rat) ≤ ((2 ^ n : Nat) : Rat) := by
    have := Nat.one_le_two_pow (n := n)
    exact_mod_cast this
  have := Rat.mul_le_mul_of_nonneg_left h1 (Rat.le_of_lt (pw_pos a))
  grind
theorem pw_lt {a b : Int} (h : a < b) : pw a < pw b := by
  have h1 := pw_le (a := a + 1) (b := b) (by omega)
  rw [pw_succ] at h1
  have := pw_pos a
  grind
theorem pw_lt_iff {a b : Int} : pw a < pw b ↔ a < b := by
  constructor
  · intro h
    rcases Int.lt_or_le a b with h1 | h1
    · exact h1
    · have := pw_le h1; grind
  · exact pw_lt

/-! data -/
def sg (s : Bool) : Rat := if s then -1 else 1
def dv : Datum → Rat
  | .number s m e => sg s * (m : Rat) * pw e
  | _ => 0
def isNum : Datum → Bool
  | .number .. => true
  | _ => false

theorem sg_mul_sg (s : Bool) : sg s * sg s = 1 := by cases s <;> (simp only [sg]; grind)

/-- the cut is within half a unit -/
theorem cut_near (neg : Bool) (n drop : Nat) :
    2 * (Toward.even.cut neg n drop * 2 ^ drop) ≤ 2 * n + 2 ^ drop ∧ 2 * n ≤ 2 * (Toward.even.cut neg n drop * 2 ^ drop) + 2 ^ drop := by
  unfold Toward.cut
  simp only []
  by_cases hd : drop ≤ n.log2 + 2
  · rw [Nat.min_eq_left hd]
    generalize hg : 1 <<< drop = gap
    have hg2 : gap = 2 ^ drop := by rw [← hg]; simp [Nat.shiftLeft_eq]
    have hpos : 0 < gap := by rw [hg2]; exact Nat.two_pow_pos _
    rw [← hg2]
    have hdm := Nat.div_add_mod n gap
    have hml := Nat.mod_lt n hpos
    generalize n / gap = low at *
    generalize n % gap = rest at *
    have hc : gap * low = low * gap := Nat.mul_comm _ _
    by_cases h1 : gap < 2 * rest
    · simp [h1, Nat.add_mul]; omega
    · by_cases h2 : gap = 2 * rest ∧ low % 2 = 1
      · simp [h2.1, h2.2, Nat.add_mul]
        have := h2.1
        subst this
        omega
      · have hb : (gap < 2 * rest || (gap == 2 * rest && low % 2 == 1)) = false := by
          simp only [Bool.or_eq_false_iff, decide_eq_false_iff_not, h1, not_false_eq_true, true_and, Bool.and_eq_false_iff, beq_eq_false_iff_ne]
          by_cases h3 : gap = 2 * rest
          · right; intro h; exact h2 ⟨h3, h⟩
          · left; exact h3
        simp [hb]; omega
  · rw [Nat.min_eq_right (by omega)]
    have hn : n < 2 ^ (n.log2 + 1) := by
      rcases Nat.eq_zero_or_pos n with h | h
      · subst h; exact Nat.two_pow_pos _
      · exact (Nat.log2_lt (by omega)).1 (by omega)
    have h2 : 2 ^ (n.log2 + 2) = 2 * 2 ^ (n.log2 + 1) := by rw [Nat.pow_succ]; omega
    have h3 : 2 ^ (n.log2 + 2) ≤ 2 ^ drop := Nat.pow_le_pow_right (by omega) (by omega)
    have hsh : 1 <<< (n.log2 + 2) = 2 ^ (n.log2 + 2) := by simp [Nat.shiftLeft_eq]
    rw [hsh]
    have hlow : n / 2 ^ (n.log2 + 2) = 0 := Nat.div_eq_of_lt (by omega)
    have hmod : n % 2 ^ (n.log2 + 2) = n := Nat.mod_eq_of_lt (by omega)
    rw [hlow, hmod]
    have hb : (2 ^ (n.log2 + 2) < 2 * n || (2 ^ (n.log2 + 2) == 2 * n && 0 % 2 == 1)) = false := by
      simp; omega
    rw [hb]
    simp
    omega

/-- a multiple of the unit is cut exactly -/
theorem cut_exact (neg : Bool) (k drop : Nat) : Toward.even.cut neg (k * 2 ^ drop) drop = k := by
  have h := cut_near neg (k * 2 ^ drop) drop
  have hp := Nat.two_pow_pos drop
  generalize Toward.even.cut neg (k * 2 ^ drop) drop = c at h
  generalize 2 ^ drop = g at h hp
  rcases Nat.lt_trichotomy c k with hlt | he | hgt
  · exfalso
    have : (c + 1) * g ≤ k * g := Nat.mul_le_mul_right g hlt
    rw [Nat.add_mul] at this
    omega
  · exact he
  · exfalso
    have : (k + 1) * g ≤ c * g := Nat.mul_le_mul_right g hgt
    rw [Nat.add_mul] at this
    omega

/-- what is asked of a format: its greatest power of two -/
structure Ok (f : Format) (E : Int) : Prop where
  inf : f.infRung = (E - f.leastPlace - f.fractionBits + 2).toNat * 2 ^ f.fractionBits
  sw : f.signWeight = f.infRung + 2 ^ f.fractionBits
  fb : 2 ≤ f.fractionBits
  wide : 4 ≤ E - f.leastPlace - f.fractionBits
  low : f.leastPlace < 0
  high : 1 < E

theorem okS : Ok single 127 := ⟨by decide, by decide, by decide, by decide, by decide, by decide⟩
theorem okD : Ok double 1023 := ⟨by decide +kernel, by decide +kernel, by decide, by decide +kernel, by decide +kernel, by decide⟩

def lastOf (f : Format) (mag : Nat) (place : Int) : Int := max (place + mag.log2 - f.fractionBits) f.leastPlace
def keptOf (f : Format) (neg : Bool) (mag : Nat) (place : Int) : Nat :=
  Toward.even.cut neg (mag <<< (place - lastOf f mag place).toNat) (lastOf f mag place - place).toNat

theorem natCast_pos {n : Nat} (h : 0 < n) : (0 : Rat) < (n : Rat) := by exact_mod_cast h

theorem kept_near (f : Format) (neg : Bool) (mag : Nat) (place : Int) :
    2 * ((keptOf f neg mag place : Rat) * pw (lastOf f mag place)) ≤ 2 * ((mag : Rat) * pw place) + pw (lastOf f mag place) ∧
    2 * ((mag : Rat) * pw place) ≤ 2 * ((keptOf f neg mag place : Rat) * pw (lastOf f mag place)) + pw (lastOf f mag place) := by
  unfold keptOf
  generalize lastOf f mag place = last
  by_cases h : last ≤ place
  · have h0 : (last - place).toNat = 0 := by omega
    rw [h0, Nat.shiftLeft_eq]
    have := cut_exact neg (mag * 2 ^ (place - last).toNat) 0
    rw [Nat.pow_zero, Nat.mul_one] at this
    rw [this, Rat.natCast_mul, ← pw_nat]
    have h1 : pw place = pw ((place - last).toNat : Int) * pw last := by rw [← pw_add]; congr 1; omega
    rw [h1]
    have := pw_pos last
    grind
  · have h0 : (place - last).toNat = 0 := by omega
    rw [h0, Nat.shiftLeft_zero]
    obtain ⟨h1, h2⟩ := cut_near neg mag (last - place).toNat
    generalize Toward.even.cut neg mag (last - place).toNat = c at *
    have h3 : pw last = ((2 ^ (last - place).toNat : Nat) : Rat) * pw place := by rw [← pw_nat, ← pw_add]; congr 1; omega
    generalize 2 ^ (last - place).toNat = g at *
    have h1' : (2 * (c * g) : Rat) ≤ 2 * mag + g := by exact_mod_cast h1
    have h2' : (2 * mag : Rat) ≤ 2 * (c * g) + g := by exact_mod_cast h2
    rw [h3]
    have hp := Rat.le_of_lt (pw_pos place)
    have e1 := Rat.mul_le_mul_of_nonneg_left h1' hp
    have e2 := Rat.mul_le_mul_of_nonneg_left h2' hp
    constructor <;> grind

theorem mag_lt (mag : Nat) (place : Int) : (mag : Rat) * pw place < pw (place + mag.log2 + 1) := by
  have h : mag < 2 ^ (mag.log2 + 1) := by
    rcases Nat.eq_zero_or_pos mag with h | h
    · subst h; exact Nat.two_pow_pos _
    · exact (Nat.log2_lt (by omega)).1 (by omega)
  have h' : (mag : Rat) < ((2 ^ (mag.log2 + 1) : Nat) : Rat) := by exact_mod_cast h
  rw [← pw_nat] at h'
  have := Rat.mul_lt_mul_of_pos_left h' (pw_pos place)
  rw [show place + mag.log2 + 1 = place + ((mag.log2 + 1 : Nat) : Int) by omega, pw_add]
  grind
theorem mag_ge (mag : Nat) (h0 : mag ≠ 0) (place : Int) : pw (place + mag.log2) ≤ (mag : Rat) * pw place := by
  have h : 2 ^ mag.log2 ≤ mag := Nat.log2_self_le h0
  have h' : ((2 ^ mag.log2 : Nat) : Rat) ≤ (mag : Rat) := by exact_mod_cast h
  rw [← pw_nat] at h'
  have := Rat.mul_le_mul_of_nonneg_left h' (Rat.le_of_lt (pw_pos place))
  rw [pw_add]
  grind

theorem le_of_pw {a b : Nat} {e : Int} (h : (a : Rat) * pw e < ((b + 1 : Nat) : Rat) * pw e) : a ≤ b := by
  have hp := pw_pos e
  rcases Nat.lt_or_ge b a with h1 | h1
  · exfalso
    have : ((b + 1 : Nat) : Rat) ≤ (a : Rat) := by exact_mod_cast h1
    have := Rat.mul_le_mul_of_nonneg_left this (Rat.le_of_lt hp)
    grind
  · exact h1

theorem kept_le (f : Format) (neg : Bool) (mag : Nat) (place : Int) : keptOf f neg mag place ≤ 2 ^ (f.fractionBits + 1) := by
  obtain ⟨h1, _⟩ := kept_near f neg mag place
  have h2 := mag_lt mag place
  have h3 : pw (place + mag.log2 + 1) ≤ ((2 ^ (f.fractionBits + 1) : Nat) : Rat) * pw (lastOf f mag place) := by
    rw [← pw_nat, ← pw_add]; apply pw_le; unfold lastOf; omega
  generalize lastOf f mag place = last at *
  generalize keptOf f neg mag place = c at *
  generalize 2 ^ (f.fractionBits + 1) = g at *
  have hp := pw_pos last
  apply le_of_pw (e := last)
  rw [Rat.natCast_add]
  grind

theorem kept_ge (f : Format) (neg : Bool) (mag : Nat) (h0 : mag ≠ 0) (place : Int) (h : f.leastPlace < lastOf f mag place) :
    2 ^ f.fractionBits ≤ keptOf f neg mag place := by
  obtain ⟨_, h1⟩ := kept_near f neg mag place
  have h2 := mag_ge mag h0 place
  have h3 : ((2 ^ f.fractionBits : Nat) : Rat) * pw (lastOf f mag place) ≤ pw (place + mag.log2) := by
    rw [← pw_nat, ← pw_add]; apply pw_le; unfold lastOf at *; omega
  generalize lastOf f mag place = last at *
  generalize keptOf f neg mag place = c at *
  generalize 2 ^ f.fractionBits = g at *
  have hp := pw_pos last
  apply le_of_pw (e := last)
  rw [Rat.natCast_add]
  grind

theorem sw_pos (f : Format) : 0 < f.signWeight := Nat.two_pow_pos _

theorem read_word (f : Format) (neg : Bool) (rung : Nat) (h : rung < f.signWeight) :
    ((f.word neg rung / f.signWeight % 2 == 1) = neg) ∧ f.word neg rung % f.signWeight = rung := by
  unfold Format.word
  have hp := sw_pos f
  cases neg
  · simp [Nat.div_eq_of_lt h, Nat.mod_eq_of_lt h]
  · simp [Nat.add_div_left _ hp, Nat.div_eq_of_lt h, Nat.mod_eq_of_lt h]

theorem read_rung {f : Format} {E : Int} (ok : Ok f E) (neg : Bool) (k c : Nat) (hc : c ≤ 2 ^ (f.fractionBits + 1)) (hk : 0 < k → 2 ^ f.fractionBits ≤ c)
    (hno : k * 2 ^ f.fractionBits + c < f.infRung) :
    ∃ m e, f.read (f.word neg (k * 2 ^ f.fractionBits + c)) = .number neg m e ∧ (m : Rat) * pw e = (c : Rat) * pw (f.leastPlace + k) ∧ f.leastPlace ≤ e ∧ m < 2 ^ (f.fractionBits + 1) ∧ (2 ^ f.fractionBits ≤ m ∨ e = f.leastPlace) := by
  have hsw := ok.sw
  have hg : 0 < 2 ^ f.fractionBits := Nat.two_pow_pos _
  obtain ⟨r1, r2⟩ := read_word f neg (k * 2 ^ f.fractionBits + c) (by omega)
  unfold Format.read
  simp only [r1, r2]
  rw [Nat.pow_succ] at hc ⊢
  have hb : f.binade = 2 ^ f.fractionBits := rfl
  rw [hb]
  generalize hG : 2 ^ f.fractionBits = g at *
  rcases Nat.eq_zero_or_pos k with h0 | h0
  · subst h0
    simp only [Nat.zero_mul, Nat.zero_add] at *
    by_cases h1 : c < g
    · rw [if_pos h1]
      exact ⟨c, f.leastPlace, rfl, by simp, Int.le_refl _, by omega, .inr rfl⟩
    · rw [if_neg h1, if_pos hno]
      by_cases h2 : c < 2 * g
      · have e1 : c / g = 1 := by rw [Nat.div_eq_iff hg]; omega
        have e2 : c % g = c - g := by have := Nat.div_add_mod c g; rw [e1] at this; omega
        refine ⟨_, _, rfl, ?_, by omega, by omega, by omega⟩
        rw [e1, e2, show g + (c - g) = c by omega]
      · have e0 : c = 2 * g := by omega
        subst e0
        have e1 : 2 * g / g = 2 := Nat.mul_div_cancel _ hg
        have e2 : 2 * g % g = 0 := Nat.mul_mod_left 2 g
        refine ⟨_, _, rfl, ?_, by omega, by omega, by omega⟩
        rw [e1, e2, Rat.natCast_mul, show f.leastPlace + ((2 - 1 : Nat) : Int) = f.leastPlace + 1 by omega, pw_succ]
        simp
        grind
  · have hkc := hk h0
    have h1 : ¬ k * g + c < g := by have := Nat.le_mul_of_pos_left g h0; omega
    rw [if_neg h1, if_pos hno]
    by_cases h2 : c < 2 * g
    · have e1 : (k * g + c) / g = k + 1 := by
        rw [show k * g + c = c + g * k by rw [Nat.mul_comm]; omega, Nat.add_mul_div_left _ _ hg]
        have : c / g = 1 := by rw [Nat.div_eq_iff hg]; omega
        omega
      have e2 : (k * g + c) % g = c - g := by
        rw [show k * g + c = c + g * k by rw [Nat.mul_comm]; omega, Nat.add_mul_mod_self_left]
        have h3 : c / g = 1 := by rw [Nat.div_eq_iff hg]; omega
        have := Nat.div_add_mod c g; rw [h3] at this; omega
      refine ⟨_, _, rfl, ?_, by omega, by omega, by omega⟩
      rw [e1, e2, show g + (c - g) = c by omega, show k + 1 - 1 = k by omega]
    · have e0 : c = 2 * g := by omega
      subst e0
      have e1 : (k * g + 2 * g) / g = k + 2 := by rw [← Nat.add_mul]; exact Nat.mul_div_cancel _ hg
      have e2 : (k * g + 2 * g) % g = 0 := by rw [← Nat.add_mul]; exact Nat.mul_mod_left _ g
      refine ⟨_, _, rfl, ?_, by omega, by omega, by omega⟩
      rw [e1, e2, Rat.natCast_mul, show f.leastPlace + ((k + 2 - 1 : Nat) : Int) = (f.leastPlace + k) + 1 by omega, pw_succ]
      simp
      grind

/-- below the format's greatest power of two nothing overflows -/
theorem no_over {f : Format} {E : Int} (ok : Ok f E) (neg : Bool) (mag : Nat) (h0 : mag ≠ 0) (place : Int) (h : (mag : Rat) * pw place ≤ pw E) :
    (lastOf f mag place - f.leastPlace).toNat * 2 ^ f.fractionBits + keptOf f neg mag place < f.infRung := by
  have hc := kept_le f neg mag place
  have hg : 0 < 2 ^ f.fractionBits := Nat.two_pow_pos _
  obtain ⟨n1, _⟩ := kept_near f neg mag place
  have hm := mag_ge mag h0 place
  have hlE : place + mag.log2 ≤ E := by
    rcases Int.lt_or_le E (place + mag.log2) with h1 | h1
    · have := pw_lt h1; grind
    · exact h1
  have hL : f.leastPlace ≤ lastOf f mag place := by unfold lastOf; omega
  have hlast : lastOf f mag place ≤ E - f.fractionBits := by have := ok.wide; unfold lastOf; omega
  rw [ok.inf]
  rw [Nat.pow_succ] at hc
  obtain ⟨t, ht⟩ : ∃ t : Nat, (E - f.leastPlace - f.fractionBits) = t := ⟨(E - f.leastPlace - f.fractionBits).toNat, by have := ok.wide; omega⟩
  have e1 : (E - f.leastPlace - f.fractionBits + 2).toNat = t + 2 := by omega
  rw [e1]
  by_cases hlt : lastOf f mag place < E - f.fractionBits
  · have : (lastOf f mag place - f.leastPlace).toNat + 1 ≤ t := by omega
    generalize (lastOf f mag place - f.leastPlace).toNat = k at *
    have h2 : (k + 1) * 2 ^ f.fractionBits ≤ t * 2 ^ f.fractionBits := Nat.mul_le_mul_right _ this
    rw [Nat.add_mul] at h2 ⊢
    omega
  · have he : lastOf f mag place = E - f.fractionBits := by omega
    have hk : (lastOf f mag place - f.leastPlace).toNat = t := by omega
    rw [hk]
    have : keptOf f neg mag place ≤ 2 ^ f.fractionBits := by
      rw [he] at n1
      have h3 : pw E = ((2 ^ f.fractionBits : Nat) : Rat) * pw (E - f.fractionBits) := by rw [← pw_nat, ← pw_add]; congr 1; omega
      generalize 2 ^ f.fractionBits = g at *
      generalize keptOf f neg mag place = c at *
      have hp := pw_pos (E - f.fractionBits)
      apply le_of_pw (e := E - f.fractionBits)
      rw [Rat.natCast_add]
      grind
    rw [Nat.add_mul]
    omega

/-- THE ROUNDED NUMBER: it is read back as a number of the same sign, and is what was kept. -/
theorem near_read {f : Format} {E : Int} (ok : Ok f E) (neg : Bool) (mag : Nat) (h0 : mag ≠ 0) (place : Int) (h : (mag : Rat) * pw place ≤ pw E) :
    ∃ m e, f.read (f.nearest neg mag place) = .number neg m e ∧ (m : Rat) * pw e = (keptOf f neg mag place : Rat) * pw (lastOf f mag place) ∧ f.leastPlace ≤ e ∧ m < 2 ^ (f.fractionBits + 1) ∧ (2 ^ f.fractionBits ≤ m ∨ e = f.leastPlace) := by
  have hno := no_over ok neg mag h0 place h
  have hL : f.leastPlace ≤ lastOf f mag place := by unfold lastOf; omega
  obtain ⟨m, e, h1, h2, h3⟩ := read_rung ok neg (lastOf f mag place - f.leastPlace).toNat (keptOf f neg mag place) (kept_le f neg mag place)
    (fun hk => kept_ge f neg mag h0 place (by omega)) hno
  have hlt : f.nearest neg mag place = f.word neg ((lastOf f mag place - f.leastPlace).toNat * 2 ^ f.fractionBits + keptOf f neg mag place) := by
    unfold Format.nearest
    rw [if_neg h0]
    simp only []
    change f.word neg (min ((lastOf f mag place - f.leastPlace).toNat * f.binade + keptOf f neg mag place) f.infRung) = _
    rw [show f.binade = 2 ^ f.fractionBits from rfl, Nat.min_eq_left (by omega)]
  refine ⟨m, e, by rw [hlt]; exact h1, ?_, h3⟩
  rw [h2]
  congr 2
  omega

/-! ## words: being a number, and the value -/
def Num (f : Format) (b : Nat) : Prop := ∃ s m e, f.read b = .number s m e
def fv (f : Format) (b : Nat) : Rat := dv (f.read b)

theorem sg_abs (s : Bool) : sg s = 1 ∨ sg s = -1 := by cases s <;> simp [sg]

theorem nearest_zero {f : Format} {E : Int} (ok : Ok f E) (neg : Bool) (place : Int) : f.read (f.nearest neg 0 place) = .number neg 0 f.leastPlace := by
  have hsw := ok.sw
  have hg : 0 < 2 ^ f.fractionBits := Nat.two_pow_pos _
  obtain ⟨r1, r2⟩ := read_word f neg 0 (by omega)
  unfold Format.nearest
  rw [if_pos rfl]
  unfold Format.read
  simp only [r1, r2]
  rw [if_pos (show (0 : Nat) < f.binade from hg)]

/-- every number of a format lies on its grid -/
theorem kept_bound {f : Format} (neg : Bool) (mag : Nat) (place : Int) (e : Int) (he : f.leastPlace ≤ e) (h0 : mag ≠ 0) (h : (mag : Rat) * pw place ≤ pw e) :
    (keptOf f neg mag place : Rat) * pw (lastOf f mag place) ≤ pw e := by
  obtain ⟨n1, _⟩ := kept_near f neg mag place
  have hm := mag_ge mag h0 place
  have hle : lastOf f mag place ≤ e := by
    rcases Int.lt_or_le e (lastOf f mag place) with h1 | h1
    · exfalso
      have : e < place + mag.log2 := by unfold lastOf at h1; omega
      have := pw_lt this
      grind
    · exact h1
  obtain ⟨t, ht⟩ : ∃ t : Nat, e = lastOf f mag place + t := ⟨(e - lastOf f mag place).toNat, by omega⟩
  have h3 : pw e = ((2 ^ t : Nat) : Rat) * pw (lastOf f mag place) := by rw [← pw_nat, ← pw_add]; congr 1; omega
  rw [h3] at h ⊢
  generalize lastOf f mag place = last at *
  generalize keptOf f neg mag place = c at *
  generalize 2 ^ t = g at *
  have hp := pw_pos last
  have : c ≤ g := by
    apply le_of_pw (e := last)
    rw [Rat.natCast_add]
    grind
  have h4 : (c : Rat) ≤ (g : Rat) := by exact_mod_cast this
  have := Rat.mul_le_mul_of_nonneg_left h4 (Rat.le_of_lt hp)
  grind

theorem half_unit (f : Format) (mag : Nat) (h0 : mag ≠ 0) (place : Int) :
    pw (lastOf f mag place) ≤ 2 * ((mag : Rat) * pw place * pw (-(f.fractionBits + 1 : Int)) + pw (f.leastPlace - 1)) := by
  have hm := mag_ge mag h0 place
  have p1 := pw_pos (-(f.fractionBits + 1 : Int))
  have p2 := pw_pos (f.leastPlace - 1)
  have p3 : 0 ≤ (mag : Rat) * pw place := by have := pw_pos (place + mag.log2); grind
  have p4 := Rat.mul_nonneg p3 (Rat.le_of_lt p1)
  unfold lastOf
  rcases Int.le_total (place + mag.log2 - f.fractionBits) f.leastPlace with h | h
  · rw [Int.max_eq_right h, show f.leastPlace = (f.leastPlace - 1) + 1 by omega, pw_succ]
    rw [show f.leastPlace - 1 + 1 - 1 = f.leastPlace - 1 by omega]
    grind
  · rw [Int.max_eq_left h]
    have e1 : pw (place + mag.log2 - f.fractionBits) = 2 * (pw (place + mag.log2) * pw (-(f.fractionBits + 1 : Int))) := by
      rw [← pw_add, ← pw_succ]; congr 1; omega
    rw [e1]
    have := Rat.mul_le_mul_of_nonneg_left hm (Rat.le_of_lt p1)
    grind

/-- THE ROUNDING, WHOLE: X = the exact number; r = what is rounded. -/
structure Rnd (f : Format) (X : Rat) (r : Nat) : Prop where
  num : Num f r
  near : ∀ B, -B ≤ X → X ≤ B → fv f r - X ≤ B * pw (-(f.fractionBits + 1 : Int)) + pw (f.leastPlace - 1) ∧ X - fv f r ≤ B * pw (-(f.fractionBits + 1 : Int)) + pw (f.leastPlace - 1)
  le : ∀ e, f.leastPlace ≤ e → -pw e ≤ X → X ≤ pw e → -pw e ≤ fv f r ∧ fv f r ≤ pw e
  exact : ∀ (k : Int) (j : Int), X = (k : Rat) * pw j → k.natAbs < 2 ^ (f.fractionBits + 1) → f.leastPlace ≤ j → fv f r = X
  nonneg : 0 ≤ X → 0 ≤ fv f r
  nonpos : X ≤ 0 → fv f r ≤ 0
  lt : r < 2 ^ f.width

/-- the kept digits of a number on the grid are the number -/
theorem kept_exact (f : Format) (neg : Bool) (mag : Nat) (h0 : mag ≠ 0) (place : Int) (k : Nat) (j : Int) (h : (mag : Rat) * pw place = (k : Rat) * pw j)
    (hk : k < 2 ^ (f.fractionBits + 1)) (hj : f.leastPlace ≤ j) :
    (keptOf f neg mag place : Rat) * pw (lastOf f mag place) = (mag : Rat) * pw place := by
  have hm := mag_ge mag h0 place
  obtain ⟨n1, n2⟩ := kept_near f neg mag place
  have hle : lastOf f mag place ≤ j := by
    rcases Int.lt_or_le j (lastOf f mag place) with h1 | h1
    · exfalso
      have h2 : lastOf f mag place = place + mag.log2 - f.fractionBits := by unfold lastOf at *; omega
      have h3 : ((2 ^ (f.fractionBits + 1) : Nat) : Rat) * pw j ≤ pw (place + mag.log2) := by
        rw [← pw_nat, ← pw_add]; apply pw_le; omega
      have h4 : (k : Rat) < ((2 ^ (f.fractionBits + 1) : Nat) : Rat) := by exact_mod_cast hk
      have := Rat.mul_lt_mul_of_pos_left h4 (pw_pos j)
      grind
    · exact h1
  obtain ⟨t, ht⟩ : ∃ t : Nat, j = lastOf f mag place + t := ⟨(j - lastOf f mag place).toNat, by omega⟩
  have h3 : pw j = ((2 ^ t : Nat) : Rat) * pw (lastOf f mag place) := by rw [← pw_nat, ← pw_add]; congr 1; omega
  rw [h3] at h
  generalize lastOf f mag place = last at *
  generalize keptOf f neg mag place = c at *
  generalize 2 ^ t = g at *
  have hp := pw_pos last
  have hA : ((k * g : Nat) : Rat) * pw last = (mag : Rat) * pw place := by rw [h, Rat.natCast_mul]; grind
  have a1 : c ≤ k * g := by
    apply le_of_pw (e := last); rw [Rat.natCast_add]; grind
  have a2 : k * g ≤ c := by
    apply le_of_pw (e := last); rw [Rat.natCast_add]; grind
  rw [← hA, Nat.le_antisymm a1 a2]

theorem half_le {x B u : Rat} (h : x ≤ B) (hu : 0 ≤ u) : x * u ≤ B * u := Rat.mul_le_mul_of_nonneg_right h hu

theorem rnd_nearest {f : Format} {E : Int} (ok : Ok f E) (neg : Bool) (mag : Nat) (place : Int) (X : Rat) (hX : sg neg * (mag : Rat) * pw place = X)
    (h1 : -pw E ≤ X) (h2 : X ≤ pw E) : Rnd f X (f.nearest neg mag place) := by
  have hlt := f.nearest_lt neg mag place
  by_cases h0 : mag = 0
  · subst h0
    have hr := nearest_zero ok neg place
    have hv : fv f (f.nearest neg 0 place) = 0 := by unfold fv dv; rw [hr]; simp
    have hX0 : X = 0 := by rw [← hX]; simp
    subst hX0
    exact {
      num := ⟨_, _, _, hr⟩
      near := fun B b1 b2 => by
        rw [hv]
        have p1 := pw_pos (-(f.fractionBits + 1 : Int))
        have p2 := pw_pos (f.leastPlace - 1)
        have := Rat.mul_nonneg b2 (Rat.le_of_lt p1)
        constructor <;> grind
      le := fun e _ _ _ => by rw [hv]; have := pw_pos e; constructor <;> grind
      exact := fun _ _ _ _ _ => hv
      nonneg := fun _ => by rw [hv]; exact Rat.le_refl
      nonpos := fun _ => by rw [hv]; exact Rat.le_refl
      lt := hlt }
  · have hmp : 0 < (mag : Rat) * pw place := by have := mag_ge mag h0 place; have := pw_pos (place + mag.log2); grind
    have hXs : X = (mag : Rat) * pw place ∨ X = -((mag : Rat) * pw place) := by
      cases neg <;> simp only [sg] at hX <;> grind
    have hE : (mag : Rat) * pw place ≤ pw E := by grind
    obtain ⟨m, e, hr, hv, _⟩ := near_read ok neg mag h0 place hE
    have hfv : fv f (f.nearest neg mag place) = sg neg * ((keptOf f neg mag place : Rat) * pw (lastOf f mag place)) := by
      unfold fv dv; rw [hr, ← hv]; grind
    obtain ⟨n1, n2⟩ := kept_near f neg mag place
    have hh := half_unit f mag h0 place
    have hkp : 0 ≤ (keptOf f neg mag place : Rat) * pw (lastOf f mag place) := Rat.mul_nonneg (by exact_mod_cast Nat.zero_le _) (Rat.le_of_lt (pw_pos _))
    exact {
      num := ⟨_, _, _, hr⟩
      near := fun B b1 b2 => by
        have hB : (mag : Rat) * pw place ≤ B := by grind
        have := half_le hB (Rat.le_of_lt (pw_pos (-(f.fractionBits + 1 : Int))))
        rw [hfv]
        cases neg <;> simp only [sg] at * <;> constructor <;> grind
      le := fun e he b1 b2 => by
        have := kept_bound neg mag place e he h0 (by grind)
        rw [hfv]
        have := pw_pos e
        cases neg <;> simp only [sg] at * <;> constructor <;> grind
      exact := fun k j hk1 hk2 hj => by
        have : (mag : Rat) * pw place = ((k.natAbs : Nat) : Rat) * pw j := by
          have hpj := pw_pos j
          rcases Int.natAbs_eq k with hk | hk <;> (rw [hk] at hk1; generalize k.natAbs = a at *; have e1 : ((a : Int) : Rat) = (a : Rat) := Rat.intCast_natCast a; have e2 : ((-(a : Int) : Int) : Rat) = -(a : Rat) := (by rw [Rat.intCast_neg, e1]); have ha : (0:Rat) ≤ (a : Rat) := by exact_mod_cast Nat.zero_le a)
          · have := Rat.mul_nonneg ha (Rat.le_of_lt hpj); grind
          · have := Rat.mul_nonneg ha (Rat.le_of_lt hpj); grind
        have := kept_exact f neg mag h0 place k.natAbs j this hk2 hj
        rw [hfv, this, ← hX]
        grind
      nonneg := fun h => by rw [hfv]; cases neg <;> simp only [sg] at * <;> grind
      nonpos := fun h => by rw [hfv]; cases neg <;> simp only [sg] at * <;> grind
      lt := hlt }
end Fl
