import Derived.Test.YtdjhgnpllnmdmaaF1
set_option linter.unusedSimpArgs false
set_option linter.unusedVariables false
set_option linter.unusedSectionVars false
namespace Fl
open Ieee

theorem signed_cast (s : Bool) (m up : Nat) (base : Int) : ((signed s m up : Int) : Rat) * pw base = sg s * (m : Rat) * pw (base + up) := by
  unfold signed
  rw [Nat.shiftLeft_eq, pw_add, pw_nat]
  have e1 : (((m * 2 ^ up : Nat) : Int) : Rat) = (m : Rat) * ((2 ^ up : Nat) : Rat) := by rw [Rat.intCast_natCast, Rat.natCast_mul]
  cases s
  · simp [sg]; grind
  · simp only [sg, if_true]; rw [Rat.intCast_neg, e1]; grind

theorem sg_natAbs (t : Int) : sg (decide (t < 0)) * (t.natAbs : Rat) = (t : Rat) := by
  by_cases h : t < 0
  · simp only [h, decide_true, sg]
    have : t = -(t.natAbs : Int) := by omega
    have e : (t : Rat) = -(t.natAbs : Rat) := by
      conv => lhs; rw [this, Rat.intCast_neg, Rat.intCast_natCast]
    rw [e]; simp; grind
  · simp only [h, decide_false, sg]
    have : t = (t.natAbs : Int) := by omega
    have e : (t : Rat) = (t.natAbs : Rat) := by
      conv => lhs; rw [this, Rat.intCast_natCast]
    rw [e]; simp

theorem sum_num (s t : Bool) (m n : Nat) (i j : Int) :
    ∃ u k e, Datum.sum (.number s m i) (.number t n j) = some (.number u k e) ∧ sg u * (k : Rat) * pw e = sg s * (m : Rat) * pw i + sg t * (n : Rat) * pw j ∧
      (u = true → (sg s * (m : Rat) * pw i + sg t * (n : Rat) * pw j < 0 ∨ (s = true ∧ t = true))) := by
  refine ⟨_, _, _, rfl, ?_, ?_⟩
  · generalize hb : min i j = base
    have h1 := signed_cast s m (i - base).toNat base
    have h2 := signed_cast t n (j - base).toNat base
    rw [show base + ((i - base).toNat : Int) = i by omega] at h1
    rw [show base + ((j - base).toNat : Int) = j by omega] at h2
    generalize signed s m (i - base).toNat = a at *
    generalize signed t n (j - base).toNat = b at *
    rw [← h1, ← h2]
    by_cases h0 : a + b = 0
    · rw [if_pos h0, h0]
      have : ((a + b : Int) : Rat) = 0 := by rw [h0]; rfl
      rw [Rat.intCast_add] at this
      have : ((a : Rat) + (b : Rat)) * pw base = 0 := by rw [this]; simp
      simp
      grind
    · rw [if_neg h0, sg_natAbs, Rat.intCast_add]
      grind
  · generalize hb : min i j = base
    have h1 := signed_cast s m (i - base).toNat base
    have h2 := signed_cast t n (j - base).toNat base
    rw [show base + ((i - base).toNat : Int) = i by omega] at h1
    rw [show base + ((j - base).toNat : Int) = j by omega] at h2
    generalize signed s m (i - base).toNat = a at *
    generalize signed t n (j - base).toNat = b at *
    rw [← h1, ← h2]
    by_cases h0 : a + b = 0
    · rw [if_pos h0]; intro h; right; simpa using h
    · rw [if_neg h0]; intro h; left
      have h3 : a + b < 0 := by simpa using h
      have : ((a + b : Int) : Rat) < 0 := by exact_mod_cast h3
      rw [Rat.intCast_add] at this
      have := Rat.mul_lt_mul_of_pos_right this (pw_pos base)
      grind

theorem fv_num {f : Format} {b : Nat} {s : Bool} {m : Nat} {e : Int} (h : f.read b = .number s m e) : fv f b = sg s * (m : Rat) * pw e := by
  unfold fv dv; rw [h]

def fadd (f : Format) (x y : Nat) : Nat := (f.add x y).getD 0
def fsub (f : Format) (x y : Nat) : Nat := (f.sub x y).getD 0
def fmul (f : Format) (x y : Nat) : Nat := (f.mul x y).getD 0
def fdiv (f : Format) (x y : Nat) : Nat := (f.div x y).getD 0

section
variable {f : Format} {E : Int} (ok : Ok f E) {x y : Nat} (hx : Num f x) (hy : Num f y)
include hx hy
theorem add_some : f.add x y = some (fadd f x y) := by
  obtain ⟨s, m, i, hx⟩ := hx
  obtain ⟨t, n, j, hy⟩ := hy
  unfold fadd Format.add
  rw [hx, hy]
  rfl
theorem sub_some : f.sub x y = some (fsub f x y) := by
  obtain ⟨s, m, i, hx⟩ := hx
  obtain ⟨t, n, j, hy⟩ := hy
  unfold fsub Format.sub
  rw [hx, hy]
  rfl
theorem mul_some : f.mul x y = some (fmul f x y) := by
  obtain ⟨s, m, i, hx⟩ := hx
  obtain ⟨t, n, j, hy⟩ := hy
  unfold fmul Format.mul
  rw [hx, hy]
  rfl
include ok
theorem add_rnd (h1 : -pw E ≤ fv f x + fv f y) (h2 : fv f x + fv f y ≤ pw E) : Rnd f (fv f x + fv f y) (fadd f x y) := by
  obtain ⟨s, m, i, hx⟩ := hx
  obtain ⟨t, n, j, hy⟩ := hy
  rw [fv_num hx, fv_num hy] at *
  obtain ⟨u, k, e, hs, hv, _⟩ := sum_num s t m n i j
  unfold fadd Format.add
  rw [hx, hy, hs]
  exact rnd_nearest ok u k e _ hv h1 h2
theorem sub_rnd (h1 : -pw E ≤ fv f x - fv f y) (h2 : fv f x - fv f y ≤ pw E) : Rnd f (fv f x - fv f y) (fsub f x y) := by
  obtain ⟨s, m, i, hx⟩ := hx
  obtain ⟨t, n, j, hy⟩ := hy
  rw [fv_num hx, fv_num hy] at *
  obtain ⟨u, k, e, hs, hv, _⟩ := sum_num s (!t) m n i j
  unfold fsub Format.sub
  rw [hx, hy]
  have ho : (Datum.number t n j).opposite = .number (!t) n j := rfl
  rw [ho, hs]
  have hn : sg (!t) = -sg t := by cases t <;> simp [sg]
  rw [hn] at hv
  exact rnd_nearest ok u k e _ (by rw [hv]; grind) h1 h2
theorem mul_rnd (h1 : -pw E ≤ fv f x * fv f y) (h2 : fv f x * fv f y ≤ pw E) : Rnd f (fv f x * fv f y) (fmul f x y) := by
  obtain ⟨s, m, i, hx⟩ := hx
  obtain ⟨t, n, j, hy⟩ := hy
  rw [fv_num hx, fv_num hy] at *
  unfold fmul Format.mul
  rw [hx, hy]
  have hn : sg (s ^^ t) = sg s * sg t := by cases s <;> cases t <;> simp [sg] <;> grind
  exact rnd_nearest ok (s ^^ t) (m * n) (i + j) _ (by rw [hn, Rat.natCast_mul, pw_add]; grind) h1 h2
end

/-! comparisons -/
theorem rat_lt_or (a b : Rat) : a < b ∨ b ≤ a := by grind

theorem compare_rat (a b : Int) : compare a b = if (a : Rat) < (b : Rat) then .lt else if (a : Rat) = (b : Rat) then .eq else .gt := by
  have h1 : ((a : Rat) < (b : Rat)) ↔ a < b := by exact_mod_cast Iff.rfl
  have h2 : ((a : Rat) = (b : Rat)) ↔ a = b := by exact_mod_cast Iff.rfl
  simp only [h1, h2]
  rcases Int.lt_trichotomy a b with h | h | h
  · rw [if_pos h]; exact Int.compare_eq_lt.2 h
  · rw [if_neg (by omega), if_pos h]; subst h; simp
  · rw [if_neg (by omega), if_neg (by omega)]; exact Int.compare_eq_gt.2 h

theorem order_num {f : Format} {x y : Nat} (hx : Num f x) (hy : Num f y) :
    f.order x y = some (if fv f x < fv f y then .lt else if fv f x = fv f y then .eq else .gt) := by
  obtain ⟨s, m, i, hx⟩ := hx
  obtain ⟨t, n, j, hy⟩ := hy
  rw [fv_num hx, fv_num hy]
  unfold Format.order
  rw [hx, hy]
  unfold Datum.order
  simp only []
  generalize hb : min i j = base
  have h1 := signed_cast s m (i - base).toNat base
  have h2 := signed_cast t n (j - base).toNat base
  rw [show base + ((i - base).toNat : Int) = i by omega] at h1
  rw [show base + ((j - base).toNat : Int) = j by omega] at h2
  rw [compare_rat, ← h1, ← h2]
  have hp := pw_pos base
  generalize (signed s m (i - base).toNat : Rat) = a
  generalize (signed t n (j - base).toNat : Rat) = b
  have e1 : (a * pw base < b * pw base) ↔ a < b := by
    constructor
    · intro h
      rcases rat_lt_or a b with h' | h'
      · exact h'
      · have := Rat.mul_le_mul_of_nonneg_right h' (Rat.le_of_lt hp); grind
    · intro h; exact Rat.mul_lt_mul_of_pos_right h hp
  have e2 : (a * pw base = b * pw base) ↔ a = b := by
    constructor
    · intro h
      rcases rat_lt_or a b with h' | h'
      · have := Rat.mul_lt_mul_of_pos_right h' hp; grind
      · rcases rat_lt_or b a with h'' | h''
        · have := Rat.mul_lt_mul_of_pos_right h'' hp; grind
        · grind
    · intro h; rw [h]
  simp only [e1, e2]
end Fl
