import Derived.Test.YtdjhgnpllnmdmaaF2
set_option linter.unusedSimpArgs false
set_option linter.unusedVariables false
set_option linter.unusedSectionVars false
namespace Fl
open Ieee

/-! the quotient -/
theorem quot_num (digits : Nat) (s t : Bool) (m n : Nat) (i j : Int) (hn : n ≠ 0) :
    ∃ k e, Datum.quotient digits (.number s m i) (.number t n j) = some (.number (s ^^ t) k e) ∧
      ((k : Rat) * pw e * ((n : Rat) * pw j) = (m : Rat) * pw i ∨
       (((k : Rat) - 1) * pw e * ((n : Rat) * pw j) < (m : Rat) * pw i ∧ (m : Rat) * pw i < ((k : Rat) + 1) * pw e * ((n : Rat) * pw j))) ∧
      (m ≠ 0 → 2 ^ digits ≤ k) := by
  unfold Datum.quotient
  simp only [if_neg hn]
  refine ⟨_, _, rfl, ?_, ?_⟩
  · generalize digits + n.log2 - m.log2 = more
    rw [Nat.shiftLeft_eq]
    have hd := Nat.div_add_mod (m * 2 ^ more) n
    have hl := Nat.mod_lt (m * 2 ^ more) (Nat.pos_of_ne_zero hn)
    generalize m * 2 ^ more / n = q at *
    generalize hr : m * 2 ^ more % n = r at *
    have e1 : pw (i - j - more - 1) * pw j * (2 * ((2 ^ more : Nat) : Rat)) = pw i := by
      rw [← pw_nat, ← pw_one, ← pw_add, ← pw_add, ← pw_add]; congr 1; omega
    have e2 : (m : Rat) * ((2 ^ more : Nat) : Rat) = (n : Rat) * (q : Rat) + (r : Rat) := by
      rw [← Rat.natCast_mul, ← hd, Rat.natCast_add, Rat.natCast_mul]
    have hp := pw_pos (i - j - more - 1)
    have hpj := pw_pos j
    have hpp : 0 < pw (i - j - more - 1) * pw j := Rat.mul_pos hp hpj
    generalize hP : pw (i - j - more - 1) = P at *
    generalize pw j = J at *
    generalize ((2 ^ more : Nat) : Rat) = G at *
    have key : (m : Rat) * pw i = 2 * ((n : Rat) * (q : Rat) + (r : Rat)) * (P * J) := by rw [← e1, ← e2]; grind
    by_cases h0 : r = 0
    · left
      subst h0
      rw [key]
      simp
      grind
    · right
      have hb : (r != 0) = true := by simpa using h0
      rw [hb]
      have r1 : (0 : Rat) < (r : Rat) := natCast_pos (Nat.pos_of_ne_zero h0)
      have r2 : (r : Rat) < (n : Rat) := by exact_mod_cast hl
      have c1 := Rat.mul_lt_mul_of_pos_right r1 hpp
      have c2 := Rat.mul_lt_mul_of_pos_right r2 hpp
      have ek : ((2 * q + true.toNat : Nat) : Rat) = 2 * (q : Rat) + 1 := by rw [Rat.natCast_add, Rat.natCast_mul]; rfl
      rw [key, ek]
      constructor <;> grind
  · intro hm
    rw [Nat.shiftLeft_eq]
    generalize hmore : digits + n.log2 - m.log2 = more
    have h1 : 2 ^ m.log2 ≤ m := Nat.log2_self_le hm
    have h2 : n < 2 ^ (n.log2 + 1) := (Nat.log2_lt hn).1 (by omega)
    have h3 : 2 ^ (digits + n.log2) ≤ m * 2 ^ more := by
      calc 2 ^ (digits + n.log2) ≤ 2 ^ (m.log2 + more) := Nat.pow_le_pow_right (by omega) (by omega)
        _ = 2 ^ m.log2 * 2 ^ more := Nat.pow_add ..
        _ ≤ m * 2 ^ more := Nat.mul_le_mul_right _ h1
    have h4 : 2 ^ (digits + n.log2) * 2 = 2 ^ digits * 2 ^ (n.log2 + 1) := by rw [← Nat.pow_succ, ← Nat.pow_add]; rfl
    have h5 : 2 ^ digits * n ≤ 2 * (m * 2 ^ more) := by
      have : 2 ^ digits * n ≤ 2 ^ digits * 2 ^ (n.log2 + 1) := Nat.mul_le_mul_left _ (by omega)
      omega
    have hd := Nat.div_add_mod (m * 2 ^ more) n
    have hl := Nat.mod_lt (m * 2 ^ more) (Nat.pos_of_ne_zero hn)
    generalize m * 2 ^ more = M at *
    generalize hr : M % n = r at *
    generalize M / n = q at *
    by_cases h0 : r = 0
    · subst h0
      simp
      have h6 : 2 ^ digits * n ≤ 2 * q * n := by rw [Nat.mul_assoc, Nat.mul_comm q n]; omega
      exact Nat.le_of_mul_le_mul_right h6 (Nat.pos_of_ne_zero hn)
    · have hb : (r != 0) = true := by simpa using h0
      rw [hb]
      have h6 : 2 ^ digits * n < (2 * q + 2) * n := by rw [Nat.add_mul, Nat.mul_assoc, Nat.mul_comm q n]; omega
      have h7 := Nat.lt_of_mul_lt_mul_right h6
      have : true.toNat = 1 := rfl
      omega

theorem rat_pos_of_ne {n : Nat} (h : n ≠ 0) : (0 : Rat) < (n : Rat) := natCast_pos (Nat.pos_of_ne_zero h)

/-- A QUOTIENT of two numbers, the divisor no zero: what it is near to. q: the quotient, exact. -/
theorem div_rnd {f : Format} {E : Int} (ok : Ok f E) {x y : Nat} (hx : Num f x) (hy : Num f y) (q : Rat) (h0 : fv f y ≠ 0) (hq : q * fv f y = fv f x) (h1 : -(pw (E - 1)) ≤ q) (h2 : q ≤ pw (E - 1)) :
    f.div x y = some (fdiv f x y) ∧ Num f (fdiv f x y) ∧ fdiv f x y < 2 ^ f.width ∧
    (∀ B, -B ≤ q → q ≤ B → fv f (fdiv f x y) - q ≤ B * (2 * pw (-(f.fractionBits + 1 : Int))) + pw (f.leastPlace - 1) ∧ q - fv f (fdiv f x y) ≤ B * (2 * pw (-(f.fractionBits + 1 : Int))) + pw (f.leastPlace - 1)) ∧
    (0 ≤ q → 0 ≤ fv f (fdiv f x y)) ∧ (q ≤ 0 → fv f (fdiv f x y) ≤ 0) := by
  obtain ⟨s, m, i, hx⟩ := hx
  obtain ⟨t, n, j, hy⟩ := hy
  rw [fv_num hy] at h0 hq
  rw [fv_num hx] at hq
  have hn : n ≠ 0 := by rintro rfl; apply h0; simp
  obtain ⟨k, e, hs, hv, hk⟩ := quot_num (f.fractionBits + 2) s t m n i j hn
  have hdiv : f.div x y = some (f.nearest (s ^^ t) k e) := by
    unfold Format.div; rw [hx, hy, hs]; rfl
  have hfd : fdiv f x y = f.nearest (s ^^ t) k e := by unfold fdiv; rw [hdiv]; rfl
  rw [hfd]
  have hN := rat_pos_of_ne hn
  have hD : 0 < (n : Rat) * pw j := Rat.mul_pos hN (pw_pos j)
  have hpe := pw_pos e
  have hst : sg (s ^^ t) = sg s * sg t := by cases s <;> cases t <;> simp [sg] <;> grind
  -- a: the magnitude of q
  have ha : ∃ a : Rat, q = sg (s ^^ t) * a ∧ 0 ≤ a ∧ a * ((n : Rat) * pw j) = (m : Rat) * pw i := by
    refine ⟨sg (s ^^ t) * q, ?_, ?_, ?_⟩
    · have := sg_mul_sg (s ^^ t); grind
    · have hM : 0 ≤ (m : Rat) * pw i := Rat.mul_nonneg (by exact_mod_cast Nat.zero_le _) (Rat.le_of_lt (pw_pos i))
      have e1 : sg (s ^^ t) * q * ((n : Rat) * pw j) = (m : Rat) * pw i := by
        have h3 := sg_mul_sg s; have h4 := sg_mul_sg t
        rw [hst]
        have : sg s * sg t * q * ((n : Rat) * pw j) = sg s * (q * (sg t * (n : Rat) * pw j)) := by grind
        rw [this, hq]; grind
      rcases rat_lt_or (sg (s ^^ t) * q) 0 with h | h
      · have := Rat.mul_lt_mul_of_pos_right h hD; grind
      · exact h
    · have h3 := sg_mul_sg s; have h4 := sg_mul_sg t
      rw [hst]
      have : sg s * sg t * q * ((n : Rat) * pw j) = sg s * (q * (sg t * (n : Rat) * pw j)) := by grind
      rw [this, hq]; grind
  obtain ⟨a, hqa, ha0, haD⟩ := ha
  -- the sticky quotient is within one unit of a
  have hnear : (k : Rat) * pw e - a ≤ pw e ∧ a - (k : Rat) * pw e ≤ pw e := by
    rcases hv with h | ⟨h3, h4⟩
    · have : (k : Rat) * pw e = a := by
        rcases rat_lt_or ((k : Rat) * pw e) a with h' | h'
        · have := Rat.mul_lt_mul_of_pos_right h' hD; grind
        · rcases rat_lt_or a ((k : Rat) * pw e) with h'' | h''
          · have := Rat.mul_lt_mul_of_pos_right h'' hD; grind
          · grind
      constructor <;> grind
    · rw [← haD] at h3 h4
      have g1 : ((k : Rat) - 1) * pw e < a := by
        rcases rat_lt_or (((k : Rat) - 1) * pw e) a with h' | h'
        · exact h'
        · have := Rat.mul_le_mul_of_nonneg_right h' (Rat.le_of_lt hD); grind
      have g2 : a < ((k : Rat) + 1) * pw e := by
        rcases rat_lt_or a (((k : Rat) + 1) * pw e) with h' | h'
        · exact h'
        · have := Rat.mul_le_mul_of_nonneg_right h' (Rat.le_of_lt hD); grind
      constructor <;> grind
  have hsgc := sg_abs (s ^^ t)
  have hEpos := pw_pos (E - 1)
  have hE2 : pw E = 2 * pw (E - 1) := by rw [← pw_succ]; congr 1; omega
  by_cases hm : m = 0
  · subst hm
    have hk0 : k = 0 := by
      have ha' : a = 0 := by
        have : a * ((n : Rat) * pw j) = 0 := by rw [haD]; simp
        rcases rat_lt_or 0 a with h' | h'
        · have := Rat.mul_lt_mul_of_pos_right h' hD; grind
        · grind
      rw [show (((0 : Nat)) : Rat) = 0 from rfl] at hv
      rcases hv with h | ⟨h3, h4⟩
      · have : (k : Rat) * (pw e * ((n : Rat) * pw j)) = 0 := by grind
        have hpp := Rat.mul_pos hpe hD
        rcases Nat.eq_zero_or_pos k with h' | h'
        · exact h'
        · have := Rat.mul_lt_mul_of_pos_right (natCast_pos h') hpp; grind
      · rcases Nat.eq_zero_or_pos k with h' | h'
        · exact h'
        · have h5 : (1 : Rat) ≤ (k : Rat) := by exact_mod_cast h'
          have hpp := Rat.mul_pos hpe hD
          have := Rat.mul_le_mul_of_nonneg_right h5 (Rat.le_of_lt hpp)
          grind
    subst hk0
    have hq0 : q = 0 := by
      have : a = 0 := by
        have : a * ((n : Rat) * pw j) = 0 := by rw [haD]; simp
        rcases rat_lt_or 0 a with h' | h'
        · have := Rat.mul_lt_mul_of_pos_right h' hD; grind
        · grind
      rw [hqa, this]; simp
    have hr := nearest_zero ok (s ^^ t) e
    have hv0 : fv f (f.nearest (s ^^ t) 0 e) = 0 := by rw [fv_num hr]; simp
    refine ⟨hdiv, ⟨_, _, _, hr⟩, f.nearest_lt _ _ _, ?_, ?_, ?_⟩
    · intro B b1 b2
      rw [hv0, hq0]
      have p1 := pw_pos (-(f.fractionBits + 1 : Int))
      have p2 := pw_pos (f.leastPlace - 1)
      have := Rat.mul_nonneg (show 0 ≤ B by grind) (Rat.le_of_lt p1)
      constructor <;> grind
    · intro _; rw [hv0]; exact Rat.le_refl
    · intro _; rw [hv0]; exact Rat.le_refl
  · have hk' := hk hm
    have hkR : ((2 ^ (f.fractionBits + 2) : Nat) : Rat) ≤ (k : Rat) := by exact_mod_cast hk'
    rw [← pw_nat] at hkR
    have hu : pw e ≤ (k : Rat) * pw e * pw (-(f.fractionBits + 2 : Int)) := by
      have h5 := Rat.mul_le_mul_of_nonneg_right hkR (Rat.le_of_lt (Rat.mul_pos hpe (pw_pos (-(f.fractionBits + 2 : Int)))))
      have h6 : pw ((f.fractionBits + 2 : Nat) : Int) * (pw e * pw (-(f.fractionBits + 2 : Int))) = pw e := by
        rw [← pw_add, ← pw_add]; congr 1; omega
      rw [h6] at h5
      grind
    have hu4 : pw (-(f.fractionBits + 1 : Int)) = 2 * pw (-(f.fractionBits + 2 : Int)) := by rw [← pw_succ]; exact congrArg pw (by omega)
    have hu8 : pw (-(f.fractionBits + 2 : Int)) ≤ 1 / 16 := by
      have : pw (-(f.fractionBits + 2 : Int)) ≤ pw (-4) := pw_le (by have := ok.fb; omega)
      have h4 : pw (-4) * pw 4 = 1 := by rw [← pw_add]; exact pw_zero
      have h5 : pw 4 = 16 := by rw [show (4 : Int) = ((4 : Nat) : Int) from rfl, pw_nat]; rfl
      rw [h5] at h4
      grind
    have hw := pw_pos (-(f.fractionBits + 2 : Int))
    generalize pw (-(f.fractionBits + 2 : Int)) = w at *
    -- K ≤ a (1 + 2w)
    have hK0 : 0 ≤ (k : Rat) * pw e := Rat.mul_nonneg (by exact_mod_cast Nat.zero_le _) (Rat.le_of_lt hpe)
    generalize hKd : (k : Rat) * pw e = K at *
    have hKw : K * w ≤ K * (1 / 16) := Rat.mul_le_mul_of_nonneg_left hu8 hK0
    have hK2 : K ≤ 2 * a := by grind
    have hKa : K ≤ a + a * (1 / 8) := by grind
    have hKw2 := Rat.mul_le_mul_of_nonneg_right hKa (Rat.le_of_lt hw)
    have hpeK : K - a ≤ K * w ∧ a - K ≤ K * w := by grind
    clear hv hnear hq hkR hk' hk
    have haE : a ≤ pw (E - 1) := by rcases hsgc with h' | h' <;> rw [h'] at hqa <;> grind
    have hKE : -pw E ≤ sg (s ^^ t) * K ∧ sg (s ^^ t) * K ≤ pw E := by rcases hsgc with h' | h' <;> rw [h'] <;> constructor <;> grind
    have rn := rnd_nearest ok (s ^^ t) k e (sg (s ^^ t) * K) (by rw [← hKd]; exact Rat.mul_assoc _ _ _) hKE.1 hKE.2
    refine ⟨hdiv, rn.num, rn.lt, ?_, ?_, ?_⟩
    · intro B b1 b2
      have haB : a ≤ B := by rcases hsgc with h' | h' <;> rw [h'] at hqa <;> grind
      have h9 := Rat.mul_le_mul_of_nonneg_right haB (Rat.le_of_lt hw)
      obtain ⟨r1, r2⟩ := rn.near (a + a * (1 / 8)) (by rcases hsgc with h' | h' <;> rw [h'] <;> grind) (by rcases hsgc with h' | h' <;> rw [h'] <;> grind)
      rw [hu4] at r1 r2 ⊢
      have e5 : (a + a * (1 / 8)) * (2 * w) = 2 * (a * w) + (1 / 4) * (a * w) := by grind
      rw [e5] at r1 r2
      have e6 : (a + a * (1 / 8)) * w = (a * w) + (1 / 8) * (a * w) := by grind
      rw [e6] at hKw2
      have e7 : B * (2 * (2 * w)) = 4 * (B * w) := by grind
      rw [e7]
      generalize fv f (f.nearest (s ^^ t) k e) = r at *
      generalize a * w = aw at *
      generalize B * w = bw at *
      rcases hsgc with h' | h' <;> rw [h'] at r1 r2 hqa <;> constructor <;> grind
    · intro h
      apply rn.nonneg
      rcases hsgc with h' | h' <;> rw [h'] at hqa ⊢ <;> grind
    · intro h
      apply rn.nonpos
      rcases hsgc with h' | h' <;> rw [h'] at hqa ⊢ <;> grind
end Fl
