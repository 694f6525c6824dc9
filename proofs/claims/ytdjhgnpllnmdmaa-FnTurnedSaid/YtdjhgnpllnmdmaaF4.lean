import Derived.Test.YtdjhgnpllnmdmaaF3
import GoSem.Core.Float
import GoSem.Op.Unary
import Derived.Laws.FloatArith
set_option linter.unusedSimpArgs false
set_option linter.unusedVariables false
set_option linter.unusedSectionVars false
namespace Fl
open Ieee Go

theorem Rnd.of_exact {f : Format} {X : Rat} {r : Nat} (h : Rnd f X r) (k j : Int) (hk : X = (k : Rat) * pw j) (hb : k.natAbs < 2 ^ (f.fractionBits + 1)) (hj : f.leastPlace ≤ j) : fv f r = X :=
  h.exact k j hk hb hj

/-! ## exact arithmetic: whole multiples of 'pw j', small enough -/
structure Gr (f : Format) (j : Int) (N : Nat) (b : Nat) : Prop where
  num : Num f b
  lt : b < 2 ^ f.width
  at_ : ∃ k : Int, fv f b = (k : Rat) * pw j ∧ k.natAbs ≤ N

theorem Gr.mono {f : Format} {j : Int} {N M b : Nat} (h : Gr f j N b) (hN : N ≤ M) : Gr f j M b := by
  obtain ⟨k, h1, h2⟩ := h.at_
  exact ⟨h.num, h.lt, k, h1, Nat.le_trans h2 hN⟩

theorem int_le_of_natAbs {k : Int} {N : Nat} (h : k.natAbs ≤ N) : -((N : Nat) : Rat) ≤ (k : Rat) ∧ (k : Rat) ≤ ((N : Nat) : Rat) := by
  have h1 : -(N : Int) ≤ k := by omega
  have h2 : k ≤ (N : Int) := by omega
  have e1 : ((N : Int) : Rat) = ((N : Nat) : Rat) := Rat.intCast_natCast N
  constructor
  · have : ((-(N : Int) : Int) : Rat) ≤ (k : Rat) := by exact_mod_cast h1
    rw [Rat.intCast_neg, e1] at this; exact this
  · rw [← e1]; exact_mod_cast h2

theorem Gr.bd {f : Format} {j : Int} {N b : Nat} (h : Gr f j N b) : -((N : Rat) * pw j) ≤ fv f b ∧ fv f b ≤ (N : Rat) * pw j := by
  obtain ⟨k, h1, h2⟩ := h.at_
  obtain ⟨b1, b2⟩ := int_le_of_natAbs h2
  have hp := Rat.le_of_lt (pw_pos j)
  have c1 := Rat.mul_le_mul_of_nonneg_right b1 hp
  have c2 := Rat.mul_le_mul_of_nonneg_right b2 hp
  rw [h1]
  constructor <;> grind

/-- a whole multiple lies below the greatest power -/
theorem gr_le {f : Format} {E : Int} {j : Int} {N : Nat} (hN : N < 2 ^ (f.fractionBits + 1)) (hj : j + f.fractionBits + 1 ≤ E) : (N : Rat) * pw j ≤ pw E := by
  have h1 : (N : Rat) ≤ ((2 ^ (f.fractionBits + 1) : Nat) : Rat) := by exact_mod_cast Nat.le_of_lt hN
  have h2 := Rat.mul_le_mul_of_nonneg_right h1 (Rat.le_of_lt (pw_pos j))
  rw [← pw_nat, ← pw_add] at h2
  exact Rat.le_trans h2 (pw_le (by omega))

theorem Gr.of_rnd {f : Format} {j : Int} {N : Nat} {X : Rat} {r : Nat} (h : Rnd f X r) (k : Int) (hk : X = (k : Rat) * pw j) (hN : k.natAbs ≤ N) (hb : N < 2 ^ (f.fractionBits + 1)) (hj : f.leastPlace ≤ j) :
    Gr f j N r ∧ fv f r = X :=
  have e := h.exact k j hk (by omega) hj
  ⟨⟨h.num, h.lt, k, by rw [e, hk], hN⟩, e⟩

section
variable {f : Format} {E : Int} (ok : Ok f E) {j : Int} {N M x y : Nat}
include ok
theorem Gr.add (hx : Gr f j N x) (hy : Gr f j M y) (hb : N + M < 2 ^ (f.fractionBits + 1)) (hj : f.leastPlace ≤ j) (hE : j + f.fractionBits + 1 ≤ E) :
    f.add x y = some (fadd f x y) ∧ Gr f j (N + M) (fadd f x y) ∧ fv f (fadd f x y) = fv f x + fv f y := by
  obtain ⟨a, a1, a2⟩ := hx.at_
  obtain ⟨b, b1, b2⟩ := hy.at_
  have hX : fv f x + fv f y = ((a + b : Int) : Rat) * pw j := by rw [a1, b1, Rat.intCast_add]; grind
  have hab : (a + b).natAbs ≤ N + M := by omega
  have hle := gr_le (f := f) (E := E) hb hE
  obtain ⟨c1, c2⟩ := int_le_of_natAbs hab
  have hp := Rat.le_of_lt (pw_pos j)
  have d1 := Rat.mul_le_mul_of_nonneg_right c1 hp
  have d2 := Rat.mul_le_mul_of_nonneg_right c2 hp
  have r := add_rnd ok hx.num hy.num (by rw [hX]; grind) (by rw [hX]; grind)
  obtain ⟨g1, g2⟩ := Gr.of_rnd r (a + b) hX hab hb hj
  exact ⟨add_some hx.num hy.num, g1, g2⟩
theorem Gr.sub (hx : Gr f j N x) (hy : Gr f j M y) (hb : N + M < 2 ^ (f.fractionBits + 1)) (hj : f.leastPlace ≤ j) (hE : j + f.fractionBits + 1 ≤ E) :
    f.sub x y = some (fsub f x y) ∧ Gr f j (N + M) (fsub f x y) ∧ fv f (fsub f x y) = fv f x - fv f y := by
  obtain ⟨a, a1, a2⟩ := hx.at_
  obtain ⟨b, b1, b2⟩ := hy.at_
  have hX : fv f x - fv f y = ((a - b : Int) : Rat) * pw j := by rw [a1, b1, Rat.intCast_sub]; grind
  have hab : (a - b).natAbs ≤ N + M := by omega
  have hle := gr_le (f := f) (E := E) hb hE
  obtain ⟨c1, c2⟩ := int_le_of_natAbs hab
  have hp := Rat.le_of_lt (pw_pos j)
  have d1 := Rat.mul_le_mul_of_nonneg_right c1 hp
  have d2 := Rat.mul_le_mul_of_nonneg_right c2 hp
  have r := sub_rnd ok hx.num hy.num (by rw [hX]; grind) (by rw [hX]; grind)
  obtain ⟨g1, g2⟩ := Gr.of_rnd r (a - b) hX hab hb hj
  exact ⟨sub_some hx.num hy.num, g1, g2⟩
theorem Gr.mul {i : Int} (hx : Gr f i N x) (hy : Gr f j M y) (hb : N * M < 2 ^ (f.fractionBits + 1)) (hj : f.leastPlace ≤ i + j) (hE : i + j + f.fractionBits + 1 ≤ E) :
    f.mul x y = some (fmul f x y) ∧ Gr f (i + j) (N * M) (fmul f x y) ∧ fv f (fmul f x y) = fv f x * fv f y := by
  obtain ⟨a, a1, a2⟩ := hx.at_
  obtain ⟨b, b1, b2⟩ := hy.at_
  have hX : fv f x * fv f y = ((a * b : Int) : Rat) * pw (i + j) := by rw [a1, b1, Rat.intCast_mul, pw_add]; grind
  have hab : (a * b).natAbs ≤ N * M := by rw [Int.natAbs_mul]; exact Nat.mul_le_mul a2 b2
  have hle := gr_le (f := f) (E := E) hb hE
  obtain ⟨c1, c2⟩ := int_le_of_natAbs hab
  have hp := Rat.le_of_lt (pw_pos (i + j))
  have d1 := Rat.mul_le_mul_of_nonneg_right c1 hp
  have d2 := Rat.mul_le_mul_of_nonneg_right c2 hp
  have r := mul_rnd ok hx.num hy.num (by rw [hX]; grind) (by rw [hX]; grind)
  obtain ⟨g1, g2⟩ := Gr.of_rnd r (a * b) hX hab hb hj
  exact ⟨mul_some hx.num hy.num, g1, g2⟩
end

/-! ## negation -/
theorem neg_read (k : FloatKind) (b : Nat) (h : b < 2 ^ k.format.width) : k.format.read (Op.negFloat k b) = (k.format.read b).opposite ∧ Op.negFloat k b < 2 ^ k.format.width := by
  unfold Op.negFloat
  have hw : 2 ^ k.format.width = 2 ^ (k.format.exponentBits + k.format.fractionBits) * 2 := by
    unfold Format.width; rw [← Nat.pow_succ]; congr 1; omega
  have hsw : k.format.signWeight = 2 ^ (k.format.exponentBits + k.format.fractionBits) := rfl
  generalize hn : k.format.exponentBits + k.format.fractionBits = n at *
  have hx : (b ^^^ 2 ^ n) % 2 ^ n = b % 2 ^ n := by
    rw [Nat.xor_mod_two_pow, Nat.mod_self, Nat.xor_zero]
  have hb2 : b / 2 ^ n < 2 := by rw [Nat.div_lt_iff_lt_mul (Nat.two_pow_pos n), Nat.mul_comm, ← hw]; exact h
  have hx2 : (b ^^^ 2 ^ n) / 2 ^ n = (b / 2 ^ n) ^^^ 1 := by
    rw [← Nat.shiftRight_eq_div_pow, ← Nat.shiftRight_eq_div_pow, Nat.shiftRight_xor_distrib]
    congr 1
    rw [Nat.shiftRight_eq_div_pow, Nat.div_self (Nat.two_pow_pos n)]
  have hlt : (b ^^^ 2 ^ n) < 2 ^ n * 2 := by
    rw [← Nat.pow_succ]
    exact Nat.xor_lt_two_pow (by rw [Nat.pow_succ]; omega) (Nat.pow_lt_pow_right (by omega) (by omega))
  refine ⟨?_, by rw [hw]; exact hlt⟩
  unfold Format.read
  rw [hsw, hx, hx2]
  have hneg : ((b / 2 ^ n ^^^ 1) % 2 == 1) = !(b / 2 ^ n % 2 == 1) := by
    have : b / 2 ^ n = 0 ∨ b / 2 ^ n = 1 := by generalize b / 2 ^ n = q at hb2; omega
    rcases this with h' | h' <;> rw [h'] <;> rfl
  rw [hneg]
  simp only []
  split
  · rfl
  · split
    · rfl
    · split <;> rfl

theorem neg_num (k : FloatKind) {b : Nat} (h : b < 2 ^ k.format.width) (hn : Num k.format b) : Num k.format (Op.negFloat k b) ∧ fv k.format (Op.negFloat k b) = -fv k.format b := by
  obtain ⟨s, m, e, hr⟩ := hn
  have h1 := (neg_read k b h).1
  rw [hr] at h1
  refine ⟨⟨_, _, _, h1⟩, ?_⟩
  unfold fv dv
  rw [h1, hr]
  cases s <;> simp [Datum.opposite, sg] <;> grind

theorem neg_neg (k : FloatKind) (b : Nat) : Op.negFloat k (Op.negFloat k b) = b := by
  unfold Op.negFloat
  rw [Nat.xor_assoc, Nat.xor_self, Nat.xor_zero]

theorem Gr.neg (k : FloatKind) {j : Int} {N b : Nat} (h : Gr k.format j N b) : Gr k.format j N (Op.negFloat k b) ∧ fv k.format (Op.negFloat k b) = -fv k.format b := by
  obtain ⟨h1, h2⟩ := neg_num k h.lt h.num
  obtain ⟨a, a1, a2⟩ := h.at_
  refine ⟨⟨h1, (neg_read k b h.lt).2, -a, ?_, by omega⟩, h2⟩
  rw [h2, a1, Rat.intCast_neg]; grind

/-! ## integers -/
theorem ofInt_gr (k : FloatKind) {E : Int} (ok : Ok k.format E) (n : Int) (N : Nat) (h : n.natAbs ≤ N) (hN : N < 2 ^ (k.format.fractionBits + 1)) (hE : (k.format.fractionBits : Int) + 1 ≤ E) :
    Gr k.format 0 N (k.nearest n) ∧ fv k.format (k.nearest n) = (n : Rat) := by
  have hX : sg (decide (n < 0)) * (n.natAbs : Rat) * pw 0 = (n : Rat) := by rw [sg_natAbs, pw_zero]; grind
  have hle := gr_le (f := k.format) (E := E) (j := 0) hN (by omega)
  obtain ⟨c1, c2⟩ := int_le_of_natAbs h
  rw [pw_zero] at hle
  have r := rnd_nearest ok (decide (n < 0)) n.natAbs 0 (n : Rat) hX (by grind) (by grind)
  obtain ⟨g1, g2⟩ := Gr.of_rnd r n (by rw [pw_zero]; grind) h hN (by have := ok.low; omega)
  exact ⟨g1, g2⟩

/-! ## from one kind to the other -/
theorem read_lt {f : Format} {b : Nat} {s : Bool} {m : Nat} {e : Int} (h : f.read b = .number s m e) : m < 2 ^ (f.fractionBits + 1) ∧ f.leastPlace ≤ e := by
  unfold Format.read at h
  simp only [] at h
  have hb : f.binade = 2 ^ f.fractionBits := rfl
  have hp := Nat.two_pow_pos f.fractionBits
  rw [Nat.pow_succ]
  split at h
  · injection h with _ h2 h3
    omega
  · split at h
    · injection h with _ h2 h3
      have := Nat.mod_lt (b % f.signWeight) (show 0 < f.binade by omega)
      omega
    · split at h <;> cases h

theorem read_le {f : Format} {E : Int} (ok : Ok f E) {b : Nat} {s : Bool} {m : Nat} {e : Int} (h : f.read b = .number s m e) : e ≤ E - f.fractionBits := by
  unfold Format.read at h
  simp only [] at h
  have hb : f.binade = 2 ^ f.fractionBits := rfl
  have hp := Nat.two_pow_pos f.fractionBits
  have hw := ok.wide
  split at h
  · injection h with _ h2 h3
    omega
  · split at h
    · rename_i h1
      injection h with _ h2 h3
      rw [ok.inf] at h1
      have h4 := Nat.div_lt_of_lt_mul (by rw [Nat.mul_comm]; exact h1)
      rw [hb] at h3
      omega
    · split at h <;> cases h

theorem num_bd {f : Format} {E : Int} (ok : Ok f E) {b : Nat} (h : Num f b) : -(pw (E + 1)) ≤ fv f b ∧ fv f b ≤ pw (E + 1) := by
  obtain ⟨s, m, e, h⟩ := h
  rw [fv_num h]
  obtain ⟨h1, _⟩ := read_lt h
  have h2 := read_le ok h
  have h3 : (m : Rat) ≤ ((2 ^ (f.fractionBits + 1) : Nat) : Rat) := by exact_mod_cast Nat.le_of_lt h1
  have h4 := Rat.mul_le_mul_of_nonneg_right h3 (Rat.le_of_lt (pw_pos e))
  rw [← pw_nat, ← pw_add] at h4
  have h5 : pw (((f.fractionBits + 1 : Nat) : Int) + e) ≤ pw (E + 1) := pw_le (by omega)
  have h6 : 0 ≤ (m : Rat) * pw e := Rat.mul_nonneg (by exact_mod_cast Nat.zero_le _) (Rat.le_of_lt (pw_pos e))
  cases s <;> simp only [sg] <;> constructor <;> grind

/-- float64(x): exact -/
def wide (b : Nat) : Nat := (floatToFloatBits .f32 b .f64).getD 0
theorem not_inf {f : Format} {r : Nat} (h : Num f r) : (f.read r).isInfinity = false := by
  obtain ⟨s, m, e, h⟩ := h; rw [h]; rfl
theorem wide_num {b : Nat} (h : Num single b) : floatToFloatBits .f32 b .f64 = some (wide b) ∧ Num double (wide b) ∧ wide b < 2 ^ 64 ∧ fv double (wide b) = fv single b := by
  obtain ⟨s, m, e, hr⟩ := h
  have hr' : FloatKind.f32.decode b = .number s m e := hr
  obtain ⟨h1, h2⟩ := read_lt hr
  have hbd := num_bd okS ⟨s, m, e, hr⟩
  rw [fv_num hr] at hbd
  have h9 : pw (127 + 1) ≤ pw 1023 := pw_le (by omega)
  have r := rnd_nearest okD s m e _ rfl (by grind) (by grind)
  have hni := not_inf r.num
  have hs : floatToFloatBits .f32 b .f64 = some (double.nearest s m e) := by
    unfold floatToFloatBits
    rw [if_neg (by decide), hr']
    simp only []
    have : (FloatKind.f64.decode (FloatKind.f64.encode (.number s m e))).isInfinity = false := hni
    rw [this]
    rfl
  have hw : wide b = double.nearest s m e := by unfold wide; rw [hs]; rfl
  rw [hw]
  refine ⟨hs, r.num, r.lt, ?_⟩
  rw [fv_num hr]
  have h3 : single.fractionBits = 23 := rfl
  have h4 : double.fractionBits = 52 := rfl
  rw [h3] at h1
  have h5 : single.leastPlace = -149 := by decide
  have h6 : double.leastPlace = -1074 := by decide +kernel
  refine r.exact (if s then -(m : Int) else m) e ?_ ?_ (by omega)
  · cases s
    · simp [sg, Rat.intCast_natCast]
    · simp [sg, Rat.intCast_neg, Rat.intCast_natCast]; grind
  · rw [h4]
    have : (if s then -(m : Int) else (m : Int)).natAbs = m := by cases s <;> simp
    rw [this]
    omega

/-- float32(x): narrowed -/
def narrow (b : Nat) : Nat := (floatToFloatBits .f64 b .f32).getD 0
theorem narrow_rnd {b : Nat} (h : Num double b) (h1 : -pw 127 ≤ fv double b) (h2 : fv double b ≤ pw 127) : floatToFloatBits .f64 b .f32 = some (narrow b) ∧ Rnd single (fv double b) (narrow b) := by
  obtain ⟨s, m, e, hr⟩ := h
  have hr' : FloatKind.f64.decode b = .number s m e := hr
  rw [fv_num hr] at h1 h2 ⊢
  have r := rnd_nearest okS s m e _ rfl h1 h2
  have hni := not_inf r.num
  have hs : floatToFloatBits .f64 b .f32 = some (single.nearest s m e) := by
    unfold floatToFloatBits
    rw [if_neg (by decide), hr']
    simp only []
    have : (FloatKind.f32.decode (FloatKind.f32.encode (.number s m e))).isInfinity = false := hni
    rw [this]
    rfl
  have hw : narrow b = single.nearest s m e := by unfold narrow; rw [hs]; rfl
  rw [hw]
  exact ⟨hs, r⟩
end Fl
