/- Basins, plain: gaps, and what is evened out. -/
import Derived.Test.YtihknapgdkladaaL3
import Derived.Test.YtihknapgdkladaaS5
set_option linter.unusedVariables false
set_option linter.unusedSectionVars false
set_option linter.unusedSimpArgs false
namespace Go.Proofs.Ytihknapgdkladaa
open Fl Go

theorem pw_m24 : pw (-24) = 1 / 16777216 := by
  have h := pw_neg_mul 24
  have h2 : pw 24 = 16777216 := by rw [show (24 : Int) = ((24 : Nat) : Int) by rfl, pw_nat]; rfl
  rw [h2] at h
  grind
theorem pw_m40 : pw (-40) = 1 / 1099511627776 := by
  have h := pw_neg_mul 40
  have h2 : pw 40 = 1099511627776 := by rw [show (40 : Int) = ((40 : Nat) : Int) by rfl, pw_nat]; rfl
  rw [h2] at h
  grind
theorem pw_m62 : pw (-62) = 1 / 4611686018427387904 := by
  have h := pw_neg_mul 62
  have h2 : pw 62 = 4611686018427387904 := by rw [show (62 : Int) = ((62 : Nat) : Int) by rfl, pw_nat]; rfl
  rw [h2] at h
  grind
theorem pw_m3 : pw (-3) = 1 / 8 := by
  have h := pw_neg_mul 3
  have h2 : pw 3 = 8 := by rw [show (3 : Int) = ((3 : Nat) : Int) by rfl, pw_nat]; rfl
  rw [h2] at h
  grind

theorem Gr_wide {j : Int} {N b : Nat} (h : Gr Ieee.single j N b) : Gr Ieee.double j N (wide b) := by
  obtain ⟨_, h2, h3, h4⟩ := wide_num h.num
  obtain ⟨k, k1, k2⟩ := h.at_
  exact ⟨h2, h3, k, by rw [h4, k1], k2⟩

/-- a thousandth -/
theorem milli : Num Ieee.double 4562254508917369340 ∧ 990 / 1000000 < fv Ieee.double 4562254508917369340 := by
  have h : Ieee.double.read 4562254508917369340 = .number false 4611686018427388 (-62) := by decide +kernel
  refine ⟨⟨_, _, _, h⟩, ?_⟩
  rw [fv_num h, pw_m62]
  simp only [sg]
  have : ((4611686018427388 : Nat) : Rat) = 4611686018427388 := rfl
  rw [this]
  grind

theorem gap_near {x y : Nat} (hx : Num Ieee.double x) (hy : Num Ieee.double y) (B : Rat) (hB : B ≤ 1) (h1 : -B ≤ fv Ieee.double x - fv Ieee.double y) (h2 : fv Ieee.double x - fv Ieee.double y ≤ B) :
    Num Ieee.double (fsub Ieee.double x y) ∧ Num Ieee.double (fsub Ieee.double y x) ∧ Num Ieee.double (gapD x y) ∧ fv Ieee.double (gapD x y) ≤ B + 1 / 1000000 := by
  have p1 : (1 : Rat) ≤ pw 1023 := by rw [← pw_zero]; exact pw_le (by decide)
  have r1 := sub_rnd okD hx hy (by grind) (by grind)
  have r2 := sub_rnd okD hy hx (by grind) (by grind)
  obtain ⟨f1, f2, f3, f4⟩ := fmaxD_num r1.num r2.num
  have n1 := (r1.near B h1 h2).1
  have n2 := (r2.near B (by grind) (by grind)).1
  have e1 : pw (-(Ieee.double.fractionBits + 1 : Int)) ≤ pw (-40) := pw_le (by decide)
  have e2 : pw (Ieee.double.leastPlace - 1) ≤ pw (-40) := pw_le (by decide +kernel)
  have e3 := pw_pos (-(Ieee.double.fractionBits + 1 : Int))
  have hB0 : 0 ≤ B := by grind
  have e4 : B * pw (-(Ieee.double.fractionBits + 1 : Int)) ≤ 1 * pw (-40) := by
    have a := Rat.mul_le_mul_of_nonneg_right hB (Rat.le_of_lt e3)
    grind
  rw [pw_m40] at e2 e4
  refine ⟨r1.num, r2.num, f1, ?_⟩
  unfold gapD
  rcases f2 with f2 | f2
  · rw [f2]; grind
  · rw [f2]; grind
theorem gap_zero {x y : Nat} (hx : Num Ieee.double x) (hy : Num Ieee.double y) (h : fv Ieee.double x = fv Ieee.double y) :
    Num Ieee.double (fsub Ieee.double x y) ∧ Num Ieee.double (fsub Ieee.double y x) ∧ Num Ieee.double (gapD x y) ∧ fv Ieee.double (gapD x y) ≤ 1 / 1000000 := by
  have := gap_near hx hy 0 (by grind) (by grind) (by grind)
  refine ⟨this.1, this.2.1, this.2.2.1, ?_⟩
  have := this.2.2.2
  grind
/-- a small gap is not more than a thousandth, and is less -/
theorem gap_ord {g : Nat} (hg : Num Ieee.double g) (h : fv Ieee.double g ≤ 980 / 1000000) : Ieee.double.order g 4562254508917369340 = some .lt := by
  have := milli.2
  rw [order_num hg milli.1, if_pos (by grind)]

theorem le_ord {x y : Nat} (hx : Num Ieee.single x) (hy : Num Ieee.single y) (h : fv Ieee.single x ≤ fv Ieee.single y) : (Ieee.single.order x y == some .lt || Ieee.single.order x y == some .eq) = true := by
  rw [order_num hx hy]
  by_cases h1 : fv Ieee.single x < fv Ieee.single y
  · simp [h1]
  · have h2 : fv Ieee.single x = fv Ieee.single y := by grind
    simp [h2]
theorem ge_ord {x y : Nat} (hx : Num Ieee.single x) (hy : Num Ieee.single y) (h : fv Ieee.single y ≤ fv Ieee.single x) : (Ieee.single.order x y == some .gt || Ieee.single.order x y == some .eq) = true := by
  rw [order_num hx hy]
  have h1 : ¬ fv Ieee.single x < fv Ieee.single y := by grind
  by_cases h2 : fv Ieee.single x = fv Ieee.single y
  · simp [h2]
  · simp [h1, h2]
theorem set_num {l : List Nat} (h : AllNum l) (i v : Nat) (hv : Num Ieee.single v) : AllNum (l.set i v) := by
  intro j hj
  rw [List.length_set] at hj
  rw [List.getD_eq_getElem?_getD]
  by_cases he : i = j
  · subst he; rw [List.getElem?_set_self hj]; exact hv
  · rw [List.getElem?_set_ne he, ← List.getD_eq_getElem?_getD]; exact h j hj

/-- one step of a sum of what is evened out: A = what is summed up so far, P = what it should be -/
theorem even_step (A P v m q ev s K : Rat) (d t : Rat) (hd : d = 1 / 16777216) (ht : 0 < t) (ht2 : t ≤ 1 / 1099511627776)
    (hv1 : -2 ≤ v) (hv2 : v ≤ 2) (hq1 : -2 ≤ q) (hq2 : q ≤ 2) (hm1 : m - q ≤ 2 * (2 * d) + t) (hm2 : q - m ≤ 2 * (2 * d) + t)
    (he : ∀ B, -B ≤ v - m → v - m ≤ B → ev - (v - m) ≤ B * d + t ∧ (v - m) - ev ≤ B * d + t)
    (hK0 : 0 ≤ K) (hK : K ≤ 36) (hP1 : -(4 * K) ≤ P) (hP2 : P ≤ 4 * K) (hA1 : A - P ≤ K * (1 / 65536)) (hA2 : P - A ≤ K * (1 / 65536))
    (hs : ∀ B, -B ≤ A + ev → A + ev ≤ B → s - (A + ev) ≤ B * d + t ∧ (A + ev) - s ≤ B * d + t) :
    s - (P + (v - q)) ≤ (K + 1) * (1 / 65536) ∧ (P + (v - q)) - s ≤ (K + 1) * (1 / 65536) := by
  subst hd
  have e1 := he 5 (by grind) (by grind)
  have e2 := hs 160 (by grind) (by grind)
  grind

theorem nat_rat_le {a b : Nat} (h : a ≤ b) : (a : Rat) ≤ (b : Rat) := by norm_cast

/-- what is evened out -/
theorem even_out {W H : Nat} {l : List Nat} (h : GrL 16 l) (hs : Siz W H) (hl : l.length = W * H) (hWH : W * H ≤ 36) :
    ∃ m, Ieee.single.div (sumK l (W * H)) (floatOfInt .f32 ((W * H : Nat) : Int)) = some m ∧ Num Ieee.single m ∧ AllNum (evenL W H l m) ∧ SumOk (evenL W H l m) ∧
      -(980 / 1000000) + 1 / 1000000 ≤ fv Ieee.single (sumK (evenL W H l m) (W * H)) ∧ fv Ieee.single (sumK (evenL W H l m) (W * H)) ≤ 980 / 1000000 - 1 / 1000000 := by
  have h9 : 3 * 3 ≤ W * H := Nat.mul_le_mul hs.a hs.c
  obtain ⟨g, vs⟩ := sum_gr h (by omega) (by omega) (W * H) (by omega)
  obtain ⟨gn, vn⟩ := ofInt_gr .f32 okS ((W * H : Nat) : Int) 36 (by omega) (by decide) (by decide)
  have hbd := g.bd
  rw [pw_m3] at hbd
  have hat : ∀ i, i < W * H → l.getD i 0 = bat W H l ((i % W : Nat) : Int) ((i / W : Nat) : Int) := fun i hi => getD_bat l i hs hi
  have hev : ∀ m i, i < W * H → (evenL W H l m).getD i 0 = fsub Ieee.single (l.getD i 0) m := fun m i hi => by
    unfold evenL
    rw [cl_getD _ _ _ _ hi, hat i hi]
  have hel : ∀ m, (evenL W H l m).length = W * H := fun m => cl_length _ _ _
  generalize hn : W * H = n at *
  have hnR9 : (9 : Rat) ≤ (n : Rat) := nat_rat_le (show 9 ≤ n by omega)
  have hnR36 : (n : Rat) ≤ 36 := nat_rat_le hWH
  have p1 : (200 : Rat) ≤ pw 126 := by
    have : pw 8 ≤ pw 126 := pw_le (by decide)
    rw [show (8 : Int) = ((8 : Nat) : Int) by rfl, pw_nat] at this
    have h2 : ((2 ^ 8 : Nat) : Rat) = 256 := rfl
    rw [h2] at this
    grind
  have p2 : pw 126 ≤ pw 127 := pw_le (by decide)
  have hvn : fv Ieee.single (floatOfInt .f32 ((n : Nat) : Int)) = (n : Rat) := vn.trans (by norm_cast)
  have hgn : Num Ieee.single (floatOfInt .f32 ((n : Nat) : Int)) := gn.num
  -- the mean
  obtain ⟨q, hq⟩ : ∃ q : Rat, q * (n : Rat) = fv Ieee.single (sumK l n) := ⟨fv Ieee.single (sumK l n) / (n : Rat), Rat.div_mul_cancel (by grind)⟩
  have hmul : ((n * 16 : Nat) : Rat) = (n : Rat) * 16 := by norm_cast
  rw [hmul] at hbd
  have hq2 : q ≤ 2 := by
    apply Rat.not_lt.1
    intro hc
    have := Rat.mul_lt_mul_of_pos_right hc (show 0 < (n : Rat) by grind)
    grind
  have hq1 : -2 ≤ q := by
    apply Rat.not_lt.1
    intro hc
    have := Rat.mul_lt_mul_of_pos_right hc (show 0 < (n : Rat) by grind)
    grind
  obtain ⟨d1, d2, d3, d4, _⟩ := div_rnd okS g.num hgn q (by rw [hvn]; grind) (by rw [hvn]; exact hq) (by show -(pw 126) ≤ q; grind) (by show q ≤ pw 126; grind)
  obtain ⟨m1, m2⟩ := d4 2 (by grind) (by grind)
  generalize hm : fdiv Ieee.single (sumK l n) (floatOfInt .f32 ((n : Nat) : Int)) = m at *
  have hfb : pw (-(Ieee.single.fractionBits + 1 : Int)) = 1 / 16777216 := pw_m24
  have ht0 := pw_pos (Ieee.single.leastPlace - 1)
  have ht1 : pw (Ieee.single.leastPlace - 1) ≤ 1 / 1099511627776 := by rw [← pw_m40]; exact pw_le (by decide)
  rw [hfb] at m1 m2
  -- each word
  have hv : ∀ i, i < n → -2 ≤ fv Ieee.single (l.getD i 0) ∧ fv Ieee.single (l.getD i 0) ≤ 2 := fun i hi => by
    have := (h i (by omega)).bd
    rw [pw_m3] at this
    have e : ((16 : Nat) : Rat) = 16 := rfl
    rw [e] at this
    grind
  have hr : ∀ i, i < n → Rnd Ieee.single (fv Ieee.single (l.getD i 0) - fv Ieee.single m) (fsub Ieee.single (l.getD i 0) m) := fun i hi =>
    sub_rnd okS (h i (by omega)).num d2 (by have := hv i hi; grind) (by have := hv i hi; grind)
  have hsum : ∀ k, k ≤ n → Num Ieee.single (sumK (evenL W H l m) k) ∧
      (-(4 * (k : Rat)) ≤ sumR (fun i => fv Ieee.single (l.getD i 0)) k - k * q ∧ sumR (fun i => fv Ieee.single (l.getD i 0)) k - k * q ≤ 4 * (k : Rat)) ∧
      fv Ieee.single (sumK (evenL W H l m) k) - (sumR (fun i => fv Ieee.single (l.getD i 0)) k - k * q) ≤ k * (1 / 65536) ∧
      (sumR (fun i => fv Ieee.single (l.getD i 0)) k - k * q) - fv Ieee.single (sumK (evenL W H l m) k) ≤ k * (1 / 65536) := by
    intro k
    induction k with
    | zero =>
      intro _
      refine ⟨num0.1.num, ?_⟩
      show _ ∧ fv Ieee.single 0 - _ ≤ _ ∧ _ - fv Ieee.single 0 ≤ _
      rw [num0.2]
      simp only [sumR]
      have : ((0 : Nat) : Rat) = 0 := rfl
      rw [this]
      grind
    | succ k ih =>
      intro hk
      obtain ⟨i1, ⟨i2, i3⟩, i4, i5⟩ := ih (by omega)
      have hkr : ((k + 1 : Nat) : Rat) = (k : Rat) + 1 := by norm_cast
      have hk36 : (k : Rat) ≤ 36 := nat_rat_le (show k ≤ 36 by omega)
      have hk0 : (0 : Rat) ≤ (k : Rat) := nat_rat_le (Nat.zero_le k)
      have r := hr k (by omega)
      have v := hv k (by omega)
      have rn := r.near
      rw [hfb] at rn
      have ev5 := rn 5 (by grind) (by grind)
      have ra := add_rnd okS i1 r.num (by grind) (by grind)
      have ran := ra.near
      rw [hfb] at ran
      have st := even_step (fv Ieee.single (sumK (evenL W H l m) k)) (sumR (fun i => fv Ieee.single (l.getD i 0)) k - k * q) (fv Ieee.single (l.getD k 0)) (fv Ieee.single m) q _ _ k (1 / 16777216) _ rfl ht0 ht1 v.1 v.2 hq1 hq2 m1 m2 rn hk0 hk36 i2 i3 i4 i5 ran
      have e : sumK (evenL W H l m) (k + 1) = fadd Ieee.single (sumK (evenL W H l m) k) (fsub Ieee.single (l.getD k 0) m) := by
        show fadd _ _ _ = _
        rw [hev m k (by omega)]
      rw [e, hkr, sumR]
      refine ⟨ra.num, ?_, ?_⟩
      · grind
      · grind
  obtain ⟨s1, _, s2, s3⟩ := hsum n (Nat.le_refl _)
  rw [← vs, ← hq] at s2 s3
  refine ⟨m, d1, d2, ?_, fun k hk => (hsum k (by rw [hel] at hk; exact hk)).1, ?_, ?_⟩
  · intro i hi
    rw [hel] at hi
    rw [hev m i hi]
    exact (hr i hi).num
  · grind
  · grind
end Go.Proofs.Ytihknapgdkladaa
