/- Basins, plain: lists of exact words. -/
import Derived.Test.YtihknapgdkladaaB11
import Derived.Test.YtihknapgdkladaaF5
set_option linter.unusedVariables false
set_option linter.unusedSectionVars false
set_option linter.unusedSimpArgs false
namespace Fl
open Ieee Go
theorem Gr.fine {f : Format} {i j : Int} {N b : Nat} (h : Gr f i N b) (d : Nat) (hj : i = j + d) : Gr f j (N * 2 ^ d) b := by
  obtain ⟨k, h1, h2⟩ := h.at_
  refine ⟨h.num, h.lt, k * (2 ^ d : Nat), ?_, ?_⟩
  · rw [h1, hj, pw_add, pw_nat, Rat.intCast_mul]
    have : (((2 ^ d : Nat) : Int) : Rat) = ((2 ^ d : Nat) : Rat) := by norm_cast
    rw [this]
    grind
  · rw [Int.natAbs_mul, Int.natAbs_natCast]
    exact Nat.mul_le_mul_right _ h2
end Fl
namespace Go.Proofs.Ytihknapgdkladaa
open Fl Go

/-- every word of the list is a whole multiple of an eighth, at most N eighths -/
def GrL (N : Nat) (l : List Nat) : Prop := ∀ i, i < l.length → Gr Ieee.single (-3) N (l.getD i 0)
theorem GrL.num {N : Nat} {l : List Nat} (h : GrL N l) : AllNum l := fun i hi => (h i hi).num
theorem GrL.mono {N M : Nat} {l : List Nat} (h : GrL N l) (hN : N ≤ M) : GrL M l := fun i hi => (h i hi).mono hN
theorem GrL.of_mem {N : Nat} {l : List Nat} (h : ∀ v, v ∈ l → Gr Ieee.single (-3) N v) : GrL N l := by
  intro i hi
  apply h
  rw [List.getD_eq_getElem?_getD, List.getElem?_eq_getElem hi]
  exact List.getElem_mem hi
theorem GrL.bat {N W H : Nat} {l : List Nat} (h : GrL N l) (hs : Siz W H) (hl : l.length = W * H) (x y : Int) : Gr Ieee.single (-3) N (bat W H l x y) := by
  obtain ⟨_, p⟩ := plc_cast W H x y hs.a hs.c
  exact h _ (by omega)
theorem cl_getD (W : Nat) (f : Nat → Nat → Nat) (k i : Nat) (h : i < k) : (cl W f k).getD i 0 = f (i % W) (i / W) := by
  unfold cl
  rw [List.getD_eq_getElem?_getD, List.getElem?_map, List.getElem?_range h]
  rfl
theorem divmod_lt {W H i : Nat} (hs : Siz W H) (h : i < W * H) : i % W < W ∧ i / W < H := by
  have h3 := hs.a
  exact ⟨Nat.mod_lt _ (by omega), Nat.div_lt_of_lt_mul h⟩
theorem GrL.cl {N W H : Nat} {f : Nat → Nat → Nat} (hs : Siz W H) (h : ∀ x y, x < W → y < H → Gr Ieee.single (-3) N (f x y)) : GrL N (cl W f (W * H)) := by
  intro i hi
  rw [cl_length] at hi
  rw [cl_getD _ _ _ _ hi]
  exact h _ _ (divmod_lt hs hi).1 (divmod_lt hs hi).2
theorem plc_nat {W H x y : Nat} (hx : x < W) (hy : y < H) : plc W H x y = x + W * y := by
  unfold plc
  rw [Int.emod_eq_of_lt (by omega) (by omega), Int.emod_eq_of_lt (by omega) (by omega), ← Int.natCast_mul, ← Int.natCast_add, Int.toNat_natCast]
theorem bat_cl {W H : Nat} (f : Nat → Nat → Nat) (x y : Int) (hs : Siz W H) : bat W H (cl W f (W * H)) x y = f (x % W).toNat (y % H).toNat := by
  have h3 := hs.a
  have h4 := hs.c
  have e1 := Int.emod_nonneg x (show (W : Int) ≠ 0 by omega)
  have e2 := Int.emod_lt_of_pos x (show 0 < (W : Int) by omega)
  have e3 := Int.emod_nonneg y (show (H : Int) ≠ 0 by omega)
  have e4 := Int.emod_lt_of_pos y (show 0 < (H : Int) by omega)
  obtain ⟨p1, p2⟩ := plc_cast W H x y h3 h4
  unfold bat
  rw [cl_getD _ _ _ _ p2]
  obtain ⟨a, ha⟩ := Int.eq_ofNat_of_zero_le e1
  obtain ⟨b, hb⟩ := Int.eq_ofNat_of_zero_le e3
  rw [ha, hb] at p1 ⊢
  have hp : plc W H x y = a + W * b := by
    rw [← Int.natCast_mul] at p1
    omega
  rw [hp, Nat.add_mul_mod_self_left, Nat.mod_eq_of_lt (by omega), Nat.add_mul_div_left _ _ (by omega), Nat.div_eq_of_lt (by omega)]
  simp
theorem bat_congr {W H : Nat} (l : List Nat) {x y x' y' : Int} (hx : x % W = x' % W) (hy : y % H = y' % H) : bat W H l x y = bat W H l x' y' := by
  unfold bat plc
  rw [hx, hy]
theorem getD_bat {W H : Nat} (l : List Nat) (i : Nat) (hs : Siz W H) (hi : i < W * H) : l.getD i 0 = bat W H l ((i % W : Nat) : Int) ((i / W : Nat) : Int) := by
  unfold bat
  rw [plc_nat (divmod_lt hs hi).1 (divmod_lt hs hi).2, Nat.add_comm, Nat.div_add_mod]
theorem list_ext_getD {l l' : List Nat} (h : l.length = l'.length) (hh : ∀ i, i < l.length → l.getD i 0 = l'.getD i 0) : l = l' := by
  apply List.ext_getElem h
  intro i h1 h2
  have := hh i h1
  rw [List.getD_eq_getElem?_getD, List.getD_eq_getElem?_getD, List.getElem?_eq_getElem h1, List.getElem?_eq_getElem h2] at this
  exact this

theorem four : Gr Ieee.single 2 1 1082130432 ∧ fv Ieee.single 1082130432 = 4 := by
  obtain ⟨h1, h2⟩ := gr_pow (b := 1082130432) (e := -21) (j := 2) (by decide) (by decide) (by decide)
  refine ⟨h1, h2.trans ?_⟩
  rw [show (2 : Int) = ((2 : Nat) : Int) by rfl, pw_nat]
  rfl
theorem two_ : Gr Ieee.single 1 1 1073741824 ∧ fv Ieee.single 1073741824 = 2 := by
  obtain ⟨h1, h2⟩ := gr_pow (b := 1073741824) (e := -22) (j := 1) (by decide) (by decide) (by decide)
  refine ⟨h1, h2.trans ?_⟩
  rw [pw_one]

/-- the value of a cell -/
def vb (W H : Nat) (l : List Nat) (x y : Int) : Rat := fv Ieee.single (bat W H l x y)

theorem laplace_gr {N W H : Nat} {l : List Nat} (h : GrL N l) (hN : N ≤ 100000) (hs : Siz W H) (hl : l.length = W * H) (x y : Int) :
    (Num Ieee.single (fadd Ieee.single (bat W H l (x - 1) y) (bat W H l (x + 1) y)) ∧ Num Ieee.single (fadd Ieee.single (bat W H l x (y - 1)) (bat W H l x (y + 1))) ∧
      Num Ieee.single (aroundB W H l x y) ∧ Num Ieee.single (fmul Ieee.single 1082130432 (bat W H l x y))) ∧
    Gr Ieee.single (-3) (8 * N) (laplaceB W H l x y) ∧
    fv Ieee.single (laplaceB W H l x y) = (vb W H l (x - 1) y + vb W H l (x + 1) y) + (vb W H l x (y - 1) + vb W H l x (y + 1)) - 4 * vb W H l x y := by
  have hfr : (2 : Nat) ^ (Ieee.single.fractionBits + 1) = 16777216 := by decide
  have b1 := h.bat hs hl (x - 1) y
  have b2 := h.bat hs hl (x + 1) y
  have b3 := h.bat hs hl x (y - 1)
  have b4 := h.bat hs hl x (y + 1)
  have b5 := h.bat hs hl x y
  obtain ⟨_, s1, v1⟩ := Gr.add okS b1 b2 (by omega) (by decide) (by decide)
  obtain ⟨_, s2, v2⟩ := Gr.add okS b3 b4 (by omega) (by decide) (by decide)
  obtain ⟨_, s3, v3⟩ := Gr.add okS s1 s2 (by omega) (by decide) (by decide)
  obtain ⟨_, s4, v4⟩ := Gr.mul okS four.1 b5 (by omega) (by decide) (by decide)
  have s5 := s4.fine (j := -3) 2 (by decide)
  obtain ⟨_, s6, v6⟩ := Gr.sub okS s3 s5 (by omega) (by decide) (by decide)
  refine ⟨⟨s1.num, s2.num, s3.num, s4.num⟩, s6.mono (by omega), ?_⟩
  unfold laplaceB vb
  unfold aroundB
  rw [v6, v3, v1, v2, v4, four.2]

/-- the Laplace basin -/
def lapl (W H : Nat) (l : List Nat) : List Nat := cl W (fun x y => laplaceB W H l x y) (W * H)
theorem lapl_len (W H : Nat) (l : List Nat) : (lapl W H l).length = W * H := cl_length _ _ _
theorem lapl_gr {N W H : Nat} {l : List Nat} (h : GrL N l) (hN : N ≤ 100000) (hs : Siz W H) (hl : l.length = W * H) : GrL (8 * N) (lapl W H l) ∧ LapOk W H l :=
  ⟨GrL.cl hs (fun x y _ _ => (laplace_gr h hN hs hl x y).2.1), fun x y _ _ => (laplace_gr h hN hs hl x y).1⟩

/-- exact sums -/
def sumR (v : Nat → Rat) : Nat → Rat
  | 0 => 0
  | k + 1 => sumR v k + v k
theorem num0 : Gr Ieee.single (-3) 0 0 ∧ fv Ieee.single 0 = 0 := by
  have h : Ieee.single.read 0 = .number false 0 (-149) := by decide
  have h1 : fv Ieee.single 0 = 0 := by rw [fv_num h]; simp
  exact ⟨⟨⟨_, _, _, h⟩, by decide, 0, by rw [h1]; simp, by simp⟩, h1⟩
theorem sum_gr {N : Nat} {l : List Nat} (h : GrL N l) (hN : N ≤ 10000) (hl : l.length ≤ 256) : ∀ k, k ≤ l.length → Gr Ieee.single (-3) (k * N) (sumK l k) ∧ fv Ieee.single (sumK l k) = sumR (fun i => fv Ieee.single (l.getD i 0)) k := by
  have hfr : (2 : Nat) ^ (Ieee.single.fractionBits + 1) = 16777216 := by decide
  intro k
  induction k with
  | zero => intro _; rw [Nat.zero_mul]; exact num0
  | succ k ih =>
    intro hk
    obtain ⟨g1, v1⟩ := ih (by omega)
    have hb : k * N + N < 16777216 := by
      have : k * N ≤ 256 * 10000 := Nat.mul_le_mul (by omega) hN
      omega
    obtain ⟨_, s1, v2⟩ := Gr.add okS g1 (h k (by omega)) (by omega) (by decide) (by decide)
    refine ⟨?_, ?_⟩
    · rw [Nat.succ_mul]; exact s1
    · show fv Ieee.single (fadd Ieee.single (sumK l k) (l.getD k 0)) = _
      rw [v2, v1]
      rfl
theorem sum_ok {N : Nat} {l : List Nat} (h : GrL N l) (hN : N ≤ 10000) (hl : l.length ≤ 256) : SumOk l := fun k hk => (sum_gr h hN hl k hk).1.num
end Go.Proofs.Ytihknapgdkladaa
