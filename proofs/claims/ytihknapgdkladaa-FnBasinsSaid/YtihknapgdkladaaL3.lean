/- Basins, plain: sums, rolls, mirrors, squares, what is put, what is scaled. -/
import Derived.Test.YtihknapgdkladaaL2
set_option linter.unusedVariables false
set_option linter.unusedSectionVars false
set_option linter.unusedSimpArgs false
namespace Go.Proofs.Ytihknapgdkladaa
open Fl Go

def sumL (W H : Nat) (l l' : List Nat) : List Nat := cl W (fun x y => fadd Ieee.single (bat W H l x y) (bat W H l' x y)) (W * H)
def rollL (W H : Nat) (l : List Nat) (u v : Int) : List Nat := cl W (fun x y => bat W H l ((x : Int) - u) ((y : Int) - v)) (W * H)
def mirL (W H : Nat) (l : List Nat) : List Nat := cl W (fun x y => Op.negFloat .f32 (bat W H l ((W : Int) - 1 - x) y)) (W * H)
def evenL (W H : Nat) (l : List Nat) (m : Nat) : List Nat := cl W (fun x y => fsub Ieee.single (bat W H l x y) m) (W * H)
def scaleL (W H : Nat) (l : List Nat) (m : Nat) : List Nat := cl W (fun x y => fmul Ieee.single (bat W H l x y) m) (W * H)

section
variable {N M W H : Nat} {l l' : List Nat} (h : GrL N l) (h' : GrL M l') (hs : Siz W H) (hl : l.length = W * H) (hl' : l'.length = W * H)
include h hs hl

include h' hl' in
theorem sumL_at (hN : N + M ≤ 10000) (x y : Int) : Gr Ieee.single (-3) (N + M) (fadd Ieee.single (bat W H l x y) (bat W H l' x y)) ∧ fv Ieee.single (fadd Ieee.single (bat W H l x y) (bat W H l' x y)) = vb W H l x y + vb W H l' x y := by
  have hfr : (2 : Nat) ^ (Ieee.single.fractionBits + 1) = 16777216 := by decide
  obtain ⟨_, s1, v1⟩ := Gr.add okS (h.bat hs hl x y) (h'.bat hs hl' x y) (by omega) (by decide) (by decide)
  exact ⟨s1, v1⟩
include h' hl' in
theorem sumL_gr (hN : N + M ≤ 10000) : GrL (N + M) (sumL W H l l') := GrL.cl hs (fun x y _ _ => (sumL_at h h' hs hl hl' hN x y).1)
include h' hl' in
theorem sumL_vb (hN : N + M ≤ 10000) (x y : Int) : vb W H (sumL W H l l') x y = vb W H l x y + vb W H l' x y := by
  have h3 := hs.a
  have h4 := hs.c
  unfold vb sumL
  rw [bat_cl _ x y hs, (sumL_at h h' hs hl hl' hN _ _).2]
  unfold vb
  rw [bat_congr l (x' := x) (y' := y) ?_ ?_, bat_congr l' (x' := x) (y' := y) ?_ ?_] <;>
  · rw [Int.toNat_of_nonneg (Int.emod_nonneg _ (by omega)), Int.emod_emod]
/-- z = x + y, exactly -/
theorem lap_getD (hN : N ≤ 10000) (i : Nat) (hi : i < W * H) : (lapl W H l).getD i 0 = laplaceB W H l ((i % W : Nat) : Int) ((i / W : Nat) : Int) ∧ Gr Ieee.single (-3) (8 * N) ((lapl W H l).getD i 0) := by
  have e : (lapl W H l).getD i 0 = laplaceB W H l ((i % W : Nat) : Int) ((i / W : Nat) : Int) := by unfold lapl; rw [cl_getD _ _ _ _ hi]
  rw [e]
  exact ⟨rfl, (laplace_gr h (by omega) hs hl _ _).2.1⟩
include h' hl' in
theorem lap_sum (hN : N + M ≤ 10000) (i : Nat) (hi : i < W * H) : fv Ieee.single ((lapl W H (sumL W H l l')).getD i 0) = fv Ieee.single ((lapl W H l).getD i 0) + fv Ieee.single ((lapl W H l').getD i 0) := by
  have hg := sumL_gr h h' hs hl hl' hN
  have hgl : (sumL W H l l').length = W * H := cl_length _ _ _
  rw [(lap_getD hg hs hgl (by omega) i hi).1, (lap_getD h hs hl (by omega) i hi).1, (lap_getD h' hs hl' (by omega) i hi).1]
  rw [(laplace_gr hg (by omega) hs hgl _ _).2.2, (laplace_gr h (by omega) hs hl _ _).2.2, (laplace_gr h' (by omega) hs hl' _ _).2.2]
  simp only [sumL_vb h h' hs hl hl' hN]
  grind
theorem rollL_gr (u v : Int) : GrL N (rollL W H l u v) := GrL.cl hs (fun x y _ _ => h.bat hs hl _ _)
theorem mirL_gr : GrL N (mirL W H l) := GrL.cl hs (fun x y _ _ => (Gr.neg .f32 (h.bat hs hl _ _)).1)
end

section
variable {N W H : Nat} (l : List Nat) (hs : Siz W H)
include hs
theorem emod_toNat (x : Int) (W : Nat) (hW : 3 ≤ W) : ((x % W).toNat : Int) = x % W := Int.toNat_of_nonneg (Int.emod_nonneg _ (by omega))
theorem rollL_bat (u v x y : Int) : bat W H (rollL W H l u v) x y = bat W H l (x - u) (y - v) := by
  have h3 := hs.a
  have h4 := hs.c
  unfold rollL
  rw [bat_cl _ x y hs]
  apply bat_congr
  · rw [emod_toNat hs x W h3, Int.sub_emod, Int.emod_emod, ← Int.sub_emod]
  · rw [emod_toNat hs y H h4, Int.sub_emod, Int.emod_emod, ← Int.sub_emod]
theorem lap_bat (x y : Int) : bat W H (lapl W H l) x y = laplaceB W H l x y := by
  have h3 := hs.a
  have h4 := hs.c
  unfold lapl
  rw [bat_cl _ x y hs]
  unfold laplaceB aroundB
  rw [emod_toNat hs x W h3, emod_toNat hs y H h4]
  have a1 : (x % W - 1) % W = (x - 1) % W := by rw [Int.sub_emod, Int.emod_emod, ← Int.sub_emod]
  have a2 : (x % W + 1) % W = (x + 1) % W := by rw [Int.add_emod, Int.emod_emod, ← Int.add_emod]
  have b1 : (y % H - 1) % H = (y - 1) % H := by rw [Int.sub_emod, Int.emod_emod, ← Int.sub_emod]
  have b2 : (y % H + 1) % H = (y + 1) % H := by rw [Int.add_emod, Int.emod_emod, ← Int.add_emod]
  have a0 : (x % W) % W = x % W := Int.emod_emod _ _
  have b0 : (y % H) % H = y % H := Int.emod_emod _ _
  rw [bat_congr l a1 b0, bat_congr l a2 b0, bat_congr l a0 b1, bat_congr l a0 b2, bat_congr l a0 b0]
/-- what is moved, to the last bit -/
theorem moved (u v : Int) (i : Nat) (hi : i < W * H) : (lapl W H (rollL W H l u v)).getD i 0 = (rollL W H (lapl W H l) u v).getD i 0 := by
  rw [getD_bat _ i hs hi, getD_bat _ i hs hi, rollL_bat _ hs, lap_bat _ hs, lap_bat _ hs]
  unfold laplaceB aroundB
  simp only [rollL_bat _ hs]
  rw [show ((i % W : Nat) : Int) - 1 - u = ((i % W : Nat) : Int) - u - 1 by omega, show ((i % W : Nat) : Int) + 1 - u = ((i % W : Nat) : Int) - u + 1 by omega,
    show ((i / W : Nat) : Int) - 1 - v = ((i / W : Nat) : Int) - v - 1 by omega, show ((i / W : Nat) : Int) + 1 - v = ((i / W : Nat) : Int) - v + 1 by omega]
theorem back (hl : l.length = W * H) (u v : Int) : rollL W H (rollL W H l u v) (-u) (-v) = l := by
  apply list_ext_getD
  · rw [hl]; exact cl_length _ _ _
  · intro i hi
    rw [show (rollL W H (rollL W H l u v) (-u) (-v)).length = W * H from cl_length _ _ _] at hi
    rw [getD_bat _ i hs hi, getD_bat l i hs hi, rollL_bat _ hs, rollL_bat _ hs]
    congr 1 <;> omega
theorem mirL_bat (x y : Int) : bat W H (mirL W H l) x y = Op.negFloat .f32 (bat W H l ((W : Int) - 1 - x) y) := by
  have h3 := hs.a
  have h4 := hs.c
  unfold mirL
  rw [bat_cl _ x y hs, emod_toNat hs x W h3, emod_toNat hs y H h4]
  congr 1
  apply bat_congr
  · rw [Int.sub_emod, Int.emod_emod, ← Int.sub_emod]
  · rw [Int.emod_emod]
theorem twice (hl : l.length = W * H) : mirL W H (mirL W H l) = l := by
  apply list_ext_getD
  · rw [hl]; exact cl_length _ _ _
  · intro i hi
    rw [show (mirL W H (mirL W H l)).length = W * H from cl_length _ _ _] at hi
    rw [getD_bat _ i hs hi, getD_bat l i hs hi, mirL_bat _ hs, mirL_bat _ hs, neg_neg]
    congr 1; omega
end

/-- squares -/
theorem dot_gr {N : Nat} {l : List Nat} (h : GrL N l) (hN : N ≤ 200) (hl : l.length ≤ 256) : ∀ k, k ≤ l.length → Gr Ieee.single (-6) (k * (N * N)) (dotK l l k) ∧ 0 ≤ fv Ieee.single (dotK l l k) := by
  have hfr : (2 : Nat) ^ (Ieee.single.fractionBits + 1) = 16777216 := by decide
  have hNN : N * N ≤ 200 * 200 := Nat.mul_le_mul hN hN
  intro k
  induction k with
  | zero =>
    intro _
    rw [Nat.zero_mul]
    have g0 := num0
    have e : fv Ieee.single (dotK l l 0) = 0 := num0.2
    exact ⟨⟨g0.1.num, g0.1.lt, 0, by rw [e]; simp, by simp⟩, by rw [e]; grind⟩
  | succ k ih =>
    intro hk
    obtain ⟨g1, v1⟩ := ih (by omega)
    have hb : k * (N * N) ≤ 256 * 40000 := Nat.mul_le_mul (by omega) hNN
    obtain ⟨_, s1, v2⟩ := Gr.mul okS (h k (by omega)) (h k (by omega)) (by omega) (by decide) (by decide)
    obtain ⟨_, s2, v3⟩ := Gr.add okS g1 s1 (by omega) (by decide) (by decide)
    refine ⟨?_, ?_⟩
    · rw [Nat.succ_mul]; exact s2
    · show 0 ≤ fv Ieee.single (fadd Ieee.single (dotK l l k) (fmul Ieee.single (l.getD k 0) (l.getD k 0)))
      rw [v3, v2]
      have : 0 ≤ fv Ieee.single (l.getD k 0) * fv Ieee.single (l.getD k 0) := by
        rcases (Rat.le_total : 0 ≤ fv Ieee.single (l.getD k 0) ∨ fv Ieee.single (l.getD k 0) ≤ 0) with h | h
        · exact Rat.mul_nonneg h h
        · have := Rat.mul_nonneg (show 0 ≤ -fv Ieee.single (l.getD k 0) by grind) (show 0 ≤ -fv Ieee.single (l.getD k 0) by grind)
          grind
      grind
theorem dot_ok {N : Nat} {l : List Nat} (h : GrL N l) (hN : N ≤ 200) (hl : l.length ≤ 256) : DotOk l l := fun k hk => ⟨(dot_gr h hN hl k hk).1.num, fun hk' => by
  have hfr : (2 : Nat) ^ (Ieee.single.fractionBits + 1) = 16777216 := by decide
  have hNN : N * N ≤ 200 * 200 := Nat.mul_le_mul hN hN
  exact (Gr.mul okS (h k hk') (h k hk') (by omega) (by decide) (by decide)).2.1.num⟩

/-- what is put is there -/
theorem put_bat {W H : Nat} (l : List Nat) (hs : Siz W H) (hl : l.length = W * H) (x y : Int) (v : Nat) : bat W H (l.set (plc W H x y) v) x y = v := by
  obtain ⟨_, p⟩ := plc_cast W H x y hs.a hs.c
  unfold bat
  rw [List.getD_eq_getElem?_getD, List.getElem?_set_self (by omega)]
  rfl
theorem num7 : Num Ieee.single 1088421888 := ⟨false, 14680064, -21, by decide⟩

/-- what is scaled -/
theorem scale_at {N W H : Nat} {l : List Nat} (h : GrL N l) (hs : Siz W H) (hl : l.length = W * H) (hN : N ≤ 10000) (x y : Int) :
    Num Ieee.single (fmul Ieee.single (bat W H l x y) 1073741824) ∧ Num Ieee.single (fmul Ieee.single 1073741824 (bat W H l x y)) ∧ fv Ieee.single (fmul Ieee.single (bat W H l x y) 1073741824) = fv Ieee.single (fmul Ieee.single 1073741824 (bat W H l x y)) := by
  have hfr : (2 : Nat) ^ (Ieee.single.fractionBits + 1) = 16777216 := by decide
  obtain ⟨_, s1, v1⟩ := Gr.mul okS (h.bat hs hl x y) two_.1 (by omega) (by decide) (by decide)
  obtain ⟨_, s2, v2⟩ := Gr.mul okS two_.1 (h.bat hs hl x y) (by omega) (by decide) (by decide)
  exact ⟨s1.num, s2.num, by rw [v1, v2]; grind⟩
theorem scaleL_num {N W H : Nat} {l : List Nat} (h : GrL N l) (hs : Siz W H) (hl : l.length = W * H) (hN : N ≤ 10000) : AllNum (scaleL W H l 1073741824) := by
  intro i hi
  rw [show (scaleL W H l 1073741824).length = W * H from cl_length _ _ _] at hi
  unfold scaleL
  rw [cl_getD _ _ _ _ hi]
  exact (scale_at h hs hl hN _ _).1
end Go.Proofs.Ytihknapgdkladaa
