/- The bytes' helpers: basins from bytes; numbers chosen; gaps. -/
import Derived.Test.YtihknapgdkladaaS4
set_option linter.unusedVariables false
set_option linter.unusedSectionVars false
set_option linter.unusedSimpArgs false
namespace Go.Proofs.Ytihknapgdkladaa
open Go.RowKit Fl
attribute [local go_sem] w_store

/-- BYTES THAT CAME IN, of a world. -/
def BIn (w : World) (A : Option Addr) (len : Nat) : Prop :=
  0 < len → ∃ b off : Nat, A = some ⟨b, off, none⟩ ∧ b < w.heap.size ∧ ∀ i, i < len → ∃ c : Nat, c ≤ 255 ∧ w.cell? ⟨b, off + i, none⟩ = some (.int .u8 c)
theorem BIn.below {w w' : World} {A : Option Addr} {len : Nat} (h : BIn w A len) (hb : Below w.heap.size w w') : BIn w' A len := by
  intro hl
  obtain ⟨b, off, h1, h2, h4⟩ := h hl
  refine ⟨b, off, h1, Nat.lt_of_lt_of_le h2 hb.size, fun i hi => ?_⟩
  obtain ⟨c, c1, c2⟩ := h4 i hi
  exact ⟨c, c1, (hb.cell (p := ⟨b, off + i, none⟩) h2).trans c2⟩
theorem BIn.row {w w' : World} {A : Option Addr} {len g : Nat} (h : BIn w A len) (hb : Below w.heap.size w w') (hg : w.heap.size ≤ g) : BRow w' g A len := by
  intro hl
  obtain ⟨b, off, h1, h2, h4⟩ := h hl
  refine ⟨b, off, h1, Nat.lt_of_lt_of_le h2 hb.size, by omega, fun i hi => ?_⟩
  obtain ⟨c, c1, c2⟩ := h4 i hi
  exact ⟨c, c1, (hb.cell (p := ⟨b, off + i, none⟩) h2).trans c2⟩

/-- A BASIN FROM BYTES. -/
def FromB (j : Int) (w : World) (W H : Nat) (e : Ending) (w' : World) : Prop :=
  ∃ l gg cap, l.length = W * H ∧ (∀ v, v ∈ l → Gr Ieee.single j 8 v) ∧ e = .returned (.agg #[.int .i64 W, .int .i64 H, .slice (some ⟨gg, 0, none⟩) (W * H) cap]) ∧ FRow w' gg 0 l ∧ w.heap.size ≤ gg ∧ Below w.heap.size w w'

set_option maxHeartbeats 1000000 in
theorem c_R8Basin (A : Option Addr) (len cap : Nat) (w : World) (hb : BIn w A len) (hl : len ≤ 1000) :
    Calls Try.prog 6 #[.slice A len cap] w fun e w' => ∃ W H, Siz W H ∧ W ≤ 6 ∧ H ≤ 6 ∧ FromB (-2) w W H e w' := by
  have HB := hid hb
  clear hb
  have HF := hid (fun wx => c_from A len cap wx)
  go_enter Try.func6, Try.ntmps6
  go_wp2_with fail
  refine (HF.out _).mono ?_
  rintro e w1 ⟨g, rfl, hs, hg, hb1⟩
  obtain ⟨q0, qs, hbel⟩ := blocks1 hb1
  have HQ0 := hid q0
  have HS := hid hs
  have HR := hid (HB.out.row hbel (Nat.le_trans (by simp) hg))
  have HBe := hid hbel
  have hg' : w.heap.size < g := by simp at hg; omega
  clear hb1 q0 hs hg hbel
  go_wp2_with fail
  refine (c_drawOk g len cap A w1 HS.out HR.out hl).mono ?_
  rintro e w2 ⟨W, H, s1, s2, s3, l, gg, cp, hll, hgr, rfl, hrow, hgg, hgb⟩
  have hbel2 := below_only HBe.out hgb HBe.out.size (by omega)
  have q2 : Blk w2 w.heap.size 26 #[.int .i64 0, .int .i64 0, .slice none 0 0] := HQ0.out.grown hgb (fun e => by injection e; omega)
  have e0 : w2.cell? ⟨w.heap.size, 0, none⟩ = some (.int .i64 0) := q2.cell 0
  have e1 : w2.cell? ⟨w.heap.size, 1, none⟩ = some (.int .i64 0) := q2.cell 1
  have e2 : w2.cell? ⟨w.heap.size, 2, none⟩ = some (.slice none 0 0) := q2.cell 2
  have g0 := q2.frozen 0
  have g1 := q2.frozen 1
  have g2 := q2.frozen 2
  have hne : gg ≠ w.heap.size := by omega
  have HRow := hid hrow
  have HB2 := hid hbel2
  clear hrow hbel2 q2 hgb
  have HSz := hid s1
  clear s1
  go_wp2_with fail
  refine bodyPost_ret (v := .agg #[.int .i64 W, .int .i64 H, .slice (some ⟨gg, 0, none⟩) (W * H) cp]) (by simp [results, Try.results6, go_sem, e0, e1, e2]) rfl ?_
  refine ⟨W, H, HSz.out, s2, s3, l, gg, cp, hll, hgr, rfl, ((HRow.out.setCell hne _).setCell hne _).setCell hne _, by omega, ?_⟩
  exact ((HB2.out.setCell (Nat.le_refl _) _).setCell (Nat.le_refl _) _).setCell (Nat.le_refl _) _

set_option maxHeartbeats 1000000 in
theorem c_R8Like (A sb : Option Addr) (len cap W H n c : Nat) (w : World) (hb : BIn w A len) (hl : len ≤ 1000) (hn : n = W * H) (hsz : Siz W H) :
    Calls Try.prog 7 #[.slice A len cap, .agg #[.int .i64 W, .int .i64 H, .slice sb n c]] w (FromB (-3) w W H) := by
  have HB := hid hb
  have HZ := hid hsz
  clear hb hsz
  have HF := hid (fun wx => c_from A len cap wx)
  go_enter Try.func7, Try.ntmps7
  go_wp2_with fail
  refine (HF.out _).mono ?_
  rintro e w1 ⟨g, rfl, hs, hg, hb1⟩
  obtain ⟨q0, q1, qs, hbel⟩ := blocks2 hb1
  have HQ0 := hid q0
  have HQ1 := hid q1
  have HS := hid hs
  have HR := hid (HB.out.row hbel (Nat.le_trans (by simp; omega) hg))
  have HBe := hid hbel
  have hg' : w.heap.size + 1 < g := by simp at hg; omega
  clear hb1 q0 q1 hs hg hbel
  go_wp2_with fail
  refine (c_drawLike g len cap W H w.heap.size _ A sb c w1 HS.out HR.out hl HQ0.out rfl HZ.out).mono ?_
  rintro e w2 ⟨l, gg, cp, hll, hgr, rfl, hrow, hgg, hgb⟩
  have hbel2 := below_only HBe.out hgb HBe.out.size (by omega)
  have q2 : Blk w2 (w.heap.size + 1) 26 #[.int .i64 0, .int .i64 0, .slice none 0 0] := HQ1.out.grown hgb (fun e => by injection e; omega)
  have e0 : w2.cell? ⟨w.heap.size + 1, 0, none⟩ = some (.int .i64 0) := q2.cell 0
  have e1 : w2.cell? ⟨w.heap.size + 1, 1, none⟩ = some (.int .i64 0) := q2.cell 1
  have e2 : w2.cell? ⟨w.heap.size + 1, 2, none⟩ = some (.slice none 0 0) := q2.cell 2
  have g0 := q2.frozen 0
  have g1 := q2.frozen 1
  have g2 := q2.frozen 2
  have hne : gg ≠ w.heap.size + 1 := by omega
  have HRow := hid hrow
  have HB2 := hid hbel2
  clear hrow hbel2 q2 hgb
  go_wp2_with fail
  refine bodyPost_ret (v := .agg #[.int .i64 W, .int .i64 H, .slice (some ⟨gg, 0, none⟩) (W * H) cp]) (by simp [results, Try.results7, go_sem, e0, e1, e2]) rfl ?_
  refine ⟨l, gg, cp, hll, hgr, rfl, ((HRow.out.setCell hne _).setCell hne _).setCell hne _, by omega, ?_⟩
  exact ((HB2.out.setCell (Nat.le_succ _) _).setCell (Nat.le_succ _) _).setCell (Nat.le_succ _) _

theorem c_r8Long (A A' : Option Addr) (len cap len' cap' : Nat) (h : len ≤ 9223372036854775807) (h' : len' ≤ 9223372036854775807) (w : World) :
    Calls Try.prog 5 #[.slice A len cap, .slice A' len' cap'] w fun e w' => e = .returned (.bool (decide (48 < len) || decide (48 < len'))) ∧ w = w' := by
  go_enter Try.func5, Try.ntmps5
  by_cases h1 : 48 < len
  · go_wp2_with fail
    go_ret
    refine ⟨?_, rfl⟩
    simp [h1]
    try omega
  · go_wp2_with fail
    go_ret
    refine ⟨?_, rfl⟩
    by_cases h2 : 48 < len'
    · simp [h1, h2]
      try omega
    · simp [h1, h2]
      try omega

theorem c_r8At (A : Option Addr) (len cap k n : Nat) (w : World) (hb : BIn w A len) (hl : len ≤ 1000) (hk : k ≤ 1000) (hn : 1 ≤ n) (hn2 : n ≤ 1000) :
    Calls Try.prog 11 #[.slice A len cap, .int .i64 k, .int .i64 n] w fun e w' => ∃ r : Nat, r < n ∧ e = .returned (.int .i64 r) ∧ Below w.heap.size w w' := by
  by_cases h1 : n ≤ 1
  · go_enter Try.func11, Try.ntmps11
    go_wp2_with fail
    go_ret
    exact ⟨0, by omega, rfl, Below.refl _ _⟩
  · by_cases h2 : len ≤ k
    · go_enter Try.func11, Try.ntmps11
      go_wp2_with fail
      go_ret
      exact ⟨0, by omega, rfl, Below.refl _ _⟩
    · obtain ⟨b, off, rfl, hbl, hc⟩ := hb (by omega)
      obtain ⟨c, hc1, hc2⟩ := hc k (by omega)
      clear hc hb
      go_enter Try.func11, Try.ntmps11
      go_wp2_with fail
      go_ret
      refine ⟨c % n, Nat.mod_lt _ (by omega), ?_, Below.refl _ _⟩
      congr 2

/-- THE GREATER OF TWO. -/
def fmaxD (x y : Nat) : Nat := match Ieee.double.order x y with
  | none => 0
  | some .lt => y
  | some .gt => x
  | some .eq => if (FloatKind.f64.decode x).neg then y else x
theorem w_max {P : Program} (w : World) (ts : Array TypeId) (t : TypeId) (x y : Nat) (hx : Num Ieee.double x) (hy : Num Ieee.double y) : (Builtin.max_ ts t #[.float .f64 x, .float .f64 y]).run P w = .ok (.float .f64 (fmaxD x y)) w := by
  have h := order_num hx hy
  have h' : FloatKind.f64.format.order x y = some (if fv Ieee.double x < fv Ieee.double y then .lt else if fv Ieee.double x = fv Ieee.double y then .eq else .gt) := h
  unfold fmaxD
  rw [h]
  by_cases h1 : fv Ieee.double x < fv Ieee.double y
  · rw [if_pos h1] at h' ⊢
    simp [Builtin.max_, Builtin.max2, h']
  · by_cases h2 : fv Ieee.double x = fv Ieee.double y
    · rw [if_neg h1, if_pos h2] at h' ⊢
      simp [Builtin.max_, Builtin.max2, h']
    · rw [if_neg h1, if_neg h2] at h' ⊢
      simp [Builtin.max_, Builtin.max2, h']
theorem fmaxD_num {x y : Nat} (hx : Num Ieee.double x) (hy : Num Ieee.double y) : Num Ieee.double (fmaxD x y) ∧ (fv Ieee.double (fmaxD x y) = fv Ieee.double x ∨ fv Ieee.double (fmaxD x y) = fv Ieee.double y) ∧ fv Ieee.double x ≤ fv Ieee.double (fmaxD x y) ∧ fv Ieee.double y ≤ fv Ieee.double (fmaxD x y) := by
  have h := order_num hx hy
  unfold fmaxD
  rw [h]
  by_cases h1 : fv Ieee.double x < fv Ieee.double y
  · rw [if_pos h1]
    exact ⟨hy, .inr rfl, by grind, by grind⟩
  · by_cases h2 : fv Ieee.double x = fv Ieee.double y
    · rw [if_neg h1, if_pos h2]
      by_cases h3 : (FloatKind.f64.decode x).neg = true
      · rw [if_pos h3]
        exact ⟨hy, .inr rfl, by grind, by grind⟩
      · rw [if_neg h3]
        exact ⟨hx, .inl rfl, by grind, by grind⟩
    · rw [if_neg h1, if_neg h2]
      exact ⟨hx, .inl rfl, by grind, by grind⟩
def gapD (x y : Nat) : Nat := fmaxD (fsub Ieee.double x y) (fsub Ieee.double y x)
attribute [local go_sem] w_subD w_max in
theorem c_r8Gap (x y : Nat) (hx : Num Ieee.double x) (hy : Num Ieee.double y) (h1 : Num Ieee.double (fsub Ieee.double x y)) (h2 : Num Ieee.double (fsub Ieee.double y x)) (w : World) :
    Calls Try.prog 14 #[.float .f64 x, .float .f64 y] w fun e w' => e = .returned (.float .f64 (gapD x y)) ∧ w = w' := by
  go_enter Try.func14, Try.ntmps14
  go_wp2_with fail
  go_ret
  exact ⟨rfl, rfl⟩
end Go.Proofs.Ytihknapgdkladaa
