/- Turned: sheets that are told; lengths; the next point. -/
import Derived.Test.YtdjhgnpllnmdmaaT7
set_option linter.unusedVariables false
set_option linter.unusedSectionVars false
set_option linter.unusedSimpArgs false
namespace Go.Proofs.Ytdjhgnpllnmdmaa
open Go.RowKit
attribute [local go_sem] r_addD r_subD r_mulD r_divD r_addS r_subS r_mulS r_divS r_wide r_narrow w_store r_neg
attribute [local go_sem ↓] Go.wp_at_zero Go.wp_at_succ

set_option maxHeartbeats 1000000 in
theorem c_toldSheet (pb sb n c c' : Nat) (cl : Bool) (pl : List (Nat × Nat)) (sl : List Nat) (w : World) (h : Sh w pb sb n pl sl) :
    Calls Try.prog 39 #[.agg #[.slice (some ⟨pb, 0, none⟩) n c, .slice (some ⟨sb, 0, none⟩) n c', .bool cl]] w fun e w' =>
      e = .returned (.tuple #[.agg #[.slice (some ⟨pb, 0, none⟩) n c, .slice (some ⟨sb, 0, none⟩) n c', .bool cl], .bool true]) ∧ Below w.heap.size w w' := by
  have HV := hid (fun (wx : World) (hb : Below w.heap.size w wx) => c_ValidSheet pb sb n c c' cl pl sl wx (h.below hb))
  clear h
  go_enter Try.func39, Try.ntmps39
  go_wp2_with fail
  refine (HV.out _ (((Below.refl _ w).alloc (Nat.le_refl _) _).alloc (by simp) _)).mono ?_
  rintro e w1 ⟨rfl, hb1⟩
  obtain ⟨q0, q1, qs, hbel⟩ := blocks2 hb1
  have d0 : w1.cell? ⟨w.heap.size, 0, none⟩ = some (.slice (some ⟨pb, 0, none⟩) n c) := q0.cell 0
  have d1 : w1.cell? ⟨w.heap.size, 1, none⟩ = some (.slice (some ⟨sb, 0, none⟩) n c') := q0.cell 1
  have d2 : w1.cell? ⟨w.heap.size, 2, none⟩ = some (.bool cl) := q0.cell 2
  have e0 : w1.cell? ⟨w.heap.size + 1, 0, none⟩ = some (.slice none 0 0) := q1.cell 0
  have e1 : w1.cell? ⟨w.heap.size + 1, 1, none⟩ = some (.slice none 0 0) := q1.cell 1
  have e2 : w1.cell? ⟨w.heap.size + 1, 2, none⟩ = some (.bool false) := q1.cell 2
  have g0 := q1.frozen 0
  have g1 := q1.frozen 1
  have g2 := q1.frozen 2
  have HB := hid hbel
  clear hb1 q0 q1 hbel
  go_wp2_with fail
  refine bodyPost_ret (v := .tuple #[.agg #[.slice (some ⟨pb, 0, none⟩) n c, .slice (some ⟨sb, 0, none⟩) n c', .bool cl], .bool true]) (by simp [results, Try.results39, go_sem, e0, e1, e2]) rfl ⟨rfl, ?_⟩
  exact ((HB.out.setCell (by simp) _).setCell (by simp) _).setCell (by simp) _

theorem c_lengthOk1 (x : Nat) (o : Ordering) (h : Q.ordS x 0 = some o) (hg : o = .gt) (w : World) : Calls Try.prog 38 #[.float .f32 x] w fun e w' => e = .returned (.bool false) ∧ w' = w := by
  subst hg
  have k1 : FloatKind.f32.format.order x 0 = some .gt := Q.ordS_eq h
  go_enter Try.func38, Try.ntmps38
  go_wp2_with fail
  go_ret
  exact ⟨rfl, rfl⟩
set_option maxHeartbeats 1000000 in
theorem c_next (g pb n c i : Nat) (pl : List (Nat × Nat)) (w : World) (d0 : w.cell? ⟨g, 0, none⟩ = some (.slice (some ⟨pb, 0, none⟩) n c)) (hr : CRow w pb 0 pl) (hn : n = pl.length) (hm : n ≤ 48) (hi : i < n) :
    Calls Try.prog 24 #[.pointer (some ⟨g, 0, none⟩), .int .i64 i] w fun e w' => e = .returned (.complex .f32 (pl.getD ((i + 1) % n) (0, 0)).1 (pl.getD ((i + 1) % n) (0, 0)).2) ∧ ∃ m, w' = w.drewN m := by
  have hlt : (i + 1) % n < n := Nat.mod_lt _ (by omega)
  have hc := hr.2 ((i + 1) % n) (by omega)
  rw [Nat.zero_add] at hc
  have hcast : (((i + 1) % n : Nat) : Int) = ((i : Int) + 1) % (n : Int) := by rw [Int.natCast_emod]; rfl
  have h0 : 0 ≤ ((i : Int) + 1) % (n : Int) := by omega
  have h1 : ((i : Int) + 1) % (n : Int) < (n : Int) := by omega
  have hj : (((i : Int) + 1) % (n : Int)).toNat = (i + 1) % n := by omega
  have hne : ((n : Int) == 0) = false := by simp; omega
  generalize pl.getD ((i + 1) % n) (0, 0) = v at *
  have hi2 : (i : Int) + 1 ≤ 48 := by omega
  clear hr hcast hn
  go_enter Try.func24, Try.ntmps24
  go_wp2_with fail
  go_quiet (fail)
  go_wp2_with fail
  go_ret
  exact ⟨rfl, _, rfl⟩
end Go.Proofs.Ytdjhgnpllnmdmaa
