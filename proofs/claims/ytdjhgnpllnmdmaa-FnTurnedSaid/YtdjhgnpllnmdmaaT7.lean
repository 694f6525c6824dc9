/- Turned: sheets that are valid; lengths. -/
import Derived.Test.YtdjhgnpllnmdmaaT6
set_option linter.unusedVariables false
set_option linter.unusedSectionVars false
set_option linter.unusedSimpArgs false
namespace Go.Proofs.Ytdjhgnpllnmdmaa
open Go.RowKit
attribute [local go_sem] r_addD r_subD r_mulD r_divD r_addS r_subS r_mulS r_divS r_wide r_narrow w_store r_neg
attribute [local go_sem ↓] Go.wp_at_zero Go.wp_at_succ

theorem c_in_yes (n l h : Int) (w : World) (h1 : l ≤ n) (h2 : n ≤ h) : Calls Try.prog 14 #[.int .i64 n, .int .i64 l, .int .i64 h] w fun e w' => e = .returned (.bool true) ∧ w' = w := by
  go_enter Try.func14, Try.ntmps14
  go_wp2_with fail
  go_ret
  exact ⟨rfl, rfl⟩

theorem below_new (w : World) (o : Obj) : Below w.heap.size w (w.alloc o) := (Below.refl _ _).alloc (Nat.le_refl _) o
/-- A SHEET IN MEMORY: its points, its spins. -/
structure Sh (w : World) (pb sb n : Nat) (pl : List (Nat × Nat)) (sl : List Nat) : Prop where
  pts : CRow w pb 0 pl
  sps : FRow w sb 0 sl
  np : n = pl.length
  ns : n = sl.length
  lo : 2 ≤ n
  hi : n ≤ 48
  fp : FinC pl
  fs : FinL sl
theorem Sh.below {w w' : World} {pb sb n : Nat} {pl : List (Nat × Nat)} {sl : List Nat} (h : Sh w pb sb n pl sl) (hb : Below w.heap.size w w') : Sh w' pb sb n pl sl :=
  ⟨h.pts.below hb h.pts.1, h.sps.below hb h.sps.1, h.np, h.ns, h.lo, h.hi, h.fp, h.fs⟩

set_option maxHeartbeats 1000000 in
theorem c_ValidSheet (pb sb n c c' : Nat) (cl : Bool) (pl : List (Nat × Nat)) (sl : List Nat) (w : World) (h : Sh w pb sb n pl sl) :
    Calls Try.prog 20 #[.agg #[.slice (some ⟨pb, 0, none⟩) n c, .slice (some ⟨sb, 0, none⟩) n c', .bool cl]] w fun e w' => e = .returned (.bool true) ∧ Below w.heap.size w w' := by
  have h2 := h.lo
  have h48 := h.hi
  have HI := hid (fun wx => c_in_yes (n : Int) 2 48 wx (by omega) (by omega))
  have HP := hid (fun (wx : World) (hb : Below w.heap.size w wx) => c_finiteAll pb 0 n c pl wx (h.below hb).pts h.np (by omega) h.fp)
  have HF := hid (fun (wx : World) (hb : Below w.heap.size w wx) => c_finite sb 0 n c' sl wx (h.below hb).sps h.ns (by omega) h.fs)
  clear h h2 h48
  have hb0 := Blk.new w 29 #[.slice (some ⟨pb, 0, none⟩) n c, .slice (some ⟨sb, 0, none⟩) n c', .bool cl]
  have HB0 := hid (below_new w (.cells #[.slice (some ⟨pb, 0, none⟩) n c, .slice (some ⟨sb, 0, none⟩) n c', .bool cl] 29))
  have HK := hid hb0
  clear hb0
  go_enter Try.func20, Try.ntmps20
  go_wp2_with fail
  refine (HI.out _).mono ?_
  rintro e w' ⟨rfl, rfl⟩
  go_wp2_with fail
  refine (HP.out _ HB0.out).mono ?_
  rintro e w1 ⟨rfl, hb⟩
  have hk := HK.out.below' hb
  have d1 : w1.cell? ⟨w.heap.size, 1, none⟩ = some (.slice (some ⟨sb, 0, none⟩) n c') := hk.cell 1
  have HB1 := hid (HB0.out.trans (hb.mono HB0.out.size))
  clear hb hk
  go_wp2_with fail
  refine (HF.out _ HB1.out).mono ?_
  rintro e w' ⟨rfl, rfl⟩
  go_wp2_with fail
  go_ret
  exact ⟨rfl, HB1.out⟩
end Go.Proofs.Ytdjhgnpllnmdmaa
