/- The source of choices: picks; a source from bytes; a basin without spins. -/
import Derived.Test.YtihknapgdkladaaS1
import Derived.Test.YtihknapgdkladaaB3
set_option linter.unusedVariables false
set_option linter.unusedSectionVars false
set_option linter.unusedSimpArgs false
namespace Go.Proofs.Ytihknapgdkladaa
open Go.RowKit Fl
attribute [local go_sem] w_store

theorem BRow.kept {w w' : World} {g : Nat} {A : Option Addr} {len : Nat} (h : BRow w g A len) (hg : w.grownBy w' (some g)) : BRow w' g A len := by
  intro hl
  obtain ⟨b, off, h1, h2, h3, h4⟩ := h hl
  refine ⟨b, off, h1, Nat.lt_of_lt_of_le h2 hg.size, h3, fun i hi => ?_⟩
  obtain ⟨c, c1, c2⟩ := h4 i hi
  exact ⟨c, c1, (World.cell?_of_block (hg.block b h2 (by intro e; injection e; omega))).trans c2⟩
theorem BRow.kept' {w w' : World} {g : Nat} {A : Option Addr} {len : Nat} (h : BRow w g A len) (hg : Below w.heap.size w w') : BRow w' g A len :=
  h.kept (only_of_below hg _)
theorem Src.blk {w w' : World} {g : Nat} {A : Option Addr} {len cap at_ : Nat} (h : Src w g A len cap at_) (hg : w.grownBy w' none) : Src w' g A len cap at_ := by
  obtain ⟨s, h⟩ := h
  exact ⟨s, h.grown hg (by simp)⟩
theorem Src.lt {w : World} {g : Nat} {A : Option Addr} {len cap at_ : Nat} (h : Src w g A len cap at_) : g < w.heap.size := by
  obtain ⟨s, h⟩ := h
  exact h.lt
theorem Src.far {w : World} {g : Nat} {A : Option Addr} {len cap at_ : Nat} (h : Src w g A len cap at_) {p : Addr} (hp : g ≠ p.block) (u : Value) : Src (w.setCell p u) g A len cap at_ := by
  obtain ⟨s, h⟩ := h
  exact ⟨s, h.far hp u⟩

def Picked (n : Nat) (g : Nat) (A : Option Addr) (len cap at_ : Nat) (w : World) (e : Ending) (w' : World) : Prop :=
  ∃ k : Nat, k < n ∧ e = .returned (.int .i64 k) ∧ Src w' g A len cap (at_ + 1) ∧ w.grownBy w' (some g)

set_option maxHeartbeats 1000000 in
theorem c_pick (n g len cap at_ : Nat) (A : Option Addr) (w : World) (hs : Src w g A len cap at_) (hb : BRow w g A len) (hat : at_ ≤ 1000000) (hl : len ≤ 1000000) (hn : 1 < n) (hn2 : n ≤ 200) :
    Calls Try.prog 61 #[.pointer (some ⟨g, 0, none⟩), .int .i64 n] w (Picked n g A len cap at_ w) := by
  have HC := hid (c_next g len cap at_ A w hs hb hat hl)
  clear hs hb
  go_enter Try.func61, Try.ntmps61
  go_wp2_with fail
  refine (HC.out).mono ?_
  rintro e w' ⟨k, hk, rfl, hs', hg⟩
  have HS := hid hs'
  have HG := hid hg
  clear hs' hg
  go_wp2_with fail
  go_ret
  refine ⟨k % n, Nat.mod_lt _ (by omega), ?_, HS.out, HG.out⟩
  congr 2

theorem c_from (A : Option Addr) (len cap : Nat) (w : World) :
    Calls Try.prog 28 #[.slice A len cap] w fun e w' => ∃ g, e = .returned (.pointer (some ⟨g, 0, none⟩)) ∧ Src w' g A len cap 0 ∧ w.heap.size ≤ g ∧ Below w.heap.size w w' := by
  go_enter Try.func28, Try.ntmps28
  go_wp2_with fail
  go_ret
  refine ⟨w.heap.size, rfl, ⟨0, ?_⟩, Nat.le_refl _, (Below.refl _ _).alloc (Nat.le_refl _) _⟩
  exact Blk.new w _ _

theorem c_new (W H : Nat) (w : World) :
    Calls Try.prog 62 #[.int .i64 W, .int .i64 H] w fun e w' => ∃ gg, e = .returned (.agg #[.int .i64 W, .int .i64 H, .slice (some ⟨gg, 0, none⟩) 0 0]) ∧ w'.ownsRow w.heap.size 32 1 (.slice (some ⟨gg, 0, none⟩) 0 0) 0 (vl []) ∧ Below w.heap.size w w' := by
  go_enter Try.func62, Try.ntmps62
  go_wp2_with fail
  have c0 := (Blk.new w 26 #[.int .i64 W, .int .i64 H, .slice (some ⟨w.heap.size + 1, 0, none⟩) 0 0]).alloc (.cells #[] 32)
  have e0 := c0.cell 0
  have e1 := c0.cell 1
  have e2 := c0.cell 2
  have g0 := c0.frozen 0
  have g1 := c0.frozen 1
  have g2 := c0.frozen 2
  refine bodyPost_ret (v := .agg #[.int .i64 W, .int .i64 H, .slice (some ⟨w.heap.size + 1, 0, none⟩) 0 0]) (by simp [results, Try.results62, go_sem, e0, e1, e2]) rfl ?_
  refine ⟨_, rfl, ?_, ?_⟩
  · have h := World.ownsRow_lit (base := w.heap.size) (e := 32) (size := 1) (w.alloc (.cells #[.int .i64 W, .int .i64 H, .slice (some ⟨w.heap.size + 1, 0, none⟩) 0 0] 26)) #[] 0 (by simp) (by decide) rfl
    rw [World.size_alloc] at h
    exact h
  · exact ((Below.refl _ _).alloc (Nat.le_refl _) _).alloc (by simp) _
end Go.Proofs.Ytihknapgdkladaa
