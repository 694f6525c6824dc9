/- The source of choices. -/
import Derived.Test.YtihknapgdkladaaK
import Derived.Laws.Bits64
set_option linter.unusedVariables false
set_option linter.unusedSectionVars false
set_option linter.unusedSimpArgs false
namespace Go.Proofs.Ytihknapgdkladaa
open Go.RowKit Fl
attribute [local go_sem] w_store

/-- BYTES THAT CAME IN. -/
def BRow (w : World) (g : Nat) (A : Option Addr) (len : Nat) : Prop :=
  0 < len → ∃ b off : Nat, A = some ⟨b, off, none⟩ ∧ b < w.heap.size ∧ b ≠ g ∧ ∀ i, i < len → ∃ c : Nat, c ≤ 255 ∧ w.cell? ⟨b, off + i, none⟩ = some (.int .u8 c)
/-- THE SOURCE, in the block g. -/
def Src (w : World) (g : Nat) (A : Option Addr) (len cap at_ : Nat) : Prop :=
  ∃ seed : Int, Blk w g 80 #[.slice A len cap, .int .i64 at_, .int .u64 seed]

theorem and255 (x : Int) : ∃ k : Nat, k ≤ 255 ∧ wrap64 (bits BinOp.and IntKind.u64 x 255) = k := by
  refine ⟨(BitVec.ofInt 64 x &&& BitVec.ofInt 64 255).toNat, ?_, ?_⟩
  · rw [BitVec.toNat_and]
    exact Nat.le_trans Nat.and_le_right (by decide)
  · have h : (BitVec.ofInt 64 x &&& BitVec.ofInt 64 255).toNat ≤ 255 := by
      rw [BitVec.toNat_and]
      exact Nat.le_trans Nat.and_le_right (by decide)
    have h1 : bits BinOp.and IntKind.u64 x 255 = IntKind.u64.wrap ((BitVec.ofInt 64 x &&& BitVec.ofInt 64 255).toNat : Int) := rfl
    rw [h1]
    generalize (BitVec.ofInt 64 x &&& BitVec.ofInt 64 255).toNat = n at *
    have h2 : IntKind.u64.wrap (n : Int) = n := by simp [IntKind.wrap_u64]; omega
    rw [h2]
    unfold wrap64
    omega

theorem src_cells {w : World} {g : Nat} {A : Option Addr} {len cap at_ : Nat} {seed seed' : Int} (hB : Blk w g 80 #[.slice A len cap, .int .i64 at_, .int .u64 seed]) (n m : Nat) (v : Value) :
    Blk ((((w.drewN n).setCell ⟨g, 1, none⟩ v).setCell ⟨g, 2, none⟩ (.int .u64 seed')).drewN m) g 80 #[.slice A len cap, v, .int .u64 seed'] := by
  have h2 := ((((hB.drewN n).set_ 1 v).set_ 2 (.int .u64 seed')).drewN m)
  have e : (((#[Value.slice A len cap, .int .i64 at_, .int .u64 seed] : Array Value).setIfInBounds 1 v).setIfInBounds 2 (.int .u64 seed')) = #[.slice A len cap, v, .int .u64 seed'] := by simp
  rw [e] at h2
  exact h2
theorem src_only (w : World) (g : Nat) (v v' : Value) (n m : Nat) : w.grownBy ((((w.drewN n).setCell ⟨g, 1, none⟩ v).setCell ⟨g, 2, none⟩ v').drewN m) (some g) := by
  have h1 : w.grownBy (w.drewN n) (some g) := only_drewN (only_refl w _) n
  have h2 := only_setCell (p := ⟨g, 1, none⟩) h1 (.inl rfl) v
  have h3 := only_setCell (p := ⟨g, 2, none⟩) h2 (.inl rfl) v'
  exact only_drewN h3 m
theorem src_step {w w' : World} {g : Nat} {A : Option Addr} {len cap at_ : Nat} {seed seed' : Int} (hB : Blk w g 80 #[.slice A len cap, .int .i64 at_, .int .u64 seed]) (n m : Nat)
    (hw : (((w.drewN n).setCell ⟨g, 1, none⟩ (.int .i64 ((at_ : Int) + 1))).setCell ⟨g, 2, none⟩ (.int .u64 seed')).drewN m = w') : Src w' g A len cap (at_ + 1) ∧ w.grownBy w' (some g) := by
  have h2 := src_cells (seed' := seed') hB n m (.int .i64 ((at_ : Int) + 1))
  have h3 := src_only w g (.int .i64 ((at_ : Int) + 1)) (.int .u64 seed') n m
  rw [hw] at h2 h3
  have e2 : (at_ : Int) + 1 = ((at_ + 1 : Nat) : Int) := by push_cast; rfl
  rw [e2] at h2
  exact And.intro (Exists.intro seed' h2) h3

set_option maxHeartbeats 1000000 in
theorem c_next (g len cap at_ : Nat) (A : Option Addr) (w : World) (hs : Src w g A len cap at_) (hb : BRow w g A len) (hat : at_ ≤ 1000000) (hl : len ≤ 1000000) :
    Calls Try.prog 73 #[.pointer (some ⟨g, 0, none⟩)] w fun e w' => ∃ k : Nat, k ≤ 255 ∧ e = .returned (.int .i64 k) ∧ Src w' g A len cap (at_ + 1) ∧ w.grownBy w' (some g) := by
  obtain ⟨seed, hB⟩ := hs
  have d0 : w.cell? ⟨g, 0, none⟩ = some (.slice A len cap) := hB.cell 0
  have d1 : w.cell? ⟨g, 1, none⟩ = some (.int .i64 at_) := hB.cell 1
  have d2 : w.cell? ⟨g, 2, none⟩ = some (.int .u64 seed) := hB.cell 2
  have f1 := hB.frozen 1
  have f2 := hB.frozen 2
  have HB := hid hB
  clear hB
  by_cases hlt : at_ < len
  · obtain ⟨b, off, rfl, hbl, hne, hc⟩ := hb (by omega)
    obtain ⟨c, hc1, hc2⟩ := hc at_ hlt
    clear hc hb
    go_enter Try.func73, Try.ntmps73
    go_wp2_with fail
    go_quiet (fail)
    go_wp2_with fail
    go_quiet (fail)
    go_wp2_with fail
    obtain ⟨sd, hsd⟩ : ∃ sd : Int, IntKind.u64.wrap (IntKind.u64.wrap (IntKind.u64.wrap (seed * 6364136223846793005) + (c : Int)) + 1442695040888963407) = sd := ⟨_, rfl⟩
    rw [hsd]
    clear hsd
    go_quiet (fail)
    go_wp2_with fail
    go_ret
    exact ⟨c, hc1, rfl, src_step HB.out _ _ rfl⟩
  · go_enter Try.func73, Try.ntmps73
    go_wp2_with fail
    go_quiet (fail)
    go_wp2_with fail
    go_quiet (fail)
    go_wp2_with fail
    obtain ⟨k, hk, he⟩ := and255 (IntKind.u64.wrap (IntKind.u64.wrap (IntKind.u64.wrap (seed * 6364136223846793005)) + 1442695040888963407) / 1099511627776)
    go_ret
    exact ⟨k, hk, congrArg (fun n => Ending.returned (.int .i64 n)) he, src_step HB.out _ _ rfl⟩
end Go.Proofs.Ytihknapgdkladaa
