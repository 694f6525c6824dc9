/- Turned: a point of a ring. -/
import Derived.Test.YtdjhgnpllnmdmaaT8
set_option linter.unusedVariables false
set_option linter.unusedSectionVars false
set_option linter.unusedSimpArgs false
namespace Go.Proofs.Ytdjhgnpllnmdmaa
open Go.RowKit
attribute [local go_sem] r_addD r_subD r_mulD r_divD r_addS r_subS r_mulS r_divS r_wide r_narrow w_store r_neg
attribute [local go_sem ↓] Go.wp_at_zero Go.wp_at_succ

/-- the k-th point of a ring of n points -/
def ringPt (n r k : Nat) : Option (Nat × Nat) :=
  (Q.divD' (Q.ofNatD k) (Q.ofNatD n)).bind fun t => (phasorO t).bind fun p => (Q.mulS p.1 r).bind fun x => (Q.mulS p.2 r).bind fun y => some (x, y)

set_option maxHeartbeats 1000000 in
theorem c_ring1 (n r k x y g3 g4 : Nat) (w : World) (h : ringPt n r k = some (x, y)) (d3 : w.cell? ⟨g3, 0, none⟩ = some (.int .i64 n)) (d4 : w.cell? ⟨g4, 0, none⟩ = some (.float .f32 r)) :
    Calls Try.prog 17 #[.int .i64 k, .pointer (some ⟨g3, 0, none⟩), .pointer (some ⟨g4, 0, none⟩)] w fun e w' => e = .returned (.complex .f32 x y) ∧ ∃ m, w' = w.drewN m := by
  unfold ringPt at h
  obtain ⟨t, ht, h1⟩ := bind_some h
  obtain ⟨⟨p1, p2⟩, hp, h2⟩ := bind_some h1
  obtain ⟨x', hx, h3⟩ := bind_some h2
  obtain ⟨y', hy, h4⟩ := bind_some h3
  have hxy := Option.some.inj h4
  have e1 : x' = x := congrArg Prod.fst hxy
  have e2 : y' = y := congrArg Prod.snd hxy
  subst e1 e2
  have HP := hid (fun m => c_PhasorOf t p1 p2 hp (w.drewN m))
  have HS := hid (fun m => c_ScaleComplex p1 p2 r x' y' hx hy (w.drewN m))
  have hf1 := ofNatD_f k
  have hf2 := ofNatD_f n
  clear h h1 h2 h3 h4 hxy hx hy hp
  go_enter Try.func17, Try.ntmps17
  go_wp2_with fail
  go_quiet ((first | (go_at_call 19; exact Calls.quiet_of_same (HP.out _)) | (go_at_call 18; exact Calls.quiet_of_same (HS.out _))))
  go_wp2_with fail
  go_ret
  exact ⟨rfl, _, rfl⟩
end Go.Proofs.Ytdjhgnpllnmdmaa
