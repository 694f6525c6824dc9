/- Turned: rings. -/
import Derived.Test.YtdjhgnpllnmdmaaT15
set_option linter.unusedVariables false
set_option linter.unusedSectionVars false
set_option linter.unusedSimpArgs false
namespace Go.Proofs.Ytdjhgnpllnmdmaa
open Go.RowKit
attribute [local go_sem] r_addD r_subD r_mulD r_divD r_addS r_subS r_mulS r_divS r_wide r_narrow w_store r_neg r_subC r_addC
attribute [local go_sem ↓] Go.wp_at_zero Go.wp_at_succ

theorem frow_one (w : World) (x : Nat) : FRow (w.alloc (.cells #[.float .f32 x] 25)) w.heap.size 0 [x] := by
  have hb := Blk.new w 25 #[.float .f32 x]
  refine ⟨hb.lt, fun i hi => ?_⟩
  obtain rfl : i = 0 := by simp at hi; omega
  exact hb.cell 0

set_option maxHeartbeats 4000000 in
theorem c_RingSheet (n r spin : Nat) (pl : List (Nat × Nat)) (w : World) (hpl : ∀ k, k < n → ringPt n r k = some (pl.getD k (0, 0))) (hlen : pl.length = n) (h3 : 3 ≤ n) (h48 : n ≤ 48) (hfp : FinC pl) (hfs : finS spin = true)
    (hr : finS r = true) (ho : Q.ordS r 0 = some .gt) :
    Calls Try.prog 6 #[.int .i64 n, .float .f32 r, .float .f32 spin] w (MadeSh n true pl (List.replicate n spin) w) := by
  have HI := hid (fun wx => c_in_yes (n : Int) 3 48 wx (by omega) (by omega))
  have HL : Hid (Calls Try.prog 15 #[.slice (some ⟨w.heap.size + 3, 0, none⟩) 1 1] ((((w.alloc (.cells #[.int .i64 n] 2)).alloc (.cells #[.float .f32 r] 25)).alloc (.cells #[.slice none 0 0, .slice none 0 0, .bool false] 29)).alloc (.cells #[.float .f32 r] 25)) fun e w' => e = .returned (.bool true) ∧ w' = ((((w.alloc (.cells #[.int .i64 n] 2)).alloc (.cells #[.float .f32 r] 25)).alloc (.cells #[.slice none 0 0, .slice none 0 0, .bool false] 29)).alloc (.cells #[.float .f32 r] 25))) :=
    hid (c_lengthOk _ r _ (by
      have h := frow_one (((w.alloc (.cells #[.int .i64 n] 2)).alloc (.cells #[.float .f32 r] 25)).alloc (.cells #[.slice none 0 0, .slice none 0 0, .bool false] 29)) r
      simpa [World.size_alloc] using h) hr ho)
  have HS := hid (c_sheetOf w.heap.size (w.heap.size + 1) n r spin pl ((((w.alloc (.cells #[.int .i64 n] 2)).alloc (.cells #[.float .f32 r] 25)).alloc (.cells #[.slice none 0 0, .slice none 0 0, .bool false] 29)).alloc (.cells #[.float .f32 r] 25)) hpl hlen h3 h48 hfp hfs
    ((((Blk.new w _ _).alloc _).alloc _).alloc _) (by
      have h := ((Blk.new (w.alloc (.cells #[.int .i64 n] 2)) 25 #[.float .f32 r]).alloc (.cells #[.slice none 0 0, .slice none 0 0, .bool false] 29)).alloc (.cells #[.float .f32 r] 25)
      simpa [World.size_alloc] using h))
  have HN := hid hlen
  clear hpl hlen hfp hfs hr ho
  go_enter Try.func6, Try.ntmps6
  go_wp2_with fail
  refine (HI.out _).mono ?_
  rintro e w' ⟨rfl, rfl⟩
  go_wp2_with fail
  refine HL.out.mono ?_
  rintro e w' ⟨rfl, rfl⟩
  go_wp2_with fail
  refine HS.out.mono ?_
  rintro e w1 ⟨pb, c, sb, c', rfl, hsh, hb⟩
  obtain ⟨q0, q1, q2, q3, qs, hbel⟩ := blocks4 hb
  have e0 : w1.cell? ⟨w.heap.size + 2, 0, none⟩ = some (.slice none 0 0) := q2.cell 0
  have e1 : w1.cell? ⟨w.heap.size + 2, 1, none⟩ = some (.slice none 0 0) := q2.cell 1
  have e2 : w1.cell? ⟨w.heap.size + 2, 2, none⟩ = some (.bool false) := q2.cell 2
  have f0 := q2.frozen 0
  have f1 := q2.frozen 1
  have f2 := q2.frozen 2
  have HSH := hid hsh
  have HBE := hid hbel
  have HN1 : Hid (pb ≠ w.heap.size + 2) := hid (by
    rintro rfl
    have h := hsh.pts.2 0 (by have := HN.out; omega)
    rw [q2.cell] at h
    simp at h)
  have HN2 : Hid (sb ≠ w.heap.size + 2) := hid (by
    rintro rfl
    have h := hsh.sps.2 0 (by simp; omega)
    rw [q2.cell] at h
    simp at h)
  clear hb q0 q1 q2 q3 hbel hsh qs
  go_wp2_with fail
  refine bodyPost_ret (v := .tuple #[.agg #[.slice (some ⟨pb, 0, none⟩) n c, .slice (some ⟨sb, 0, none⟩) n c', .bool true], .bool true]) (by simp [results, Try.results6, go_sem, e0, e1, e2]) rfl ?_
  exact ⟨pb, c, sb, c', rfl, ((HSH.out.setCell HN1.out HN2.out _).setCell HN1.out HN2.out _).setCell HN1.out HN2.out _, ((HBE.out.setCell (show w.heap.size ≤ w.heap.size + 2 by omega) _).setCell (show w.heap.size ≤ w.heap.size + 2 by omega) _).setCell (show w.heap.size ≤ w.heap.size + 2 by omega) _⟩
end Go.Proofs.Ytdjhgnpllnmdmaa
