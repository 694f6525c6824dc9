/- Basins: Laplace, Mirror, Roll, Scale. -/
import Derived.Test.YtihknapgdkladaaB5
set_option linter.unusedSimpArgs false
set_option linter.unusedVariables false
set_option linter.unusedSectionVars false
namespace Go.Proofs.Ytihknapgdkladaa
open Go.RowKit Fl
attribute [local go_sem] w_add w_sub w_mul w_store

theorem basp_of {w : World} {g : Nat} {t : TypeId} {W H b off n c : Nat} {l : List Nat} (hB : Blk w g t #[.int .i64 W, .int .i64 H, .slice (some ⟨b, off, none⟩) n c]) (hr : FRow w b off l) : BasP w g W H b off n c l :=
  ⟨hB.cell 0, hB.cell 1, hB.cell 2, hB.lt, hr⟩
theorem InB.alloc {w : World} {W H b off n : Nat} {l : List Nat} (h : InB w W H b off n l) (o : Obj) : InB (w.alloc o) W H b off n l := ⟨h.siz, h.row.alloc o, h.nl, h.len, h.num⟩
theorem MadeT.later {w w0 : World} {W H : Nat} {l : List Nat} {e : Ending} {w' : World} (h : MadeT w W H l e w') (hb : Below w0.heap.size w0 w) : MadeT w0 W H l e w' := by
  obtain ⟨gg, cp, h1, h2, h3, h4⟩ := h
  exact ⟨gg, cp, h1, h2, Nat.le_trans hb.size h3, hb.trans (h4.mono hb.size)⟩

set_option maxHeartbeats 1000000 in
theorem c_LaplaceBasin (W H b off n c : Nat) (l : List Nat) (w : World) (hi : InB w W H b off n l) (hL : LapOk W H l) (hnum : AllNum (cl W (fun x y => laplaceB W H l x y) (W * H))) :
    Calls Try.prog 9 #[.agg #[.int .i64 W, .int .i64 H, .slice (some ⟨b, off, none⟩) n c]] w (MadeT w W H (cl W (fun x y => laplaceB W H l x y) (W * H))) := by
  have HR : Hid (∀ wx : World, Below w.heap.size w wx → Blk wx w.heap.size 26 #[.int .i64 W, .int .i64 H, .slice (some ⟨b, off, none⟩) n c] →
      Calls Try.prog 32 #[.agg #[.int .i64 W, .int .i64 H, .slice (some ⟨b, off, none⟩) n c], .func (.func 35) #[.pointer (some ⟨w.heap.size, 0, none⟩)] #[]] wx (MadeT wx W H (cl W (fun x y => laplaceB W H l x y) (W * H)))) :=
    fun wx hb hB => c_rebuilt W H b off n c l wx (hi.below hb) _ _ _ _ (enters_fn Try.func35 (by kernel_rfl) rfl) (of_laplace (basp_of hB (hi.below hb).row) hi.siz (by rw [hi.nl, hi.len]; exact Nat.le_refl _) (by rw [hi.len]; exact Nat.le_refl _) hi.num hL) hnum
  clear hi hL hnum
  generalize cl W (fun x y => laplaceB W H l x y) (W * H) = l' at *
  go_enter Try.func9, Try.ntmps9
  go_wp2_with (go_at_call 32; refine (HR.out _ ?_ ?_).mono ?_; exact (((Below.refl _ w).alloc (Nat.le_refl _) _).alloc (by simp) _); exact ((Blk.new w _ _).alloc _); rintro e w1 ⟨gg, cp, rfl, hrow, hge, hb1⟩; obtain ⟨q0, q1, qs, hbel⟩ := blocks2 hb1; have HRow := hid hrow; have HBel := hid hbel; obtain ⟨a1, f1⟩ := q1.all; clear hb1 q0 q1 hbel hrow)
  refine bodyPost_ret (v := .tuple #[.agg #[.int .i64 W, .int .i64 H, .slice (some ⟨gg, 0, none⟩) (W * H) cp], .bool true]) (by simp [results, Try.results9, go_sem, a1]) rfl ⟨gg, cp, rfl, ?_, ?_, ?_⟩
  · simp only [World.size_alloc] at hge
    exact ((HRow.out.setCell (by simp; omega) _).setCell (by simp; omega) _).setCell (by simp; omega) _
  · simp only [World.size_alloc] at hge; omega
  · exact ((HBel.out.setCell (by simp <;> omega) _).setCell (by simp <;> omega) _).setCell (by simp <;> omega) _

set_option maxHeartbeats 1000000 in
theorem c_MirrorBasin (W H b off n c : Nat) (l : List Nat) (w : World) (hi : InB w W H b off n l) (hnum : AllNum (cl W (fun x y => Op.negFloat .f32 (bat W H l ((W : Int) - 1 - x) y)) (W * H))) :
    Calls Try.prog 13 #[.agg #[.int .i64 W, .int .i64 H, .slice (some ⟨b, off, none⟩) n c]] w (MadeT w W H (cl W (fun x y => Op.negFloat .f32 (bat W H l ((W : Int) - 1 - x) y)) (W * H))) := by
  have HR : Hid (∀ wx : World, Below w.heap.size w wx → Blk wx w.heap.size 26 #[.int .i64 W, .int .i64 H, .slice (some ⟨b, off, none⟩) n c] →
      Calls Try.prog 32 #[.agg #[.int .i64 W, .int .i64 H, .slice (some ⟨b, off, none⟩) n c], .func (.func 40) #[] #[.pointer (some ⟨w.heap.size, 0, none⟩)]] wx (MadeT wx W H (cl W (fun x y => Op.negFloat .f32 (bat W H l ((W : Int) - 1 - x) y)) (W * H)))) :=
    fun wx hb hB => c_rebuilt W H b off n c l wx (hi.below hb) _ _ _ _ (enters_fn Try.func40 (by kernel_rfl) rfl) (of_mirror (basp_of hB (hi.below hb).row) hi.siz (by rw [hi.nl, hi.len]; exact Nat.le_refl _) (by rw [hi.len]; exact Nat.le_refl _)) hnum
  clear hi hnum
  generalize cl W (fun x y => Op.negFloat .f32 (bat W H l ((W : Int) - 1 - x) y)) (W * H) = l' at *
  go_enter Try.func13, Try.ntmps13
  go_wp2_with (go_at_call 32; refine (HR.out _ ?_ ?_).mono ?_; exact (((Below.refl _ w).alloc (Nat.le_refl _) _).alloc (by simp) _); exact ((Blk.new w _ _).alloc _); rintro e w1 ⟨gg, cp, rfl, hrow, hge, hb1⟩; obtain ⟨q0, q1, qs, hbel⟩ := blocks2 hb1; have HRow := hid hrow; have HBel := hid hbel; obtain ⟨a1, f1⟩ := q1.all; clear hb1 q0 q1 hbel hrow)
  refine bodyPost_ret (v := .tuple #[.agg #[.int .i64 W, .int .i64 H, .slice (some ⟨gg, 0, none⟩) (W * H) cp], .bool true]) (by simp [results, Try.results13, go_sem, a1]) rfl ⟨gg, cp, rfl, ?_, ?_, ?_⟩
  · simp only [World.size_alloc] at hge
    exact ((HRow.out.setCell (by simp; omega) _).setCell (by simp; omega) _).setCell (by simp; omega) _
  · simp only [World.size_alloc] at hge; omega
  · exact ((HBel.out.setCell (by simp <;> omega) _).setCell (by simp <;> omega) _).setCell (by simp <;> omega) _

set_option maxHeartbeats 1000000 in
theorem c_RollBasin (W H b off n c : Nat) (l : List Nat) (u v : Int) (w : World) (hi : InB w W H b off n l) (b1 : -16 ≤ u) (b2 : u ≤ 16) (b3 : -16 ≤ v) (b4 : v ≤ 16) (hnum : AllNum (cl W (fun x y => bat W H l ((x : Int) - u) ((y : Int) - v)) (W * H))) :
    Calls Try.prog 12 #[.agg #[.int .i64 W, .int .i64 H, .slice (some ⟨b, off, none⟩) n c], .int .i64 u, .int .i64 v] w (MadeT w W H (cl W (fun x y => bat W H l ((x : Int) - u) ((y : Int) - v)) (W * H))) := by
  have HR : Hid (∀ wx : World, Below w.heap.size w wx → Blk wx w.heap.size 26 #[.int .i64 W, .int .i64 H, .slice (some ⟨b, off, none⟩) n c] → Blk wx (w.heap.size + 1) 2 #[.int .i64 u] → Blk wx (w.heap.size + 2) 2 #[.int .i64 v] →
      Calls Try.prog 32 #[.agg #[.int .i64 W, .int .i64 H, .slice (some ⟨b, off, none⟩) n c], .func (.func 39) #[] #[.pointer (some ⟨w.heap.size, 0, none⟩), .pointer (some ⟨w.heap.size + 1, 0, none⟩), .pointer (some ⟨w.heap.size + 2, 0, none⟩)]] wx (MadeT wx W H (cl W (fun x y => bat W H l ((x : Int) - u) ((y : Int) - v)) (W * H)))) :=
    fun wx hb hB hU hV => c_rebuilt W H b off n c l wx (hi.below hb) _ _ _ _ (enters_fn Try.func39 (by kernel_rfl) rfl) (of_roll (basp_of hB (hi.below hb).row) (hU.cell 0) (hV.cell 0) hU.lt hV.lt hi.siz (by rw [hi.nl, hi.len]; exact Nat.le_refl _) (by rw [hi.len]; exact Nat.le_refl _) (by omega) (by omega) (by omega) (by omega)) hnum
  have I1 : Hid (∀ wx : World, Calls Try.prog 38 #[.int .i64 u, .int .i64 (-16), .int .i64 16] wx fun e w' => e = .returned (.bool true) ∧ wx = w') := fun wx => c_in_yes u _ _ wx b1 b2
  have I2 : Hid (∀ wx : World, Calls Try.prog 38 #[.int .i64 v, .int .i64 (-16), .int .i64 16] wx fun e w' => e = .returned (.bool true) ∧ wx = w') := fun wx => c_in_yes v _ _ wx b3 b4
  clear hi hnum b1 b2 b3 b4
  generalize cl W (fun x y => bat W H l ((x : Int) - u) ((y : Int) - v)) (W * H) = l' at *
  go_enter Try.func12, Try.ntmps12
  go_wp2_with fail
  refine (I1.out _).mono ?_
  rintro e w' ⟨rfl, rfl⟩
  go_wp2_with fail
  refine (I2.out _).mono ?_
  rintro e w' ⟨rfl, rfl⟩
  go_wp2_with fail
  refine (HR.out _ ?_ ?_ ?_ ?_).mono ?_
  · exact (((((Below.refl _ w).alloc (Nat.le_refl _) _).alloc (by simp) _).alloc (by simp; omega) _).alloc (by simp; omega) _)
  · exact ((((Blk.new w _ _).alloc _).alloc _).alloc _)
  · have h := ((Blk.new (w.alloc (.cells #[.int .i64 W, .int .i64 H, .slice (some ⟨b, off, none⟩) n c] 26)) 2 #[.int .i64 u]).alloc (.cells #[.int .i64 v] 2)).alloc (.cells #[.int .i64 0, .int .i64 0, .slice none 0 0] 26)
    simpa [World.size_alloc] using h
  · have h := (Blk.new ((w.alloc (.cells #[.int .i64 W, .int .i64 H, .slice (some ⟨b, off, none⟩) n c] 26)).alloc (.cells #[.int .i64 u] 2)) 2 #[.int .i64 v]).alloc (.cells #[.int .i64 0, .int .i64 0, .slice none 0 0] 26)
    simpa [World.size_alloc] using h
  rintro e w1 ⟨gg, cp, rfl, hrow, hge, hb1⟩
  obtain ⟨q0, q1, q2, q3, qs, hbel⟩ := blocks4 hb1
  have HRow := hid hrow
  have HBel := hid hbel
  obtain ⟨a1, f1⟩ := q3.all
  clear hb1 q0 q1 q2 q3 hbel hrow
  go_wp2_with fail
  refine bodyPost_ret (v := .tuple #[.agg #[.int .i64 W, .int .i64 H, .slice (some ⟨gg, 0, none⟩) (W * H) cp], .bool true]) (by simp [results, Try.results12, go_sem, a1]) rfl ⟨gg, cp, rfl, ?_, ?_, ?_⟩
  · simp only [World.size_alloc] at hge
    exact ((HRow.out.setCell (by simp; omega) _).setCell (by simp; omega) _).setCell (by simp; omega) _
  · simp only [World.size_alloc] at hge; omega
  · exact ((HBel.out.setCell (by simp <;> omega) _).setCell (by simp <;> omega) _).setCell (by simp <;> omega) _

set_option maxHeartbeats 1000000 in
theorem c_ScaleBasin (W H b off n c m : Nat) (l : List Nat) (w : World) (hi : InB w W H b off n l) (hM : Num Ieee.single m) (hnum : AllNum (cl W (fun x y => fmul Ieee.single (bat W H l x y) m) (W * H))) :
    Calls Try.prog 22 #[.agg #[.int .i64 W, .int .i64 H, .slice (some ⟨b, off, none⟩) n c], .float .f32 m] w (MadeT w W H (cl W (fun x y => fmul Ieee.single (bat W H l x y) m) (W * H))) := by
  have HR : Hid (∀ wx : World, Below w.heap.size w wx → Blk wx w.heap.size 26 #[.int .i64 W, .int .i64 H, .slice (some ⟨b, off, none⟩) n c] → Blk wx (w.heap.size + 1) 32 #[.float .f32 m] →
      Calls Try.prog 32 #[.agg #[.int .i64 W, .int .i64 H, .slice (some ⟨b, off, none⟩) n c], .func (.func 51) #[] #[.pointer (some ⟨w.heap.size, 0, none⟩), .pointer (some ⟨w.heap.size + 1, 0, none⟩)]] wx (MadeT wx W H (cl W (fun x y => fmul Ieee.single (bat W H l x y) m) (W * H)))) :=
    fun wx hb hB hU => c_rebuilt W H b off n c l wx (hi.below hb) _ _ _ _ (enters_fn Try.func51 (by kernel_rfl) rfl) (of_scale (basp_of hB (hi.below hb).row) (hU.cell 0) hU.lt hM hi.siz (by rw [hi.nl, hi.len]; exact Nat.le_refl _) (by rw [hi.len]; exact Nat.le_refl _) hi.num) hnum
  have I1 : Hid (∀ wx : World, Calls Try.prog 50 #[.float .f32 m] wx fun e w' => e = .returned (.bool true) ∧ wx = w') := fun wx => c_IsFinite m wx hM
  clear hi hnum hM
  generalize cl W (fun x y => fmul Ieee.single (bat W H l x y) m) (W * H) = l' at *
  go_enter Try.func22, Try.ntmps22
  go_wp2_with fail
  refine (I1.out _).mono ?_
  rintro e w' ⟨rfl, rfl⟩
  go_wp2_with fail
  refine (HR.out _ ?_ ?_ ?_).mono ?_
  · exact ((((Below.refl _ w).alloc (Nat.le_refl _) _).alloc (by simp) _).alloc (by simp; omega) _)
  · exact (((Blk.new w _ _).alloc _).alloc _)
  · have h := (Blk.new (w.alloc (.cells #[.int .i64 W, .int .i64 H, .slice (some ⟨b, off, none⟩) n c] 26)) 32 #[.float .f32 m]).alloc (.cells #[.int .i64 0, .int .i64 0, .slice none 0 0] 26)
    simpa [World.size_alloc] using h
  rintro e w1 ⟨gg, cp, rfl, hrow, hge, hb1⟩
  obtain ⟨q0, q1, q2, qs, hbel⟩ := blocks3 hb1
  have HRow := hid hrow
  have HBel := hid hbel
  obtain ⟨a1, f1⟩ := q2.all
  clear hb1 q0 q1 q2 hbel hrow
  go_wp2_with fail
  refine bodyPost_ret (v := .tuple #[.agg #[.int .i64 W, .int .i64 H, .slice (some ⟨gg, 0, none⟩) (W * H) cp], .bool true]) (by simp [results, Try.results22, go_sem, a1]) rfl ⟨gg, cp, rfl, ?_, ?_, ?_⟩
  · simp only [World.size_alloc] at hge
    exact ((HRow.out.setCell (by simp; omega) _).setCell (by simp; omega) _).setCell (by simp; omega) _
  · simp only [World.size_alloc] at hge; omega
  · exact ((HBel.out.setCell (by simp <;> omega) _).setCell (by simp <;> omega) _).setCell (by simp <;> omega) _
end Go.Proofs.Ytihknapgdkladaa
