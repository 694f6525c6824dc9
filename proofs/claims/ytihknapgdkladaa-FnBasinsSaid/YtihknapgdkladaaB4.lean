/- Basins: told, rebuilt. -/
import Derived.Test.YtihknapgdkladaaB3
set_option linter.unusedSimpArgs false
set_option linter.unusedVariables false
set_option linter.unusedSectionVars false
namespace Go.Proofs.Ytihknapgdkladaa
open Go.RowKit Fl
attribute [local go_sem] w_add w_sub w_mul w_store

theorem OfAt.later {g : FuncId} {first cap : Array Value} {w w' : World} {W H : Nat} {f : Nat → Nat → Nat} (h : OfAt g first cap w W H f) (hb : Below w.heap.size w w') : OfAt g first cap w' W H f :=
  fun wx x y hx => h wx x y (hb.trans (hx.mono hb.size))

set_option maxHeartbeats 1000000 in
theorem c_toldBasin (W H b off n c : Nat) (l : List Nat) (w : World) (hs : Siz W H) (hr : FRow w b off l) (hn : n = l.length) (hl : l.length = W * H) (hA : AllNum l) :
    Calls Try.prog 49 #[.agg #[.int .i64 W, .int .i64 H, .slice (some ⟨b, off, none⟩) n c]] w fun e w' =>
      e = .returned (.tuple #[.agg #[.int .i64 W, .int .i64 H, .slice (some ⟨b, off, none⟩) n c], .bool true]) ∧ Below w.heap.size w w' := by
  have HV : Hid (∀ o o' : Obj, Calls Try.prog 16 #[.agg #[.int .i64 W, .int .i64 H, .slice (some ⟨b, off, none⟩) n c]] ((w.alloc o).alloc o') fun e w' => e = .returned (.bool true) ∧ Below ((w.alloc o).alloc o').heap.size ((w.alloc o).alloc o') w') :=
    fun o o' => c_ValidBasin W H b off n c l _ hs ((hr.alloc o).alloc o') hn hl hA
  clear hs hr hn hl hA
  go_enter Try.func49, Try.ntmps49
  go_wp2_with (go_at_call 16; refine (HV.out _ _).mono ?_; rintro e w1 ⟨rfl, hb1⟩; obtain ⟨q0, q1, qs, hbel⟩ := blocks2 hb1; obtain ⟨a0, _⟩ := q0.all; obtain ⟨a1, f1⟩ := q1.all; clear hb1 q0 q1)
  refine bodyPost_ret (v := .tuple #[.agg #[.int .i64 W, .int .i64 H, .slice (some ⟨b, off, none⟩) n c], .bool true]) (by simp [results, Try.results49, go_sem, a1]) rfl ⟨rfl, ?_⟩
  exact ((hbel.setCell (by simp) _).setCell (by simp) _).setCell (by simp) _

/-- the premises of a basin that comes in -/
structure InB (w : World) (W H b off n : Nat) (l : List Nat) : Prop where
  siz : Siz W H
  row : FRow w b off l
  nl : n = l.length
  len : l.length = W * H
  num : AllNum l
theorem InB.below {w w' : World} {W H b off n : Nat} {l : List Nat} (h : InB w W H b off n l) (hb : Below w.heap.size w w') : InB w' W H b off n l := ⟨h.siz, h.row.below hb h.row.1, h.nl, h.len, h.num⟩

set_option maxHeartbeats 1000000 in
theorem c_rebuilt (W H b off n c : Nat) (l : List Nat) (w : World) (hi : InB w W H b off n l) (g : FuncId) (first cap : Array Value) (f : Nat → Nat → Nat)
    (eg : ∀ args w, (callFunc g args).run Try.prog w = .ok (.enter g args) w) (hof : OfAt g first cap w W H f) (hnum : AllNum (cl W f (W * H))) :
    Calls Try.prog 32 #[.agg #[.int .i64 W, .int .i64 H, .slice (some ⟨b, off, none⟩) n c], .func (.func g) first cap] w (MadeT w W H (cl W f (W * H))) := by
  have HV : Hid (∀ wx : World, Below w.heap.size w wx → Calls Try.prog 16 #[.agg #[.int .i64 W, .int .i64 H, .slice (some ⟨b, off, none⟩) n c]] wx fun e w' => e = .returned (.bool true) ∧ Below wx.heap.size wx w') :=
    fun wx hb => c_ValidBasin W H b off n c l _ hi.siz (hi.below hb).row hi.nl hi.len hi.num
  have HC : Hid (∀ wx : World, Below w.heap.size w wx → Calls Try.prog 56 #[.int .i64 W, .int .i64 H, .func (.func g) first cap] wx (MadeB wx W H (cl W f (W * H)))) :=
    fun wx hb => c_cells g first cap wx W H f hi.siz eg (hof.later hb)
  have HT : Hid (∀ (wx : World) (gg cp : Nat), FRow wx gg 0 (cl W f (W * H)) → Calls Try.prog 49 #[.agg #[.int .i64 W, .int .i64 H, .slice (some ⟨gg, 0, none⟩) (W * H) cp]] wx fun e w' =>
      e = .returned (.tuple #[.agg #[.int .i64 W, .int .i64 H, .slice (some ⟨gg, 0, none⟩) (W * H) cp], .bool true]) ∧ Below wx.heap.size wx w') :=
    fun wx gg cp hr => c_toldBasin W H gg 0 (W * H) cp _ wx hi.siz hr (cl_length _ _ _).symm (cl_length _ _ _) hnum
  clear hi eg hof hnum
  generalize cl W f (W * H) = l' at *
  go_enter Try.func32, Try.ntmps32
  go_wp2_with (first
    | (go_at_call 16; refine (HV.out _ ?_).mono ?_; exact (((Below.refl _ w).alloc (Nat.le_refl _) _).alloc (by simp) _); rintro e w1 ⟨rfl, hb1⟩; obtain ⟨q0, q1, qs, hbel⟩ := blocks2 hb1; have HQ0 := hid q0; have HQ1 := hid q1; have HBel := hid hbel; obtain ⟨a0, _⟩ := q0.all; obtain ⟨a1, f1⟩ := q1.all; clear hb1 q0 q1 hbel)
    | (go_at_call 56; refine (HC.out _ HBel.out).mono ?_; rintro e w2 ⟨gg, cp, rfl, hrow, hge, hb2⟩; have HR := hid hrow; have HB2 := hid hb2; have HQ2 := hid (HQ1.out.below' hb2); obtain ⟨a2, f2⟩ := HQ2.out.all; clear hrow hb2)
    | (go_at_call 49; refine (HT.out _ _ _ HR.out).mono ?_; rintro e w3 ⟨rfl, hb3⟩; have HB3 := hid hb3; obtain ⟨a3, f3⟩ := (HQ2.out.below' hb3).all; clear hb3))
  refine bodyPost_ret (v := .tuple #[.agg #[.int .i64 W, .int .i64 H, .slice (some ⟨gg, 0, none⟩) (W * H) cp], .bool true]) (by simp [results, Try.results32, go_sem, a3]) rfl ⟨gg, cp, rfl, ?_, by omega, ?_⟩
  · have hr3 := HR.out.below HB3.out HR.out.1
    exact ((hr3.setCell (by simp; omega) _).setCell (by simp; omega) _).setCell (by simp; omega) _
  · have h2 := HBel.out.trans (HB2.out.mono HBel.out.size)
    have h3 := h2.trans (HB3.out.mono h2.size)
    exact ((h3.setCell (by simp) _).setCell (by simp) _).setCell (by simp) _
end Go.Proofs.Ytihknapgdkladaa
