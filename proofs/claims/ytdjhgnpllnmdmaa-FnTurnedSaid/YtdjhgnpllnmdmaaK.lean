/- Words for the walks: float operations that are valid; rows of floats in memory. -/
import Derived.Test.YtdjhgnpllnmdmaaProg
import Derived.Test.YtdjhgnpllnmdmaaF4
import Derived.WalkKit
import Derived.WalkSpells
import Derived.WalkLawsBesides
import Derived.Deep.QuietTactic
import Derived.BigQuiet
import Derived.Deep.RegionHeld3
import Derived.Deep.AppendLies
import Derived.Deep.DrawnRows
import Derived.Deep.DeepFit
import Derived.Laws.OwnMore
import Derived.Laws.Rows
set_option linter.unusedSimpArgs false
set_option linter.unusedVariables false
set_option linter.unusedSectionVars false
namespace Go.Proofs.Ytdjhgnpllnmdmaa
open Go.RowKit Fl
theorem hid {p : Prop} (h : p) : Hid p := h

section
variable {P : Program} (w : World)
theorem w_add (t : TypeId) (x y : Nat) (hx : Num Ieee.single x) (hy : Num Ieee.single y) : (binOp .add t (.float .f32 x) (.float .f32 y)).run P w = .ok (.float .f32 (fadd Ieee.single x y)) w :=
  run_float_arith w .add t .f32 x y _ (add_some (f := Ieee.single) hx hy)
theorem w_sub (t : TypeId) (x y : Nat) (hx : Num Ieee.single x) (hy : Num Ieee.single y) : (binOp .sub t (.float .f32 x) (.float .f32 y)).run P w = .ok (.float .f32 (fsub Ieee.single x y)) w :=
  run_float_arith w .sub t .f32 x y _ (sub_some (f := Ieee.single) hx hy)
theorem w_mul (t : TypeId) (x y : Nat) (hx : Num Ieee.single x) (hy : Num Ieee.single y) : (binOp .mul t (.float .f32 x) (.float .f32 y)).run P w = .ok (.float .f32 (fmul Ieee.single x y)) w :=
  run_float_arith w .mul t .f32 x y _ (mul_some (f := Ieee.single) hx hy)
theorem w_addD (t : TypeId) (x y : Nat) (hx : Num Ieee.double x) (hy : Num Ieee.double y) : (binOp .add t (.float .f64 x) (.float .f64 y)).run P w = .ok (.float .f64 (fadd Ieee.double x y)) w :=
  run_float_arith w .add t .f64 x y _ (add_some (f := Ieee.double) hx hy)
theorem w_subD (t : TypeId) (x y : Nat) (hx : Num Ieee.double x) (hy : Num Ieee.double y) : (binOp .sub t (.float .f64 x) (.float .f64 y)).run P w = .ok (.float .f64 (fsub Ieee.double x y)) w :=
  run_float_arith w .sub t .f64 x y _ (sub_some (f := Ieee.double) hx hy)
theorem w_mulD (t : TypeId) (x y : Nat) (hx : Num Ieee.double x) (hy : Num Ieee.double y) : (binOp .mul t (.float .f64 x) (.float .f64 y)).run P w = .ok (.float .f64 (fmul Ieee.double x y)) w :=
  run_float_arith w .mul t .f64 x y _ (mul_some (f := Ieee.double) hx hy)
theorem w_div (t : TypeId) (x y r : Nat) (h : Ieee.single.div x y = some r) : (binOp .quo t (.float .f32 x) (.float .f32 y)).run P w = .ok (.float .f32 r) w :=
  run_float_arith w .quo t .f32 x y _ h
theorem w_divD (t : TypeId) (x y r : Nat) (h : Ieee.double.div x y = some r) : (binOp .quo t (.float .f64 x) (.float .f64 y)).run P w = .ok (.float .f64 r) w :=
  run_float_arith w .quo t .f64 x y _ h
theorem w_store (a : Addr) (m : Mode) (k : FloatKind) (b : Nat) : (store a (.float k b) m).run P w = stored P w a (.float k b) m := run_store P w a _ m rfl
end

/-- a call of a function with a body enters it -/
theorem enters_fn {P : Program} {f : FuncId} {fn : Func} {c : Code} (hf : P.funcs[f]? = some fn) (hname : (fn.name == "runtime.NumGoroutine") = false) (hb : fn.body = some c) : ∀ (args : Array Value) (w : World), (callFunc f args).run P w = .ok (.enter f args) w := by
  intro args w
  have h1 : fn.name ≠ "runtime.NumGoroutine" := by simpa using hname
  simp [callFunc, hf, h1, hb, mark]

/-- A ROW OF FLOATS: the words l lie from ⟨b, off⟩ on. -/
def FRow (w : World) (b off : Nat) (l : List Nat) : Prop := b < w.heap.size ∧ ∀ i, i < l.length → w.cell? ⟨b, off + i, none⟩ = some (.float .f32 (l.getD i 0))

theorem FRow.below {B : Nat} {w w' : World} {b off : Nat} {l : List Nat} (h : FRow w b off l) (hb : Below B w w') (hB : b < B) : FRow w' b off l :=
  ⟨Nat.lt_of_lt_of_le h.1 hb.size, fun i hi => (hb.cell (p := ⟨b, off + i, none⟩) hB).trans (h.2 i hi)⟩
theorem FRow.drewN {w : World} {b off : Nat} {l : List Nat} (h : FRow w b off l) (n : Nat) : FRow (w.drewN n) b off l := h
theorem FRow.setCell {w : World} {b off : Nat} {l : List Nat} (h : FRow w b off l) {p : Addr} (hp : b ≠ p.block) (u : Value) : FRow (w.setCell p u) b off l :=
  ⟨by have := h.1; simpa [World.setCell] using this, fun i hi => (World.cell?_setCell_other w p ⟨b, off + i, none⟩ u (fun e => hp (by rw [e]))).trans (h.2 i hi)⟩
theorem FRow.alloc {w : World} {b off : Nat} {l : List Nat} (h : FRow w b off l) (o : Obj) : FRow (w.alloc o) b off l :=
  ⟨by have := h.1; simp; omega, fun i hi => (World.cell?_alloc_lt w o ⟨b, off + i, none⟩ h.1).trans (h.2 i hi)⟩

/-- A BASIN BEHIND A POINTER: its three cells, and the row of its spins. -/
structure BasP (w : World) (g : Nat) (W H : Nat) (b off n c : Nat) (l : List Nat) : Prop where
  c0 : w.cell? ⟨g, 0, none⟩ = some (.int .i64 W)
  c1 : w.cell? ⟨g, 1, none⟩ = some (.int .i64 H)
  c2 : w.cell? ⟨g, 2, none⟩ = some (.slice (some ⟨b, off, none⟩) n c)
  lt : g < w.heap.size
  row : FRow w b off l

theorem BasP.below {B : Nat} {w w' : World} {g W H b off n c : Nat} {l : List Nat} (h : BasP w g W H b off n c l) (hb : Below B w w') (hg : g < B) (hB : b < B) : BasP w' g W H b off n c l :=
  ⟨(hb.cell (p := ⟨g, 0, none⟩) hg).trans h.c0, (hb.cell (p := ⟨g, 1, none⟩) hg).trans h.c1, (hb.cell (p := ⟨g, 2, none⟩) hg).trans h.c2, Nat.lt_of_lt_of_le h.lt hb.size, h.row.below hb hB⟩
theorem BasP.drewN {w : World} {g W H b off n c : Nat} {l : List Nat} (h : BasP w g W H b off n c l) (k : Nat) : BasP (w.drewN k) g W H b off n c l := ⟨h.c0, h.c1, h.c2, h.lt, h.row⟩

/-- A BLOCK THAT IS KNOWN WHOLE. -/
def Blk (w : World) (g : Nat) (t : TypeId) (cs : Array Value) : Prop := w.heap[g]? = some (.cells cs t (0, 0))

section
variable {w w' : World} {g : Nat} {t : TypeId} {cs : Array Value}
theorem Blk.lt (h : Blk w g t cs) : g < w.heap.size := by
  rcases Nat.lt_or_ge g w.heap.size with hlt | hge
  · exact hlt
  · unfold Blk at h; rw [Array.getElem?_eq_none hge] at h; cases h
theorem Blk.cell (h : Blk w g t cs) (i : Nat) : w.cell? ⟨g, i, none⟩ = cs[i]? := cell_of_row w g i cs t (0, 0) h
theorem Blk.frozen (h : Blk w g t cs) (i : Nat) : w.frozen? ⟨g, i, none⟩ = false := by
  unfold Blk at h
  simp [World.frozen?, h]
theorem Blk.new (w : World) (t : TypeId) (cs : Array Value) : Blk (w.alloc (.cells cs t)) w.heap.size t cs := heap_alloc_new w _
theorem Blk.drewN (h : Blk w g t cs) (n : Nat) : Blk (w.drewN n) g t cs := h
theorem Blk.drew (h : Blk w g t cs) : Blk w.drew g t cs := h
theorem Blk.alloc (h : Blk w g t cs) (o : Obj) : Blk (w.alloc o) g t cs := (Below.heap_alloc w o g h.lt).trans h
theorem Blk.set_ (h : Blk w g t cs) (i : Nat) (u : Value) : Blk (w.setCell ⟨g, i, none⟩ u) g t (cs.setIfInBounds i u) := by
  unfold Blk at h ⊢
  simp [World.setCell, Array.getElem?_modify, h]
theorem Blk.far (h : Blk w g t cs) {p : Addr} (hp : g ≠ p.block) (u : Value) : Blk (w.setCell p u) g t cs := (Below.heap_setCell w p u g hp).trans h
theorem Blk.below {B : Nat} (h : Blk w g t cs) (hb : Below B w w') (hg : g < B) : Blk w' g t cs := (hb.block g hg).trans h
theorem Blk.below' (h : Blk w g t cs) (hb : Below w.heap.size w w') : Blk w' g t cs := h.below hb h.lt
theorem Blk.grown {row : Option Nat} (h : Blk w g t cs) (hb : w.grownBy w' row) (hg : some g ≠ row) : Blk w' g t cs := (hb.block g h.lt hg).trans h
theorem Blk.ne_ {g' : Nat} {t' : TypeId} {cs' : Array Value} (h : Blk w g t cs) (h' : Blk w g' t' cs') (hne : t ≠ t') : g ≠ g' := by
  rintro rfl
  unfold Blk at h h'
  rw [h] at h'
  injection h' with h'
  injection h' with _ ht
  exact hne ht
theorem own_blk_ne {base : Nat} {e : TypeId} {size n : Nat} {v : Value} {xs : List Value} (h : w.ownsRow base e size v n xs) (hg : Blk w g t cs) (hne : e ≠ t) : v.ownBlock ≠ some g := by
  rcases h.2 with ⟨rfl, _⟩ | ⟨g', cap, cur, rfl, _, hh, _⟩
  · simp [Value.ownBlock]
  · intro he
    have : g' = g := by simpa [Value.ownBlock] using he
    subst this
    exact Blk.ne_ (t := e) hh hg hne rfl
end
/-- the cells of a basin's block -/
def bcs (W H : Nat) (v : Value) : Array Value := #[.int .i64 W, .int .i64 H, v]
theorem own_below {w w' : World} {base : Nat} {e : TypeId} {size n : Nat} {v : Value} {xs : List Value} (h : w.ownsRow base e size v n xs) (hb : Below w.heap.size w w') : w'.ownsRow base e size v n xs :=
  h.kept (row := none) ⟨hb.os, hb.tape, hb.output, hb.size, fun i hi _ => hb.block i hi⟩ (by cases v.ownBlock <;> simp)
theorem own_setCell {w : World} {base : Nat} {e : TypeId} {size n : Nat} {v : Value} {xs : List Value} (h : w.ownsRow base e size v n xs) {p : Addr} (hp : v.ownBlock ≠ some p.block) (u : Value) : (w.setCell p u).ownsRow base e size v n xs :=
  h.kept (row := some p.block) ⟨rfl, rfl, rfl, by simp [World.setCell], fun i _ hne => Below.heap_setCell w p u i (fun e => hne (by rw [e]))⟩ (.inr hp)
theorem only_drewN {a w : World} {row : Option Nat} (h : a.grownBy w row) (n : Nat) : a.grownBy (w.drewN n) row := ⟨h.os, h.tape, h.output, h.size, h.block⟩
theorem only_refl (w : World) (row : Option Nat) : w.grownBy w row := World.grownBy.refl w row
theorem only_alloc {a w : World} {row : Option Nat} (h : a.grownBy w row) (o : Obj) : a.grownBy (w.alloc o) row :=
  ⟨h.os, h.tape, h.output, Nat.le_trans h.size (by simp), fun i hi hne => (Below.heap_alloc w o i (Nat.lt_of_lt_of_le hi h.size)).trans (h.block i hi hne)⟩
theorem only_setCell {a w : World} {g : Nat} (h : a.grownBy w (some g)) {p : Addr} (hp : p.block = g ∨ a.heap.size ≤ p.block) (u : Value) : a.grownBy (w.setCell p u) (some g) :=
  ⟨h.os, h.tape, h.output, by simpa [World.setCell] using h.size, fun i hi hne => (Below.heap_setCell w p u i (by
    rintro rfl
    rcases hp with hp | hp
    · exact hne (by rw [hp])
    · omega)).trans (h.block i hi hne)⟩
theorem only_of_below {a w : World} (h : Below a.heap.size a w) (row : Option Nat) : a.grownBy w row := ⟨h.os, h.tape, h.output, h.size, fun i hi _ => h.block i hi⟩
theorem only_trans {a b c : World} {row : Option Nat} (h : a.grownBy b row) (k : b.grownBy c row) : a.grownBy c row :=
  ⟨k.os.trans h.os, k.tape.trans h.tape, k.output.trans h.output, Nat.le_trans h.size k.size, fun i hi hn => (k.block i (Nat.lt_of_lt_of_le hi h.size) hn).trans (h.block i hi hn)⟩
theorem below_only {B g : Nat} {a w w' : World} (h : Below B a w) (k : w.grownBy w' (some g)) (hB : B ≤ w.heap.size) (hg : B ≤ g) : Below B a w' :=
  h.grown k hB (fun j hj => by injection hj with hj; omega)
theorem below_drewN {B : Nat} {a w : World} (h : Below B a w) (n : Nat) : Below B a (w.drewN n) := ⟨h.os, h.tape, h.output, h.size, h.block⟩

theorem blocks1 {w w1 : World} {c0 : Array Value} {t0 : TypeId} (hb : Below (w.alloc (.cells c0 t0)).heap.size (w.alloc (.cells c0 t0)) w1) :
    Blk w1 (w.heap.size) t0 c0 ∧ w.heap.size < w1.heap.size ∧ Below w.heap.size w w1 :=
  ⟨by have h := (Blk.new w t0 c0).below' hb; simpa [World.size_alloc, Nat.add_assoc] using h,
    by have h := hb.size; simp at h; omega,
    ((Below.refl _ _).alloc (by simp; try omega) _).trans (hb.mono (by simp; try omega))⟩

theorem blocks2 {w w1 : World} {c0 : Array Value} {t0 : TypeId} {c1 : Array Value} {t1 : TypeId} (hb : Below ((w.alloc (.cells c0 t0)).alloc (.cells c1 t1)).heap.size ((w.alloc (.cells c0 t0)).alloc (.cells c1 t1)) w1) :
    Blk w1 (w.heap.size) t0 c0 ∧ Blk w1 (w.heap.size + 1) t1 c1 ∧ w.heap.size + 1 < w1.heap.size ∧ Below w.heap.size w w1 :=
  ⟨by have h := ((Blk.new w t0 c0).alloc (.cells c1 t1)).below' hb; simpa [World.size_alloc, Nat.add_assoc] using h,
    by have h := (Blk.new (w.alloc (.cells c0 t0)) t1 c1).below' hb; simpa [World.size_alloc, Nat.add_assoc] using h,
    by have h := hb.size; simp at h; omega,
    (((Below.refl _ _).alloc (by simp; try omega) _).alloc (by simp; try omega) _).trans (hb.mono (by simp; try omega))⟩

theorem blocks3 {w w1 : World} {c0 : Array Value} {t0 : TypeId} {c1 : Array Value} {t1 : TypeId} {c2 : Array Value} {t2 : TypeId} (hb : Below (((w.alloc (.cells c0 t0)).alloc (.cells c1 t1)).alloc (.cells c2 t2)).heap.size (((w.alloc (.cells c0 t0)).alloc (.cells c1 t1)).alloc (.cells c2 t2)) w1) :
    Blk w1 (w.heap.size) t0 c0 ∧ Blk w1 (w.heap.size + 1) t1 c1 ∧ Blk w1 (w.heap.size + 2) t2 c2 ∧ w.heap.size + 2 < w1.heap.size ∧ Below w.heap.size w w1 :=
  ⟨by have h := (((Blk.new w t0 c0).alloc (.cells c1 t1)).alloc (.cells c2 t2)).below' hb; simpa [World.size_alloc, Nat.add_assoc] using h,
    by have h := ((Blk.new (w.alloc (.cells c0 t0)) t1 c1).alloc (.cells c2 t2)).below' hb; simpa [World.size_alloc, Nat.add_assoc] using h,
    by have h := (Blk.new ((w.alloc (.cells c0 t0)).alloc (.cells c1 t1)) t2 c2).below' hb; simpa [World.size_alloc, Nat.add_assoc] using h,
    by have h := hb.size; simp at h; omega,
    ((((Below.refl _ _).alloc (by simp; try omega) _).alloc (by simp; try omega) _).alloc (by simp; try omega) _).trans (hb.mono (by simp; try omega))⟩

theorem blocks4 {w w1 : World} {c0 : Array Value} {t0 : TypeId} {c1 : Array Value} {t1 : TypeId} {c2 : Array Value} {t2 : TypeId} {c3 : Array Value} {t3 : TypeId} (hb : Below ((((w.alloc (.cells c0 t0)).alloc (.cells c1 t1)).alloc (.cells c2 t2)).alloc (.cells c3 t3)).heap.size ((((w.alloc (.cells c0 t0)).alloc (.cells c1 t1)).alloc (.cells c2 t2)).alloc (.cells c3 t3)) w1) :
    Blk w1 (w.heap.size) t0 c0 ∧ Blk w1 (w.heap.size + 1) t1 c1 ∧ Blk w1 (w.heap.size + 2) t2 c2 ∧ Blk w1 (w.heap.size + 3) t3 c3 ∧ w.heap.size + 3 < w1.heap.size ∧ Below w.heap.size w w1 :=
  ⟨by have h := ((((Blk.new w t0 c0).alloc (.cells c1 t1)).alloc (.cells c2 t2)).alloc (.cells c3 t3)).below' hb; simpa [World.size_alloc, Nat.add_assoc] using h,
    by have h := (((Blk.new (w.alloc (.cells c0 t0)) t1 c1).alloc (.cells c2 t2)).alloc (.cells c3 t3)).below' hb; simpa [World.size_alloc, Nat.add_assoc] using h,
    by have h := ((Blk.new ((w.alloc (.cells c0 t0)).alloc (.cells c1 t1)) t2 c2).alloc (.cells c3 t3)).below' hb; simpa [World.size_alloc, Nat.add_assoc] using h,
    by have h := (Blk.new (((w.alloc (.cells c0 t0)).alloc (.cells c1 t1)).alloc (.cells c2 t2)) t3 c3).below' hb; simpa [World.size_alloc, Nat.add_assoc] using h,
    by have h := hb.size; simp at h; omega,
    (((((Below.refl _ _).alloc (by simp; try omega) _).alloc (by simp; try omega) _).alloc (by simp; try omega) _).alloc (by simp; try omega) _).trans (hb.mono (by simp; try omega))⟩
theorem Blk.all {w : World} {g : Nat} {t : TypeId} {cs : Array Value} (h : Blk w g t cs) : (∀ i, w.cell? ⟨g, i, none⟩ = cs[i]?) ∧ ∀ i, w.frozen? ⟨g, i, none⟩ = false := ⟨h.cell, h.frozen⟩

end Go.Proofs.Ytdjhgnpllnmdmaa
