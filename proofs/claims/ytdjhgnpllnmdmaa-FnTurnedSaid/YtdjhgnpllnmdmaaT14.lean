/- Turned: sheets that are made. -/
import Derived.Test.YtdjhgnpllnmdmaaT13
import Derived.Test.YtdjhgnpllnmdmaaG1
set_option linter.unusedVariables false
set_option linter.unusedSectionVars false
set_option linter.unusedSimpArgs false
namespace Go.Proofs.Ytdjhgnpllnmdmaa
open Go.RowKit
attribute [local go_sem] r_addD r_subD r_mulD r_divD r_addS r_subS r_mulS r_divS r_wide r_narrow w_store r_neg r_subC r_addC
attribute [local go_sem ↓] Go.wp_at_zero Go.wp_at_succ

theorem info_f32 : (Try.prog.info? 25).map (fun i => (i.zero, i.size, i.bytes)) = some (some (.float .f32 0), 1, 4) := by kernel_rfl
theorem info_c64 : (Try.prog.info? 34).map (fun i => (i.zero, i.size, i.bytes)) = some (some (.complex .f32 0 0), 1, 8) := by kernel_rfl
def vl (l : List Nat) : List Value := l.map (Value.float .f32)
def cvl (l : List (Nat × Nat)) : List Value := l.map (fun p => Value.complex .f32 p.1 p.2)
theorem vl_snoc (l : List Nat) (b : Nat) : vl (l ++ [b]) = vl l ++ [.float .f32 b] := by simp [vl]
theorem cvl_snoc (l : List (Nat × Nat)) (p : Nat × Nat) : cvl (l ++ [p]) = cvl l ++ [.complex .f32 p.1 p.2] := by simp [cvl]

/-- THE WORLD WHILE A SHEET IS MADE: its two blocks, what the two new rows own, and nothing else has changed. -/
structure Mk (w wc : World) (vp vs up us : Value) (np ns : Nat) (lp ls : List Value) : Prop where
  b0 : Blk wc w.heap.size 29 #[.slice none 0 0, .slice none 0 0, .bool false]
  b1 : Blk wc (w.heap.size + 1) 29 #[vp, vs, .bool true]
  op : wc.ownsRow w.heap.size 34 1 up np lp
  os : wc.ownsRow w.heap.size 25 1 us ns ls
  be : Below w.heap.size w wc

section
variable {w wc w1 : World} {vp vs up us v : Value} {np ns m : Nat} {lp ls l : List Value}
theorem Mk.kept (h : Mk w wc vp vs up us np ns lp ls) (hb : Below wc.heap.size wc w1) : Mk w w1 vp vs up us np ns lp ls :=
  ⟨h.b0.below' hb, h.b1.below' hb, own_below h.op hb, own_below h.os hb, h.be.trans (hb.mono h.be.size)⟩
theorem Mk.alloc (h : Mk w wc vp vs up us np ns lp ls) (o : Obj) : Mk w (wc.alloc o) vp vs up us np ns lp ls := h.kept (below_new wc o)
theorem Mk.drewN (h : Mk w wc vp vs up us np ns lp ls) (k : Nat) : Mk w (wc.drewN k) vp vs up us np ns lp ls := h.kept (below_drewN (Below.refl _ _) k)
theorem Mk.appP (h : Mk w wc vp vs up us np ns lp ls) (ho : w1.ownsRow w.heap.size 34 1 v m l) (hg : wc.grownBy w1 up.ownBlock) : Mk w w1 vp vs v us m ns l ls :=
  ⟨h.b0.grown hg (fun e => own_blk_ne h.op h.b0 (by decide) e.symm), h.b1.grown hg (fun e => own_blk_ne h.op h.b1 (by decide) e.symm), ho, h.os.kept hg (by
    rcases h.os.2 with ⟨h0, _⟩ | ⟨g, cap, cur, rfl, _, hh, _⟩
    · left; rw [h0]; rfl
    · right
      intro e
      exact own_blk_ne (cs := cur) (t := 25) h.op hh (by decide) (by rw [← e]; rfl)), h.be.grown hg h.be.size (fun j hj => (h.op.lt j hj).1)⟩
theorem Mk.appS (h : Mk w wc vp vs up us np ns lp ls) (ho : w1.ownsRow w.heap.size 25 1 v m l) (hg : wc.grownBy w1 us.ownBlock) : Mk w w1 vp vs up v np m lp l :=
  ⟨h.b0.grown hg (fun e => own_blk_ne h.os h.b0 (by decide) e.symm), h.b1.grown hg (fun e => own_blk_ne h.os h.b1 (by decide) e.symm), h.op.kept hg (by
    rcases h.op.2 with ⟨h0, _⟩ | ⟨g, cap, cur, rfl, _, hh, _⟩
    · left; rw [h0]; rfl
    · right
      intro e
      exact own_blk_ne (cs := cur) (t := 34) h.os hh (by decide) (by rw [← e]; rfl)), ho, h.be.grown hg h.be.size (fun j hj => (h.os.lt j hj).1)⟩
theorem Mk.setP (h : Mk w wc vp vs up us np ns lp ls) (u : Value) : Mk w (wc.setCell ⟨w.heap.size + 1, 0, none⟩ u) u vs up us np ns lp ls :=
  ⟨h.b0.far (by simp) u, h.b1.set_ 0 u, own_setCell h.op (own_blk_ne h.op h.b1 (by decide)) u, own_setCell h.os (own_blk_ne h.os h.b1 (by decide)) u, h.be.setCell (by simp) u⟩
theorem Mk.setS (h : Mk w wc vp vs up us np ns lp ls) (u : Value) : Mk w (wc.setCell ⟨w.heap.size + 1, 1, none⟩ u) vp u up us np ns lp ls :=
  ⟨h.b0.far (by simp) u, h.b1.set_ 1 u, own_setCell h.op (own_blk_ne h.op h.b1 (by decide)) u, own_setCell h.os (own_blk_ne h.os h.b1 (by decide)) u, h.be.setCell (by simp) u⟩
theorem lit_app {B : Nat} {t t' : TypeId} {cs : Array Value} {u : Value} {n : Nat} {l : List Value} {base : Nat} (h : Blk wc B t cs) (ho : wc.ownsRow base t' 1 u n l) (hne : t' ≠ t) (hg : wc.grownBy w1 u.ownBlock) : Blk w1 B t cs :=
  h.grown hg (fun e => own_blk_ne ho h hne e.symm)
end
theorem frow_of_own {w : World} {base n cap gg : Nat} {l : List Nat} (h : w.ownsRow base 25 1 (.slice (some ⟨gg, 0, none⟩) n cap) n (vl l)) (hn : n = l.length) (hlt : gg < w.heap.size) : FRow w gg 0 l := by
  refine ⟨hlt, fun i hi => ?_⟩
  rw [Nat.zero_add, h.cellAt i (by omega)]
  unfold vl
  rw [List.getElem?_map, List.getElem?_eq_getElem hi, List.getD_eq_getElem?_getD, List.getElem?_eq_getElem hi]
  rfl
theorem crow_of_own {w : World} {base n cap gg : Nat} {l : List (Nat × Nat)} (h : w.ownsRow base 34 1 (.slice (some ⟨gg, 0, none⟩) n cap) n (cvl l)) (hn : n = l.length) (hlt : gg < w.heap.size) : CRow w gg 0 l := by
  refine ⟨hlt, fun i hi => ?_⟩
  rw [Nat.zero_add, h.cellAt i (by omega)]
  unfold cvl
  rw [List.getElem?_map, List.getElem?_eq_getElem hi, List.getD_eq_getElem?_getD, List.getElem?_eq_getElem hi]
  rfl
theorem CRow.setCell {w : World} {b off : Nat} {l : List (Nat × Nat)} (h : CRow w b off l) {p : Addr} (hp : b ≠ p.block) (u : Value) : CRow (w.setCell p u) b off l :=
  ⟨by have := h.1; simpa [World.setCell] using this, fun i hi => (World.cell?_setCell_other w p ⟨b, off + i, none⟩ u (fun e => hp (by rw [e]))).trans (h.2 i hi)⟩
theorem Sh.setCell {w : World} {pb sb n : Nat} {pl : List (Nat × Nat)} {sl : List Nat} (h : Sh w pb sb n pl sl) {p : Addr} (hp : pb ≠ p.block) (hs : sb ≠ p.block) (u : Value) : Sh (w.setCell p u) pb sb n pl sl :=
  ⟨h.pts.setCell hp u, h.sps.setCell hs u, h.np, h.ns, h.lo, h.hi, h.fp, h.fs⟩
/-- WHAT A FUNCTION THAT MAKES A SHEET TELLS. -/
def MadeSh (n : Nat) (cl : Bool) (pl : List (Nat × Nat)) (sl : List Nat) (w : World) (e : Ending) (w' : World) : Prop :=
  ∃ pb c sb c', e = .returned (.tuple #[.agg #[.slice (some ⟨pb, 0, none⟩) n c, .slice (some ⟨sb, 0, none⟩) n c', .bool cl], .bool true]) ∧ Sh w' pb sb n pl sl ∧ Below w.heap.size w w'
end Go.Proofs.Ytdjhgnpllnmdmaa
