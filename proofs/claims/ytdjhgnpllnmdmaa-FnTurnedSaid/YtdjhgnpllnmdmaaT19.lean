/- Turned: copies of lists and sheets. -/
import Derived.Test.YtdjhgnpllnmdmaaT18
import Derived.Lib.SliceRun
set_option linter.unusedVariables false
set_option linter.unusedSectionVars false
set_option linter.unusedSimpArgs false
namespace Go.Proofs.Ytdjhgnpllnmdmaa
open Go.RowKit
attribute [local go_sem] w_storeC r_addD r_subD r_mulD r_divD r_addS r_subS r_mulS r_divS r_wide r_narrow w_store r_neg r_subC r_addC
attribute [local go_sem ↓] Go.wp_at_zero Go.wp_at_succ

theorem CRow.alloc {w : World} {b off : Nat} {l : List (Nat × Nat)} (h : CRow w b off l) (o : Obj) : CRow (w.alloc o) b off l :=
  ⟨by have := h.1; simp; omega, fun i hi => (World.cell?_alloc_lt w o ⟨b, off + i, none⟩ h.1).trans (h.2 i hi)⟩
theorem own_base {w : World} {base base' : Nat} {e : TypeId} {size n : Nat} {v : Value} {xs : List Value} (h : w.ownsRow base e size v n xs) (hb : base' ≤ base) : w.ownsRow base' e size v n xs :=
  ⟨h.1, h.2.imp id (fun ⟨g, cap, cur, a, b, r⟩ => ⟨g, cap, cur, a, Nat.le_trans hb b, r⟩)⟩
theorem Blk.far3 {w : World} {g g' : Nat} {t : TypeId} {cs : Array Value} (h : Blk w g t cs) (hp : g ≠ g') (u v x : Value) : Blk (((w.setCell ⟨g', 0, none⟩ u).setCell ⟨g', 1, none⟩ v).setCell ⟨g', 2, none⟩ x) g t cs :=
  ((h.far hp u).far hp v).far hp x
/-- WHAT A COPY OF A LIST TELLS. -/
def Cloned (e : TypeId) (n : Nat) (xs : List Value) (w : World) (x : Ending) (w' : World) : Prop :=
  ∃ g cap, x = .returned (.slice (some ⟨g, 0, none⟩) n cap) ∧ w'.ownsRow w.heap.size e 1 (.slice (some ⟨g, 0, none⟩) n cap) n xs ∧ Below w.heap.size w w'

set_option maxRecDepth 100000 in
set_option maxHeartbeats 1000000 in
theorem c_CloneC (b n c : Nat) (l : List (Nat × Nat)) (w : World) (hr : CRow w b 0 l) (hn : n = l.length) (h0 : 0 < n) (hm : n ≤ 48) :
    Calls Try.prog 59 #[.slice (some ⟨b, 0, none⟩) n c] w (Cloned 34 n (cvl l) w) := by
  obtain ⟨i0, hi0, hz0, hz1, hz2⟩ := info_parts info_c64
  have he : ∀ wx : World, (binOp .eql 26 (.slice (some ⟨b, 0, none⟩) n c) (.slice none 0 0)).run Try.prog wx = .ok (.bool false) wx := fun wx => Lib.run_eql_slice_nil wx _ _ _ _ _ _ _ Try.underlying26
  have hl1 : Hid ((cvl l).length = n * 1) := by unfold cvl; rw [List.length_map, Nat.mul_one]; exact hn.symm
  have hnews : Hid (∀ (o : Obj) (j : Nat) (u : Value), (cvl l)[j]? = some u → (w.alloc o).cell? ((⟨b, 0, none⟩ : Addr).add j) = some u) := by
    intro o j u hu
    have hj : j < l.length := by
      have := (List.getElem?_eq_some_iff.1 hu).1
      unfold cvl at this; simpa using this
    have h2 := (hr.alloc o).2 j hj
    have hadd : (⟨b, 0, none⟩ : Addr).add j = ⟨b, 0 + j, none⟩ := by unfold Addr.add; split <;> simp_all
    rw [hadd, h2]
    unfold cvl at hu
    rw [List.getElem?_map, List.getElem?_eq_getElem hj] at hu
    rw [List.getD_eq_getElem?_getD, List.getElem?_eq_getElem hj]
    exact hu
  have h1 : Hid (∀ u ∈ cvl l, u.oneCell' = true) := by
    intro u hu
    unfold cvl at hu
    obtain ⟨x, _, rfl⟩ := List.mem_map.1 hu
    rfl
  have hmx : Hid (0 + n ≤ maxLen) := hid (Nat.le_trans (by omega : 0 + n ≤ 1000000) (by decide))
  have hby : Hid ((0 + n) * 8 ≤ 140737488355328) := hid (by omega)
  clear hr hn
  go_enter Try.func59, Try.ntmps59
  go_wp2_with (at_builtin; refine wpList_append_lies _ rfl (.tmp 5) (.tmp 6) _ rfl w.heap.size 34 i0 _ 1 8 Try.underlying26 hi0 hz0 hz1 hz2 rfl Nat.one_pos _ 0 [] (by rfl) (World.ownsRow_lit w #[] 0 (Nat.le_refl _) (Nat.zero_le _) rfl) ⟨b, 0, none⟩ n c (cvl l) (by rfl) hl1.out (hnews.out _) h1.out h0 hmx.out hby.out (by simp) (w.heap.size + 1) (World.size_alloc _ _) ?_; intro g cap w1 hown hgrow hat hlt)
  rw [Nat.zero_add, List.nil_append] at hown
  go_ret
  refine ⟨g, cap, rfl, hown, ?_⟩
  refine ((Below.refl _ w).alloc (Nat.le_refl _) _).grown hgrow (by simp) (fun k hk => ?_)
  simp [Value.ownBlock] at hk
  omega

set_option maxRecDepth 100000 in
set_option maxHeartbeats 1000000 in
theorem c_CloneF (b n c : Nat) (l : List Nat) (w : World) (hr : FRow w b 0 l) (hn : n = l.length) (h0 : 0 < n) (hm : n ≤ 48) :
    Calls Try.prog 60 #[.slice (some ⟨b, 0, none⟩) n c] w (Cloned 25 n (vl l) w) := by
  obtain ⟨i0, hi0, hz0, hz1, hz2⟩ := info_parts info_f32
  have he : ∀ wx : World, (binOp .eql 27 (.slice (some ⟨b, 0, none⟩) n c) (.slice none 0 0)).run Try.prog wx = .ok (.bool false) wx := fun wx => Lib.run_eql_slice_nil wx _ _ _ _ _ _ _ Try.underlying27
  have hl1 : Hid ((vl l).length = n * 1) := by unfold vl; rw [List.length_map, Nat.mul_one]; exact hn.symm
  have hnews : Hid (∀ (o : Obj) (j : Nat) (u : Value), (vl l)[j]? = some u → (w.alloc o).cell? ((⟨b, 0, none⟩ : Addr).add j) = some u) := by
    intro o j u hu
    have hj : j < l.length := by
      have := (List.getElem?_eq_some_iff.1 hu).1
      unfold vl at this; simpa using this
    have h2 := (hr.alloc o).2 j hj
    have hadd : (⟨b, 0, none⟩ : Addr).add j = ⟨b, 0 + j, none⟩ := by unfold Addr.add; split <;> simp_all
    rw [hadd, h2]
    unfold vl at hu
    rw [List.getElem?_map, List.getElem?_eq_getElem hj] at hu
    rw [List.getD_eq_getElem?_getD, List.getElem?_eq_getElem hj]
    exact hu
  have h1 : Hid (∀ u ∈ vl l, u.oneCell' = true) := by
    intro u hu
    unfold vl at hu
    obtain ⟨x, _, rfl⟩ := List.mem_map.1 hu
    rfl
  have hmx : Hid (0 + n ≤ maxLen) := hid (Nat.le_trans (by omega : 0 + n ≤ 1000000) (by decide))
  have hby : Hid ((0 + n) * 4 ≤ 140737488355328) := hid (by omega)
  clear hr hn
  go_enter Try.func60, Try.ntmps60
  go_wp2_with (at_builtin; refine wpList_append_lies _ rfl (.tmp 5) (.tmp 6) _ rfl w.heap.size 25 i0 _ 1 4 Try.underlying27 hi0 hz0 hz1 hz2 rfl Nat.one_pos _ 0 [] (by rfl) (World.ownsRow_lit w #[] 0 (Nat.le_refl _) (Nat.zero_le _) rfl) ⟨b, 0, none⟩ n c (vl l) (by rfl) hl1.out (hnews.out _) h1.out h0 hmx.out hby.out (by simp) (w.heap.size + 1) (World.size_alloc _ _) ?_; intro g cap w1 hown hgrow hat hlt)
  rw [Nat.zero_add, List.nil_append] at hown
  go_ret
  refine ⟨g, cap, rfl, hown, ?_⟩
  refine ((Below.refl _ w).alloc (Nat.le_refl _) _).grown hgrow (by simp) (fun k hk => ?_)
  simp [Value.ownBlock] at hk
  omega

/-- WHAT A COPY OF A SHEET TELLS. -/
def ClonedS (n : Nat) (cl : Bool) (pl : List (Nat × Nat)) (sl : List Nat) (w : World) (x : Ending) (w' : World) : Prop :=
  ∃ gp cp gs cs, x = .returned (.agg #[.slice (some ⟨gp, 0, none⟩) n cp, .slice (some ⟨gs, 0, none⟩) n cs, .bool cl]) ∧ w'.ownsRow w.heap.size 34 1 (.slice (some ⟨gp, 0, none⟩) n cp) n (cvl pl) ∧
    w'.ownsRow w.heap.size 25 1 (.slice (some ⟨gs, 0, none⟩) n cs) n (vl sl) ∧ Below w.heap.size w w'

set_option maxRecDepth 100000 in
set_option maxHeartbeats 4000000 in
theorem c_cloneSheet (pb sb n c c' : Nat) (cl : Bool) (pl : List (Nat × Nat)) (sl : List Nat) (w : World) (h : Sh w pb sb n pl sl) :
    Calls Try.prog 48 #[.agg #[.slice (some ⟨pb, 0, none⟩) n c, .slice (some ⟨sb, 0, none⟩) n c', .bool cl]] w (ClonedS n cl pl sl w) := by
  have HCC := hid (fun (wx : World) (hb : Below w.heap.size w wx) => c_CloneC pb n c pl wx (h.below hb).pts h.np (by have := h.lo; omega) h.hi)
  have HCF := hid (fun (wx : World) (hb : Below w.heap.size w wx) => c_CloneF sb n c' sl wx (h.below hb).sps h.ns (by have := h.lo; omega) h.hi)
  have HN := hid h.lo
  clear h
  go_enter Try.func48, Try.ntmps48
  go_wp2_with fail
  have HW : Hid (Below w.heap.size w ((w.alloc (.cells #[.slice (some ⟨pb, 0, none⟩) n c, .slice (some ⟨sb, 0, none⟩) n c', .bool cl] 29)).alloc (.cells #[.slice none 0 0, .slice none 0 0, .bool false] 29)).drew) := hid (below_drewN ((below_new w _).alloc (by simp) _) 1)
  have HK0 : Hid (Blk ((w.alloc (.cells #[.slice (some ⟨pb, 0, none⟩) n c, .slice (some ⟨sb, 0, none⟩) n c', .bool cl] 29)).alloc (.cells #[.slice none 0 0, .slice none 0 0, .bool false] 29)).drew w.heap.size 29 #[.slice (some ⟨pb, 0, none⟩) n c, .slice (some ⟨sb, 0, none⟩) n c', .bool cl]) := hid ((Blk.new w _ _).alloc _).drew
  have HK1 : Hid (Blk ((w.alloc (.cells #[.slice (some ⟨pb, 0, none⟩) n c, .slice (some ⟨sb, 0, none⟩) n c', .bool cl] 29)).alloc (.cells #[.slice none 0 0, .slice none 0 0, .bool false] 29)).drew (w.heap.size + 1) 29 #[.slice none 0 0, .slice none 0 0, .bool false]) := hid (by
    have h := (Blk.new (w.alloc (.cells #[.slice (some ⟨pb, 0, none⟩) n c, .slice (some ⟨sb, 0, none⟩) n c', .bool cl] 29)) 29 #[.slice none 0 0, .slice none 0 0, .bool false]).drew
    simpa [World.size_alloc] using h)
  generalize ((w.alloc (.cells #[.slice (some ⟨pb, 0, none⟩) n c, .slice (some ⟨sb, 0, none⟩) n c', .bool cl] 29)).alloc (.cells #[.slice none 0 0, .slice none 0 0, .bool false] 29)) = w0 at *
  go_region_held3 (fun w' => w'.cell? ⟨w.heap.size, 0, none⟩ = some (.slice (some ⟨pb, 0, none⟩) n c) ∧ w'.cell? ⟨w.heap.size, 1, none⟩ = some (.slice (some ⟨sb, 0, none⟩) n c') ∧ w'.cell? ⟨w.heap.size, 2, none⟩ = some (.bool cl))
    (first | exact ⟨HK0.out.cell 0, HK0.out.cell 1, HK0.out.cell 2⟩ | exact ⟨(Blk.far3 HK0.out (by simp) _ _ _).cell 0, (Blk.far3 HK0.out (by simp) _ _ _).cell 1, (Blk.far3 HK0.out (by simp) _ _ _).cell 2⟩)
    (first
      | (go_at_call 59
         refine (HCC.out _ HW.out).mono ?_
         rintro e wa ⟨gp, cp, rfl, hop, hbn⟩
         have HK0 := hid (HK0.out.below' hbn)
         have HK1 := hid (HK1.out.below' hbn)
         have HOP := hid (own_base hop HW.out.size)
         have HW := hid (HW.out.trans (hbn.mono HW.out.size))
         clear hop hbn)
      | (go_at_call 60
         refine (HCF.out _ HW.out).mono ?_
         rintro e wb ⟨gs, cs, rfl, hos, hbn⟩
         have HK0 := hid (HK0.out.below' hbn)
         have HK1 := hid (HK1.out.below' hbn)
         have HOS := hid (own_base hos HW.out.size)
         have HOP := hid (own_below HOP.out hbn)
         have HW := hid (HW.out.trans (hbn.mono HW.out.size))
         have e0 : wb.cell? ⟨w.heap.size + 1, 0, none⟩ = some (.slice none 0 0) := HK1.out.cell 0
         have e1 : wb.cell? ⟨w.heap.size + 1, 1, none⟩ = some (.slice none 0 0) := HK1.out.cell 1
         have e2 : wb.cell? ⟨w.heap.size + 1, 2, none⟩ = some (.bool false) := HK1.out.cell 2
         have f0 := HK1.out.frozen 0
         have f1 := HK1.out.frozen 1
         have f2 := HK1.out.frozen 2
         clear hos hbn))
  all_goals
    go_wp2
    have hn := HN.out
    have n1 : (Value.slice (some ⟨gp, 0, none⟩) n cp).ownBlock ≠ some (w.heap.size + 1) := own_blk_ne HOP.out HK1.out (by decide)
    have n2 : (Value.slice (some ⟨gs, 0, none⟩) n cs).ownBlock ≠ some (w.heap.size + 1) := own_blk_ne HOS.out HK1.out (by decide)
    refine bodyPost_ret (v := .agg #[.slice (some ⟨gp, 0, none⟩) n cp, .slice (some ⟨gs, 0, none⟩) n cs, .bool cl]) (by simp [results, Try.results48, go_sem, e0, e1, e2]) rfl ?_
    exact ⟨gp, cp, gs, cs, rfl, own_setCell (own_setCell (own_setCell HOP.out n1 _) n1 _) n1 _, own_setCell (own_setCell (own_setCell HOS.out n2 _) n2 _) n2 _, ((HW.out.setCell (show w.heap.size ≤ w.heap.size + 1 by omega) _).setCell (show w.heap.size ≤ w.heap.size + 1 by omega) _).setCell (show w.heap.size ≤ w.heap.size + 1 by omega) _⟩
end Go.Proofs.Ytdjhgnpllnmdmaa
