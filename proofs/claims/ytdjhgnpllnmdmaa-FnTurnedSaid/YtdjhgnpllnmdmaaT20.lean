/- Turned: sheets that are changed. -/
import Derived.Test.YtdjhgnpllnmdmaaT19
set_option linter.unusedVariables false
set_option linter.unusedSectionVars false
set_option linter.unusedSimpArgs false
namespace Go.Proofs.Ytdjhgnpllnmdmaa
open Go.RowKit
attribute [local go_sem] w_storeC r_addD r_subD r_mulD r_divD r_addS r_subS r_mulS r_divS r_wide r_narrow w_store r_neg r_subC r_addC
attribute [local go_sem ↓] Go.wp_at_zero Go.wp_at_succ

/-- WHAT A CHANGE OF A SHEET TELLS: its two rows, and nothing else has changed. -/
def Did (base gp cp gs cs n : Nat) (pl : List (Nat × Nat)) (sl : List Nat) (wx : World) (e : Ending) (w' : World) : Prop :=
  e = .returned (.bool true) ∧ w'.ownsRow base 34 1 (.slice (some ⟨gp, 0, none⟩) n cp) n (cvl pl) ∧ w'.ownsRow base 25 1 (.slice (some ⟨gs, 0, none⟩) n cs) n (vl sl) ∧
  ∃ w2, wx.grownBy w2 (some gp) ∧ w2.grownBy w' (some gs)
theorem blk_two {wx w2 w' : World} {g gp gs : Nat} {t : TypeId} {cs : Array Value} (h : Blk wx g t cs) (h1 : wx.grownBy w2 (some gp)) (h2 : w2.grownBy w' (some gs)) (n1 : g ≠ gp) (n2 : g ≠ gs) : Blk w' g t cs :=
  (h.grown h1 (fun e => n1 (Option.some.inj e))).grown h2 (fun e => n2 (Option.some.inj e))
theorem below_two {w wx w2 w' : World} {B gp gs : Nat} (h : Below B w wx) (h1 : wx.grownBy w2 (some gp)) (h2 : w2.grownBy w' (some gs)) (hB : B ≤ wx.heap.size) (n1 : B ≤ gp) (n2 : B ≤ gs) : Below B w w' :=
  (h.grown h1 hB (fun j hj => (Option.some.inj hj) ▸ n1)).grown h2 (Nat.le_trans hB h1.size) (fun j hj => (Option.some.inj hj) ▸ n2)
theorem sh_of_own {w : World} {base gp cp gs cs n : Nat} {pl : List (Nat × Nat)} {sl : List Nat} (h1 : w.ownsRow base 34 1 (.slice (some ⟨gp, 0, none⟩) n cp) n (cvl pl)) (h2 : w.ownsRow base 25 1 (.slice (some ⟨gs, 0, none⟩) n cs) n (vl sl))
    (lo : 2 ≤ n) (hi : n ≤ 48) (fp : FinC pl) (fs : FinL sl) : Sh w gp gs n pl sl := by
  have e1 : n = pl.length := by have := h1.1; simpa [cvl] using this.symm
  have e2 : n = sl.length := by have := h2.1; simpa [vl] using this.symm
  exact ⟨crow_of_own h1 e1 (h1.lt gp rfl).2, frow_of_own h2 e2 (h2.lt gs rfl).2, e1, e2, lo, hi, fp, fs⟩

set_option maxRecDepth 100000 in
set_option maxHeartbeats 4000000 in
theorem c_changedB  (pb sb n c c' : Nat) (cl : Bool) (pl pl' : List (Nat × Nat)) (sl sl' : List Nat) (w : World) (h : Sh w pb sb n pl sl) (fp : FinC pl') (fs : FinL sl')
    (hd : ∀ (wx : World) (g gp cp gs cs : Nat), Below w.heap.size w wx → Blk wx g 29 #[.slice (some ⟨gp, 0, none⟩) n cp, .slice (some ⟨gs, 0, none⟩) n cs, .bool cl] → wx.ownsRow w.heap.size 34 1 (.slice (some ⟨gp, 0, none⟩) n cp) n (cvl pl) →
      wx.ownsRow w.heap.size 25 1 (.slice (some ⟨gs, 0, none⟩) n cs) n (vl sl) → Calls Try.prog 29 #[.pointer (some ⟨g, 0, none⟩)] wx (Did w.heap.size gp cp gs cs n pl' sl' wx)) :
    Calls Try.prog 28 #[.agg #[.slice (some ⟨pb, 0, none⟩) n c, .slice (some ⟨sb, 0, none⟩) n c', .bool cl], .func (.func 29) #[] #[]] w (MadeSh n cl pl' sl' w) := by
  have eg := enters_fn Try.func29 (by kernel_rfl) rfl
  have HD := hid hd
  have h2 := h.lo
  have h48 := h.hi
  have HFP := hid fp
  have HFS := hid fs
  have HV := hid (fun (wx : World) (hb : Below w.heap.size w wx) => c_ValidSheet pb sb n c c' cl pl sl wx (h.below hb))
  have HC := hid (fun (wx : World) (hb : Below w.heap.size w wx) => c_cloneSheet pb sb n c c' cl pl sl wx (h.below hb))
  clear hd h fp fs
  go_enter Try.func28, Try.ntmps28
  go_wp2_with fail
  have HW : Hid (Below w.heap.size w ((w.alloc (.cells #[.slice (some ⟨pb, 0, none⟩) n c, .slice (some ⟨sb, 0, none⟩) n c', .bool cl] 29)).alloc (.cells #[.slice none 0 0, .slice none 0 0, .bool false] 29))) := hid ((below_new w _).alloc (by simp) _)
  refine (HV.out _ HW.out).mono ?_
  rintro e w1 ⟨rfl, hb1⟩
  obtain ⟨q0, q1, qs, hbel⟩ := blocks2 hb1
  have d0 : w1.cell? ⟨w.heap.size, 0, none⟩ = some (.slice (some ⟨pb, 0, none⟩) n c) := q0.cell 0
  have d1 : w1.cell? ⟨w.heap.size, 1, none⟩ = some (.slice (some ⟨sb, 0, none⟩) n c') := q0.cell 1
  have d2 : w1.cell? ⟨w.heap.size, 2, none⟩ = some (.bool cl) := q0.cell 2
  have HQ1 := hid q1
  have HB := hid hbel
  clear hb1 q0 q1 hbel HW HV
  go_wp2_with fail
  refine (HC.out _ HB.out).mono ?_
  rintro e w2 ⟨gp, cp, gs, cs, rfl, hop, hos, hb2⟩
  have HQ2 := hid (HQ1.out.below' hb2)
  have HOP := hid (own_base hop HB.out.size)
  have HOS := hid (own_base hos HB.out.size)
  have HB2 := hid (HB.out.trans (hb2.mono HB.out.size))
  have qs2 : w.heap.size + 1 < w2.heap.size := Nat.lt_of_lt_of_le qs hb2.size
  clear hop hos hb2 d0 d1 d2 qs HQ1 HB HC
  go_wp2_with fail
  have hK := Blk.new w2 29 #[.slice (some ⟨gp, 0, none⟩) n cp, .slice (some ⟨gs, 0, none⟩) n cs, .bool cl]
  have hQ := HQ2.out.alloc (.cells #[.slice (some ⟨gp, 0, none⟩) n cp, .slice (some ⟨gs, 0, none⟩) n cs, .bool cl] 29)
  have hop := HOP.out.alloc (.cells #[.slice (some ⟨gp, 0, none⟩) n cp, .slice (some ⟨gs, 0, none⟩) n cs, .bool cl] 29)
  have hos := HOS.out.alloc (.cells #[.slice (some ⟨gp, 0, none⟩) n cp, .slice (some ⟨gs, 0, none⟩) n cs, .bool cl] 29)
  have hbw := HB2.out.alloc HB2.out.size (.cells #[.slice (some ⟨gp, 0, none⟩) n cp, .slice (some ⟨gs, 0, none⟩) n cs, .bool cl] 29)
  clear HQ2 HOP HOS HB2
  obtain ⟨w3, hw3⟩ : ∃ w3, w3 = (w2.alloc (.cells #[.slice (some ⟨gp, 0, none⟩) n cp, .slice (some ⟨gs, 0, none⟩) n cs, .bool cl] 29)) := ⟨_, rfl⟩
  rw [← hw3] at hK hQ hop hos hbw ⊢
  clear hw3
  generalize w2.heap.size = g at *
  have HK := hid hK
  have HQ := hid hQ
  have HOP := hid hop
  have HOS := hid hos
  have HB := hid hbw
  have HDD := hid (HD.out w3 g gp cp gs cs hbw hK hop hos)
  clear hK hQ hop hos hbw HD
  go_wp2_with fail
  refine HDD.out.mono ?_
  rintro e w4 ⟨rfl, hop, hos, w5, hg1, hg2⟩
  have k1 : g ≠ gp := fun e => own_blk_ne HOP.out HK.out (by decide) (by rw [e]; rfl)
  have k2 : g ≠ gs := fun e => own_blk_ne HOS.out HK.out (by decide) (by rw [e]; rfl)
  have k3 : w.heap.size + 1 ≠ gp := fun e => own_blk_ne HOP.out HQ.out (by decide) (by rw [e]; rfl)
  have k4 : w.heap.size + 1 ≠ gs := fun e => own_blk_ne HOS.out HQ.out (by decide) (by rw [e]; rfl)
  have hK := blk_two HK.out hg1 hg2 k1 k2
  have hQ := blk_two HQ.out hg1 hg2 k3 k4
  have HB4 := hid (below_two HB.out hg1 hg2 HB.out.size (hop.lt gp rfl).1 (hos.lt gs rfl).1)
  have HSH := hid (sh_of_own hop hos h2 h48 HFP.out HFS.out)
  have HT := hid (c_toldSheet gp gs n cp cs cl pl' sl' w4 HSH.out)
  have d0 : w4.cell? ⟨g, 0, none⟩ = some (.slice (some ⟨gp, 0, none⟩) n cp) := hK.cell 0
  have d1 : w4.cell? ⟨g, 1, none⟩ = some (.slice (some ⟨gs, 0, none⟩) n cs) := hK.cell 1
  have d2 : w4.cell? ⟨g, 2, none⟩ = some (.bool cl) := hK.cell 2
  have HQ4 := hid hQ
  have HN1 := hid k3
  have HN2 := hid k4
  clear hop hos hg1 hg2 hK hQ HK HQ HOP HOS HB k1 k2 k3 k4
  go_wp2_with fail
  refine HT.out.mono ?_
  rintro e w6 ⟨rfl, hb6⟩
  have hQ := HQ4.out.below' hb6
  have e0 : w6.cell? ⟨w.heap.size + 1, 0, none⟩ = some (.slice none 0 0) := hQ.cell 0
  have e1 : w6.cell? ⟨w.heap.size + 1, 1, none⟩ = some (.slice none 0 0) := hQ.cell 1
  have e2 : w6.cell? ⟨w.heap.size + 1, 2, none⟩ = some (.bool false) := hQ.cell 2
  have f0 := hQ.frozen 0
  have f1 := hQ.frozen 1
  have f2 := hQ.frozen 2
  have HSH6 := hid (HSH.out.below hb6)
  have HB6 := hid (HB4.out.trans (hb6.mono HB4.out.size))
  clear hb6 hQ d0 d1 d2 HT
  go_wp2_with fail
  refine bodyPost_ret (v := .tuple #[.agg #[.slice (some ⟨gp, 0, none⟩) n cp, .slice (some ⟨gs, 0, none⟩) n cs, .bool cl], .bool true]) (by simp [results, Try.results28, go_sem, e0, e1, e2]) rfl ?_
  exact ⟨gp, cp, gs, cs, rfl, ((HSH6.out.setCell (Ne.symm HN1.out) (Ne.symm HN2.out) _).setCell (Ne.symm HN1.out) (Ne.symm HN2.out) _).setCell (Ne.symm HN1.out) (Ne.symm HN2.out) _, ((HB6.out.setCell (show w.heap.size ≤ w.heap.size + 1 by omega) _).setCell (show w.heap.size ≤ w.heap.size + 1 by omega) _).setCell (show w.heap.size ≤ w.heap.size + 1 by omega) _⟩

set_option maxRecDepth 100000 in
set_option maxHeartbeats 4000000 in
theorem c_changedW (g1 g2 : Nat) (pb sb n c c' : Nat) (cl : Bool) (pl pl' : List (Nat × Nat)) (sl sl' : List Nat) (w : World) (h : Sh w pb sb n pl sl) (fp : FinC pl') (fs : FinL sl')
    (hd : ∀ (wx : World) (g gp cp gs cs : Nat), Below w.heap.size w wx → Blk wx g 29 #[.slice (some ⟨gp, 0, none⟩) n cp, .slice (some ⟨gs, 0, none⟩) n cs, .bool cl] → wx.ownsRow w.heap.size 34 1 (.slice (some ⟨gp, 0, none⟩) n cp) n (cvl pl) →
      wx.ownsRow w.heap.size 25 1 (.slice (some ⟨gs, 0, none⟩) n cs) n (vl sl) → Calls Try.prog 33 #[.pointer (some ⟨g, 0, none⟩), .pointer (some ⟨g1, 0, none⟩), .pointer (some ⟨g2, 0, none⟩)] wx (Did w.heap.size gp cp gs cs n pl' sl' wx)) :
    Calls Try.prog 28 #[.agg #[.slice (some ⟨pb, 0, none⟩) n c, .slice (some ⟨sb, 0, none⟩) n c', .bool cl], .func (.func 33) #[] #[.pointer (some ⟨g1, 0, none⟩), .pointer (some ⟨g2, 0, none⟩)]] w (MadeSh n cl pl' sl' w) := by
  have eg := enters_fn Try.func33 (by kernel_rfl) rfl
  have HD := hid hd
  have h2 := h.lo
  have h48 := h.hi
  have HFP := hid fp
  have HFS := hid fs
  have HV := hid (fun (wx : World) (hb : Below w.heap.size w wx) => c_ValidSheet pb sb n c c' cl pl sl wx (h.below hb))
  have HC := hid (fun (wx : World) (hb : Below w.heap.size w wx) => c_cloneSheet pb sb n c c' cl pl sl wx (h.below hb))
  clear hd h fp fs
  go_enter Try.func28, Try.ntmps28
  go_wp2_with fail
  have HW : Hid (Below w.heap.size w ((w.alloc (.cells #[.slice (some ⟨pb, 0, none⟩) n c, .slice (some ⟨sb, 0, none⟩) n c', .bool cl] 29)).alloc (.cells #[.slice none 0 0, .slice none 0 0, .bool false] 29))) := hid ((below_new w _).alloc (by simp) _)
  refine (HV.out _ HW.out).mono ?_
  rintro e w1 ⟨rfl, hb1⟩
  obtain ⟨q0, q1, qs, hbel⟩ := blocks2 hb1
  have d0 : w1.cell? ⟨w.heap.size, 0, none⟩ = some (.slice (some ⟨pb, 0, none⟩) n c) := q0.cell 0
  have d1 : w1.cell? ⟨w.heap.size, 1, none⟩ = some (.slice (some ⟨sb, 0, none⟩) n c') := q0.cell 1
  have d2 : w1.cell? ⟨w.heap.size, 2, none⟩ = some (.bool cl) := q0.cell 2
  have HQ1 := hid q1
  have HB := hid hbel
  clear hb1 q0 q1 hbel HW HV
  go_wp2_with fail
  refine (HC.out _ HB.out).mono ?_
  rintro e w2 ⟨gp, cp, gs, cs, rfl, hop, hos, hb2⟩
  have HQ2 := hid (HQ1.out.below' hb2)
  have HOP := hid (own_base hop HB.out.size)
  have HOS := hid (own_base hos HB.out.size)
  have HB2 := hid (HB.out.trans (hb2.mono HB.out.size))
  have qs2 : w.heap.size + 1 < w2.heap.size := Nat.lt_of_lt_of_le qs hb2.size
  clear hop hos hb2 d0 d1 d2 qs HQ1 HB HC
  go_wp2_with fail
  have hK := Blk.new w2 29 #[.slice (some ⟨gp, 0, none⟩) n cp, .slice (some ⟨gs, 0, none⟩) n cs, .bool cl]
  have hQ := HQ2.out.alloc (.cells #[.slice (some ⟨gp, 0, none⟩) n cp, .slice (some ⟨gs, 0, none⟩) n cs, .bool cl] 29)
  have hop := HOP.out.alloc (.cells #[.slice (some ⟨gp, 0, none⟩) n cp, .slice (some ⟨gs, 0, none⟩) n cs, .bool cl] 29)
  have hos := HOS.out.alloc (.cells #[.slice (some ⟨gp, 0, none⟩) n cp, .slice (some ⟨gs, 0, none⟩) n cs, .bool cl] 29)
  have hbw := HB2.out.alloc HB2.out.size (.cells #[.slice (some ⟨gp, 0, none⟩) n cp, .slice (some ⟨gs, 0, none⟩) n cs, .bool cl] 29)
  clear HQ2 HOP HOS HB2
  obtain ⟨w3, hw3⟩ : ∃ w3, w3 = (w2.alloc (.cells #[.slice (some ⟨gp, 0, none⟩) n cp, .slice (some ⟨gs, 0, none⟩) n cs, .bool cl] 29)) := ⟨_, rfl⟩
  rw [← hw3] at hK hQ hop hos hbw ⊢
  clear hw3
  generalize w2.heap.size = g at *
  have HK := hid hK
  have HQ := hid hQ
  have HOP := hid hop
  have HOS := hid hos
  have HB := hid hbw
  have HDD := hid (HD.out w3 g gp cp gs cs hbw hK hop hos)
  clear hK hQ hop hos hbw HD
  go_wp2_with fail
  refine HDD.out.mono ?_
  rintro e w4 ⟨rfl, hop, hos, w5, hg1, hg2⟩
  have k1 : g ≠ gp := fun e => own_blk_ne HOP.out HK.out (by decide) (by rw [e]; rfl)
  have k2 : g ≠ gs := fun e => own_blk_ne HOS.out HK.out (by decide) (by rw [e]; rfl)
  have k3 : w.heap.size + 1 ≠ gp := fun e => own_blk_ne HOP.out HQ.out (by decide) (by rw [e]; rfl)
  have k4 : w.heap.size + 1 ≠ gs := fun e => own_blk_ne HOS.out HQ.out (by decide) (by rw [e]; rfl)
  have hK := blk_two HK.out hg1 hg2 k1 k2
  have hQ := blk_two HQ.out hg1 hg2 k3 k4
  have HB4 := hid (below_two HB.out hg1 hg2 HB.out.size (hop.lt gp rfl).1 (hos.lt gs rfl).1)
  have HSH := hid (sh_of_own hop hos h2 h48 HFP.out HFS.out)
  have HT := hid (c_toldSheet gp gs n cp cs cl pl' sl' w4 HSH.out)
  have d0 : w4.cell? ⟨g, 0, none⟩ = some (.slice (some ⟨gp, 0, none⟩) n cp) := hK.cell 0
  have d1 : w4.cell? ⟨g, 1, none⟩ = some (.slice (some ⟨gs, 0, none⟩) n cs) := hK.cell 1
  have d2 : w4.cell? ⟨g, 2, none⟩ = some (.bool cl) := hK.cell 2
  have HQ4 := hid hQ
  have HN1 := hid k3
  have HN2 := hid k4
  clear hop hos hg1 hg2 hK hQ HK HQ HOP HOS HB k1 k2 k3 k4
  go_wp2_with fail
  refine HT.out.mono ?_
  rintro e w6 ⟨rfl, hb6⟩
  have hQ := HQ4.out.below' hb6
  have e0 : w6.cell? ⟨w.heap.size + 1, 0, none⟩ = some (.slice none 0 0) := hQ.cell 0
  have e1 : w6.cell? ⟨w.heap.size + 1, 1, none⟩ = some (.slice none 0 0) := hQ.cell 1
  have e2 : w6.cell? ⟨w.heap.size + 1, 2, none⟩ = some (.bool false) := hQ.cell 2
  have f0 := hQ.frozen 0
  have f1 := hQ.frozen 1
  have f2 := hQ.frozen 2
  have HSH6 := hid (HSH.out.below hb6)
  have HB6 := hid (HB4.out.trans (hb6.mono HB4.out.size))
  clear hb6 hQ d0 d1 d2 HT
  go_wp2_with fail
  refine bodyPost_ret (v := .tuple #[.agg #[.slice (some ⟨gp, 0, none⟩) n cp, .slice (some ⟨gs, 0, none⟩) n cs, .bool cl], .bool true]) (by simp [results, Try.results28, go_sem, e0, e1, e2]) rfl ?_
  exact ⟨gp, cp, gs, cs, rfl, ((HSH6.out.setCell (Ne.symm HN1.out) (Ne.symm HN2.out) _).setCell (Ne.symm HN1.out) (Ne.symm HN2.out) _).setCell (Ne.symm HN1.out) (Ne.symm HN2.out) _, ((HB6.out.setCell (show w.heap.size ≤ w.heap.size + 1 by omega) _).setCell (show w.heap.size ≤ w.heap.size + 1 by omega) _).setCell (show w.heap.size ≤ w.heap.size + 1 by omega) _⟩
end Go.Proofs.Ytdjhgnpllnmdmaa
