/- Turned: sheets that are turned back; waves. -/
import Derived.Test.YtdjhgnpllnmdmaaT20
set_option linter.unusedVariables false
set_option linter.unusedSectionVars false
set_option linter.unusedSimpArgs false
namespace Go.Proofs.Ytdjhgnpllnmdmaa
open Go.RowKit
attribute [local go_sem] w_storeC r_addD r_subD r_mulD r_divD r_addS r_subS r_mulS r_divS r_wide r_narrow w_store r_neg r_subC r_addC
attribute [local go_sem ↓] Go.wp_at_zero Go.wp_at_succ

theorem sh_ne {w : World} {pb sb n g : Nat} {pl : List (Nat × Nat)} {sl : List Nat} {t : TypeId} (h : Sh w pb sb n pl sl) (hB : Blk w g t #[.slice none 0 0, .slice none 0 0, .bool false]) : pb ≠ g ∧ sb ≠ g := by
  have hlo := h.lo
  constructor
  · rintro rfl
    have h1 := h.pts.2 0 (by have := h.np; omega)
    rw [hB.cell] at h1
    simp at h1
  · rintro rfl
    have h1 := h.sps.2 0 (by have := h.ns; omega)
    rw [hB.cell] at h1
    simp at h1
theorem own_own_ne {w : World} {base base' g g' n n' cap cap' : Nat} {e e' : TypeId} {xs xs' : List Value} (h : w.ownsRow base e 1 (.slice (some ⟨g, 0, none⟩) n cap) n xs) (h' : w.ownsRow base' e' 1 (.slice (some ⟨g', 0, none⟩) n' cap') n' xs') (hne : e ≠ e') : g ≠ g' := by
  rcases h'.2 with ⟨h0, _⟩ | ⟨g2, cap2, cur, h0, _, hh, _⟩
  · cases h0
  · rintro rfl
    exact own_blk_ne (cs := cur) (t := e') h hh hne (by injection h0 with h1 _ _; injection h1 with h1; injection h1 with h1 _ _; rw [← h1]; rfl)
set_option maxHeartbeats 4000000 in
theorem c_back1 (base n : Nat) (cl : Bool) (pl : List (Nat × Nat)) (sl : List Nat) (h2 : 2 ≤ n) (h48 : n ≤ 48) (wx : World) (g gp cp gs cs : Nat)
    (hK : Blk wx g 29 #[.slice (some ⟨gp, 0, none⟩) n cp, .slice (some ⟨gs, 0, none⟩) n cs, .bool cl]) (hop : wx.ownsRow base 34 1 (.slice (some ⟨gp, 0, none⟩) n cp) n (cvl pl))
    (hos : wx.ownsRow base 25 1 (.slice (some ⟨gs, 0, none⟩) n cs) n (vl sl)) :
    Calls Try.prog 29 #[.pointer (some ⟨g, 0, none⟩)] wx (Did base gp cp gs cs n (revF (0, 0) n (n / 2) pl) (revF 0 n (n / 2) sl) wx) := by
  have HRP := hid (c_ReverseC base gp n cp pl wx h48 h2 hop)
  have HRS := hid (fun (wy : World) h => c_ReverseF base gs n cs sl wy h48 h2 h)
  have d0 : wx.cell? ⟨g, 0, none⟩ = some (.slice (some ⟨gp, 0, none⟩) n cp) := hK.cell 0
  have HK := hid hK
  have HOP := hid hop
  have HOS := hid hos
  clear hK hop hos
  go_enter Try.func29, Try.ntmps29
  go_wp2_with fail
  refine HRP.out.mono ?_
  rintro e w1 ⟨rfl, hop, hg1⟩
  have k1 : g ≠ gp := fun e => own_blk_ne HOP.out HK.out (by decide) (by rw [e]; rfl)
  have hK := HK.out.grown hg1 (fun e => k1 (Option.some.inj e))
  have d1 : w1.cell? ⟨g, 1, none⟩ = some (.slice (some ⟨gs, 0, none⟩) n cs) := hK.cell 1
  have HNE : Hid (gs ≠ gp) := hid (own_own_ne HOS.out HOP.out (by decide))
  have hos := HOS.out.kept hg1 (.inr (fun e => HNE.out (Option.some.inj e)))
  have HRS1 := hid (HRS.out w1 hos)
  have HOP1 := hid hop
  have HG1 := hid hg1
  clear hK hop hos hg1 k1 HRP HRS d0
  go_wp2_with fail
  refine HRS1.out.mono ?_
  rintro e w2 ⟨rfl, hos, hg2⟩
  have HOP2 := hid (HOP1.out.kept hg2 (.inr (fun e => HNE.out (Option.some.inj e).symm)))
  have HOS2 := hid hos
  have HG2 := hid hg2
  clear hos hg2 d1 HRS1
  go_wp2_with fail
  go_ret
  exact ⟨rfl, HOP2.out, HOS2.out, w1, HG1.out, HG2.out⟩

set_option maxHeartbeats 4000000 in
theorem c_BackSheet (pb sb n c c' : Nat) (cl : Bool) (pl : List (Nat × Nat)) (sl : List Nat) (w : World) (h : Sh w pb sb n pl sl) (fp : FinC (revF (0, 0) n (n / 2) pl)) (fs : FinL (revF 0 n (n / 2) sl)) :
    Calls Try.prog 9 #[.agg #[.slice (some ⟨pb, 0, none⟩) n c, .slice (some ⟨sb, 0, none⟩) n c', .bool cl]] w (MadeSh n cl (revF (0, 0) n (n / 2) pl) (revF 0 n (n / 2) sl) w) := by
  have HC := hid (fun (wx : World) (hb : Below w.heap.size w wx) => c_changedB pb sb n c c' cl pl (revF (0, 0) n (n / 2) pl) sl (revF 0 n (n / 2) sl) wx (h.below hb) fp fs (fun wy g gp cp gs cs _ hK hop hos => c_back1 wx.heap.size n cl pl sl h.lo h.hi wy g gp cp gs cs hK hop hos))
  clear h fp fs
  go_enter Try.func9, Try.ntmps9
  go_wp2_with fail
  have HW : Hid (Below w.heap.size w ((w.alloc (.cells #[.slice (some ⟨pb, 0, none⟩) n c, .slice (some ⟨sb, 0, none⟩) n c', .bool cl] 29)).alloc (.cells #[.slice none 0 0, .slice none 0 0, .bool false] 29))) := hid ((below_new w _).alloc (by simp) _)
  refine (HC.out _ HW.out).mono ?_
  rintro e w1 ⟨gp, cp, gs, cs, rfl, hsh, hb1⟩
  obtain ⟨q0, q1, qs, hbel⟩ := blocks2 hb1
  obtain ⟨k1, k2⟩ := sh_ne hsh q1
  have e0 : w1.cell? ⟨w.heap.size + 1, 0, none⟩ = some (.slice none 0 0) := q1.cell 0
  have e1 : w1.cell? ⟨w.heap.size + 1, 1, none⟩ = some (.slice none 0 0) := q1.cell 1
  have e2 : w1.cell? ⟨w.heap.size + 1, 2, none⟩ = some (.bool false) := q1.cell 2
  have f0 := q1.frozen 0
  have f1 := q1.frozen 1
  have f2 := q1.frozen 2
  have HSH := hid hsh
  have HB := hid hbel
  have HN1 := hid k1
  have HN2 := hid k2
  clear hb1 q0 q1 hbel hsh qs HC HW k1 k2
  go_wp2_with fail
  refine bodyPost_ret (v := .tuple #[.agg #[.slice (some ⟨gp, 0, none⟩) n cp, .slice (some ⟨gs, 0, none⟩) n cs, .bool cl], .bool true]) (by simp [results, Try.results9, go_sem, e0, e1, e2]) rfl ?_
  exact ⟨gp, cp, gs, cs, rfl, ((HSH.out.setCell HN1.out HN2.out _).setCell HN1.out HN2.out _).setCell HN1.out HN2.out _, ((HB.out.setCell (show w.heap.size ≤ w.heap.size + 1 by omega) _).setCell (show w.heap.size ≤ w.heap.size + 1 by omega) _).setCell (show w.heap.size ≤ w.heap.size + 1 by omega) _⟩

/-- the point p of a wave, the i-th of n -/
def waveO (t s n i : Nat) (p : Nat × Nat) : Option (Nat × Nat) :=
  (Q.divS (Q.ofNatS i) (Q.ofNatS n)).bind fun sh => (Q.mulS t sh).bind fun a => (sineTurnsO a).bind fun b => (Q.mulS s b).bind fun z =>
  (Q.addS p.1 0).bind fun x => (Q.addS p.2 z).bind fun y => some (x, y)
def waveF (t s n : Nat) : Nat → List (Nat × Nat) → Option (List (Nat × Nat))
  | 0, l => some l
  | j + 1, l => (waveO t s n (n - (j + 1)) (l.getD (n - (j + 1)) (0, 0))).bind fun q => waveF t s n j (l.set (n - (j + 1)) q)
theorem waveF_step (t s n j i : Nat) (l : List (Nat × Nat)) (hj : 1 ≤ j) (hi : j + i = n) : waveF t s n j l = (waveO t s n i (l.getD i (0, 0))).bind fun q => waveF t s n (j - 1) (l.set i q) := by
  obtain ⟨k, rfl⟩ : ∃ k, j = k + 1 := ⟨j - 1, by omega⟩
  have : n - (k + 1) = i := by omega
  show (waveO t s n (n - (k + 1)) (l.getD (n - (k + 1)) (0, 0))).bind _ = _
  rw [this]
  rfl

set_option maxHeartbeats 4000000 in
theorem c_wave1 (base n t s g1 g2 : Nat) (cl : Bool) (pl pl' : List (Nat × Nat)) (sl : List Nat) (h2 : 2 ≤ n) (h48 : n ≤ 48) (wx : World) (g gp cp gs cs : Nat) (hw : waveF t s n n pl = some pl') (ht : finS t = true) (hs : finS s = true)
    (hG1 : Blk wx g1 25 #[.float .f32 s]) (hG2 : Blk wx g2 25 #[.float .f32 t])
    (hK : Blk wx g 29 #[.slice (some ⟨gp, 0, none⟩) n cp, .slice (some ⟨gs, 0, none⟩) n cs, .bool cl]) (hop : wx.ownsRow base 34 1 (.slice (some ⟨gp, 0, none⟩) n cp) n (cvl pl))
    (hos : wx.ownsRow base 25 1 (.slice (some ⟨gs, 0, none⟩) n cs) n (vl sl)) :
    Calls Try.prog 33 #[.pointer (some ⟨g, 0, none⟩), .pointer (some ⟨g1, 0, none⟩), .pointer (some ⟨g2, 0, none⟩)] wx (Did base gp cp gs cs n pl' sl wx) := by
  have d0 : wx.cell? ⟨g, 0, none⟩ = some (.slice (some ⟨gp, 0, none⟩) n cp) := hK.cell 0
  have HK := hid hK
  have HG1 := hid hG1
  have HG2 := hid hG2
  have HOP := hid hop
  have HOS := hid hos
  have HWV := hid hw
  have n0 : g ≠ gp := fun e => own_blk_ne hop hK (by decide) (by rw [e]; rfl)
  have n1 : g1 ≠ gp := fun e => own_blk_ne hop hG1 (by decide) (by rw [e]; rfl)
  have n2 : g2 ≠ gp := fun e => own_blk_ne hop hG2 (by decide) (by rw [e]; rfl)
  have HNE : Hid (gs ≠ gp) := hid (own_own_ne hos hop (by decide))
  have HFI := hid (fun (wy : World) => c_finite wy.heap.size 0 2 2 [t, s] _ (frow_two wy t s) rfl (by omega) (finL_two ht hs))
  clear hK hG1 hG2 hop hos hw ht hs
  go_enter Try.func33, Try.ntmps33
  go_wp2_with fail
  clear d0
  go_loopw [12] (fun a wr => ∃ (i j : Nat) (lk : List (Nat × Nat)), j + i = n ∧ a = .int .i64 i ∧ waveF t s n j lk = some pl' ∧ wr.ownsRow base 34 1 (.slice (some ⟨gp, 0, none⟩) n cp) n (cvl lk) ∧ wx.grownBy wr (some gp)) (fun a _ => n - (intOf a).toNat)
  case atStart => exact ⟨0, n, pl, rfl, rfl, HWV.out, HOP.out, only_refl _ _⟩
  case round =>
    clear HOP HWV
    obtain ⟨i, j, lk, hij, rfl, hl, hown, hg⟩ := hrel
    have HK1 := hid (HK.out.grown hg (fun e => n0 (Option.some.inj e)))
    have HA := hid (HG1.out.grown hg (fun e => n1 (Option.some.inj e)))
    have HB := hid (HG2.out.grown hg (fun e => n2 (Option.some.inj e)))
    by_cases hj : 1 ≤ j
    · rw [waveF_step _ _ _ _ _ _ hj hij] at hl
      obtain ⟨q, hq, hl2⟩ := bind_some hl
      have HL := hid hl2
      have d0 : wr.cell? ⟨g, 0, none⟩ = some (.slice (some ⟨gp, 0, none⟩) n cp) := HK1.out.cell 0
      have d1 := cvl_cell hown i (by omega)
      have f1 := hown.frozenAt i
      have HOW := hid ((hown.stored i (.complex .f32 q.1 q.2)).1)
      have HG := hid (only_setCell (only_drewN hg 1) (p := ⟨gp, i, none⟩) (.inl rfl) (.complex .f32 q.1 q.2))
      have hin : (i : Int) < (n : Int) := by omega
      have hi0 : (0 : Int) ≤ (i : Int) := by omega
      have hf1 := ofNatS_f i
      have hf2 := ofNatS_f n
      clear hl hl2 hown hg
      generalize lk.getD i (0, 0) = p at *
      unfold waveO at hq
      obtain ⟨sh, h1, hq1⟩ := bind_some hq
      obtain ⟨a, ha, hq2⟩ := bind_some hq1
      obtain ⟨b, hb, hq3⟩ := bind_some hq2
      obtain ⟨z, hz, hq4⟩ := bind_some hq3
      obtain ⟨x, hx, hq5⟩ := bind_some hq4
      obtain ⟨y, hy, hq6⟩ := bind_some hq5
      obtain rfl : (x, y) = q := Option.some.inj hq6
      have HSN := hid (fun wy => c_SineTurns a b hb wy)
      clear hq hq1 hq2 hq3 hq4 hq5 hq6 hb
      go_wp2_with fail
      have HW9 : Hid (wr.drew.setCell ⟨gp, i, none⟩ (.complex .f32 x y) = (wr.setCell ⟨gp, i, none⟩ (.complex .f32 x y)).drew) := hid rfl
      refine wp_region_G (fun w' => w'.cell? ⟨g, 0, none⟩ = some (.slice (some ⟨gp, 0, none⟩) n cp) ∧ w'.cell? ⟨gp, i, none⟩ = some (.complex .f32 p.1 p.2) ∧ w'.cell? ⟨g1, 0, none⟩ = some (.float .f32 s) ∧ w'.cell? ⟨g2, 0, none⟩ = some (.float .f32 t)) [16] 17 rfl (by kernel_rfl) ⟨HK1.out.cell 0, d1, HA.out.cell 0, HB.out.cell 0⟩ (fun hS => ?_)
      clear hS
      refine wpAnyG_take (i := 0) (v := .pointer (some ⟨g, 0, none⟩)) (D := [16]) rfl (by decide +kernel) (by decide +kernel) (by decide +kernel) (by decide +kernel) (by decide +kernel) (by decide +kernel) (fun _ _ _ h => h) (Or.inl ⟨by rfl, fun w hSw => by go_simp <;> rfl⟩) ⟨HK1.out.cell 0, d1, HA.out.cell 0, HB.out.cell 0⟩ ?_
      simp only [Act.put, List.getElem_toArray, List.getElem_cons_zero, List.getElem_cons_succ, List.setIfInBounds_toArray, List.set_cons_zero, List.set_cons_succ]
      refine wpAnyG_take (i := 1) (v := .pointer (some ⟨g, 0, none⟩)) (D := [16]) rfl (by decide +kernel) (by decide +kernel) (by decide +kernel) (by decide +kernel) (by decide +kernel) (by decide +kernel) (fun _ _ _ h => h) (Or.inl ⟨by rfl, fun w hSw => by go_simp <;> rfl⟩) ⟨HK1.out.cell 0, d1, HA.out.cell 0, HB.out.cell 0⟩ ?_
      simp only [Act.put, List.getElem_toArray, List.getElem_cons_zero, List.getElem_cons_succ, List.setIfInBounds_toArray, List.set_cons_zero, List.set_cons_succ]
      refine wpAnyG_take (i := 2) (v := .pointer (some ⟨g, 0, none⟩)) (D := [16]) rfl (by decide +kernel) (by decide +kernel) (by decide +kernel) (by decide +kernel) (by decide +kernel) (by decide +kernel) (fun _ _ _ h => h) (Or.inl ⟨by rfl, fun w hSw => by go_simp <;> rfl⟩) ⟨HK1.out.cell 0, d1, HA.out.cell 0, HB.out.cell 0⟩ ?_
      simp only [Act.put, List.getElem_toArray, List.getElem_cons_zero, List.getElem_cons_succ, List.setIfInBounds_toArray, List.set_cons_zero, List.set_cons_succ]
      refine wpAnyG_take (i := 3) (v := .slice (some ⟨gp, 0, none⟩) n cp) (D := [16]) rfl (by decide +kernel) (by decide +kernel) (by decide +kernel) (by decide +kernel) (by decide +kernel) (by decide +kernel) (fun _ _ _ h => h) (Or.inl ⟨by rfl, fun w hSw => by go_simp <;> rfl⟩) ⟨HK1.out.cell 0, d1, HA.out.cell 0, HB.out.cell 0⟩ ?_
      simp only [Act.put, List.getElem_toArray, List.getElem_cons_zero, List.getElem_cons_succ, List.setIfInBounds_toArray, List.set_cons_zero, List.set_cons_succ]
      refine wpAnyG_take (i := 4) (v := .int .i64 i) (D := [16]) rfl (by decide +kernel) (by decide +kernel) (by decide +kernel) (by decide +kernel) (by decide +kernel) (by decide +kernel) (fun _ _ _ h => h) (Or.inl ⟨by rfl, fun w hSw => by go_simp <;> rfl⟩) ⟨HK1.out.cell 0, d1, HA.out.cell 0, HB.out.cell 0⟩ ?_
      simp only [Act.put, List.getElem_toArray, List.getElem_cons_zero, List.getElem_cons_succ, List.setIfInBounds_toArray, List.set_cons_zero, List.set_cons_succ]
      refine wpAnyG_take (i := 5) (v := .pointer (some ⟨gp, i, none⟩)) (D := [16]) rfl (by decide +kernel) (by decide +kernel) (by decide +kernel) (by decide +kernel) (by decide +kernel) (by decide +kernel) (fun _ _ _ h => h) (Or.inl ⟨by rfl, fun w hSw => by go_simp <;> rfl⟩) ⟨HK1.out.cell 0, d1, HA.out.cell 0, HB.out.cell 0⟩ ?_
      simp only [Act.put, List.getElem_toArray, List.getElem_cons_zero, List.getElem_cons_succ, List.setIfInBounds_toArray, List.set_cons_zero, List.set_cons_succ]
      refine wpAnyG_take (i := 6) (v := .complex .f32 p.1 p.2) (D := [16]) rfl (by decide +kernel) (by decide +kernel) (by decide +kernel) (by decide +kernel) (by decide +kernel) (by decide +kernel) (fun _ _ _ h => h) (Or.inl ⟨by rfl, fun w hSw => by go_simp <;> rfl⟩) ⟨HK1.out.cell 0, d1, HA.out.cell 0, HB.out.cell 0⟩ ?_
      simp only [Act.put, List.getElem_toArray, List.getElem_cons_zero, List.getElem_cons_succ, List.setIfInBounds_toArray, List.set_cons_zero, List.set_cons_succ]
      refine wpAnyG_take (i := 7) (v := .float .f32 s) (D := [16]) rfl (by decide +kernel) (by decide +kernel) (by decide +kernel) (by decide +kernel) (by decide +kernel) (by decide +kernel) (fun _ _ _ h => h) (Or.inl ⟨by rfl, fun w hSw => by go_simp <;> rfl⟩) ⟨HK1.out.cell 0, d1, HA.out.cell 0, HB.out.cell 0⟩ ?_
      simp only [Act.put, List.getElem_toArray, List.getElem_cons_zero, List.getElem_cons_succ, List.setIfInBounds_toArray, List.set_cons_zero, List.set_cons_succ]
      refine wpAnyG_take (i := 8) (v := .float .f32 t) (D := [16]) rfl (by decide +kernel) (by decide +kernel) (by decide +kernel) (by decide +kernel) (by decide +kernel) (by decide +kernel) (fun _ _ _ h => h) (Or.inl ⟨by rfl, fun w hSw => by go_simp <;> rfl⟩) ⟨HK1.out.cell 0, d1, HA.out.cell 0, HB.out.cell 0⟩ ?_
      simp only [Act.put, List.getElem_toArray, List.getElem_cons_zero, List.getElem_cons_succ, List.setIfInBounds_toArray, List.set_cons_zero, List.set_cons_succ]
      refine wpAnyG_take (i := 9) (v := .float .f32 sh) (D := [10, 11, 12, 13, 14, 16]) rfl (by decide +kernel) (by decide +kernel) (by decide +kernel) (by decide +kernel) (by decide +kernel) (by decide +kernel) (fun _ _ _ h => h) (Or.inl ⟨by rfl, fun w hSw => by go_simp <;> rfl⟩) ⟨HK1.out.cell 0, d1, HA.out.cell 0, HB.out.cell 0⟩ ?_
      simp only [Act.put, List.getElem_toArray, List.getElem_cons_zero, List.getElem_cons_succ, List.setIfInBounds_toArray, List.set_cons_zero, List.set_cons_succ]
      refine wpAnyG_take (i := 10) (v := .float .f32 a) (D := [11, 12, 13, 14, 16]) rfl (by decide +kernel) (by decide +kernel) (by decide +kernel) (by decide +kernel) (by decide +kernel) (by decide +kernel) (fun _ _ _ h => h) (Or.inl ⟨by rfl, fun w hSw => by go_simp <;> rfl⟩) ⟨HK1.out.cell 0, d1, HA.out.cell 0, HB.out.cell 0⟩ ?_
      simp only [Act.put, List.getElem_toArray, List.getElem_cons_zero, List.getElem_cons_succ, List.setIfInBounds_toArray, List.set_cons_zero, List.set_cons_succ]
      refine wpAnyG_ready (rs := [11]) (by decide +kernel) (AllReadyG.cons (i := 11) rfl (fun K hK => ?_) AllReadyG.nil) (by simp)
      go_simp
      refine (HSN.out _).mono ?_
      rintro e w' ⟨rfl, rfl⟩
      try go_simp
      refine hK.out _ _ (fun _ => ⟨HK1.out.cell 0, d1, HA.out.cell 0, HB.out.cell 0⟩) ?_
      clear hK K
      try simp only [Act.put, List.getElem_toArray, List.getElem_cons_zero, List.getElem_cons_succ, List.setIfInBounds_toArray, List.set_cons_zero, List.set_cons_succ]
      refine wpAnyG_take (i := 12) (v := .float .f32 z) (D := [16]) rfl (by decide +kernel) (by decide +kernel) (by decide +kernel) (by decide +kernel) (by decide +kernel) (by decide +kernel) (fun _ _ _ h => h) (Or.inl ⟨by rfl, fun w hSw => by go_simp <;> rfl⟩) ⟨HK1.out.cell 0, d1, HA.out.cell 0, HB.out.cell 0⟩ ?_
      simp only [Act.put, List.getElem_toArray, List.getElem_cons_zero, List.getElem_cons_succ, List.setIfInBounds_toArray, List.set_cons_zero, List.set_cons_succ]
      refine wpAnyG_take (i := 13) (v := .complex .f32 0 z) (D := [16]) rfl (by decide +kernel) (by decide +kernel) (by decide +kernel) (by decide +kernel) (by decide +kernel) (by decide +kernel) (fun _ _ _ h => h) (Or.inl ⟨by rfl, fun w hSw => by go_simp <;> rfl⟩) ⟨HK1.out.cell 0, d1, HA.out.cell 0, HB.out.cell 0⟩ ?_
      simp only [Act.put, List.getElem_toArray, List.getElem_cons_zero, List.getElem_cons_succ, List.setIfInBounds_toArray, List.set_cons_zero, List.set_cons_succ]
      refine wpAnyG_take (i := 14) (v := .complex .f32 x y) (D := [16]) rfl (by decide +kernel) (by decide +kernel) (by decide +kernel) (by decide +kernel) (by decide +kernel) (by decide +kernel) (fun _ _ _ h => h) (Or.inl ⟨by rfl, fun w hSw => by go_simp <;> rfl⟩) ⟨HK1.out.cell 0, d1, HA.out.cell 0, HB.out.cell 0⟩ ?_
      simp only [Act.put, List.getElem_toArray, List.getElem_cons_zero, List.getElem_cons_succ, List.setIfInBounds_toArray, List.set_cons_zero, List.set_cons_succ]
      refine wpAnyG_take (i := 15) (v := .pointer (some ⟨gp, i, none⟩)) (D := [16]) rfl (by decide +kernel) (by decide +kernel) (by decide +kernel) (by decide +kernel) (by decide +kernel) (by decide +kernel) (fun _ _ _ h => h) (Or.inl ⟨by rfl, fun w hSw => by go_simp <;> rfl⟩) ⟨HK1.out.cell 0, d1, HA.out.cell 0, HB.out.cell 0⟩ ?_
      simp only [Act.put, List.getElem_toArray, List.getElem_cons_zero, List.getElem_cons_succ, List.setIfInBounds_toArray, List.set_cons_zero, List.set_cons_succ]
      refine wpAnyG_ready (rs := [16]) (by decide +kernel) (AllReadyG.cons (i := 16) rfl (fun K hK => ?_) AllReadyG.nil) (by simp)
      go_simp
      refine hK.out _ _ (fun h => absurd h (by decide +kernel)) ?_
      clear hK K
      try simp only [Act.put, List.getElem_toArray, List.getElem_cons_zero, List.getElem_cons_succ, List.setIfInBounds_toArray, List.set_cons_zero, List.set_cons_succ]
      refine wpAnyG_done (by decide +kernel) ?_ _
      clear d0 d1 f1 hin hi0 hf1 hf2 h1 ha hz hx hy HSN HA HB HK1
      go_wp2
      go_roundw
      case rel =>
        refine ⟨i + 1, j - 1, lk.set i (x, y), by omega, by go_num, HL.out, ?_, HG.out⟩
        rw [← cvl_set]
        exact HOW.out
      case measure => simp [intOf]; omega
    · obtain rfl : j = 0 := by omega
      obtain rfl : i = n := by omega
      have he : lk = pl' := Option.some.inj hl
      subst he
      have HOW := hid hown
      have HG := hid hg
      have e1 : wr.cell? ⟨g1, 0, none⟩ = some (.float .f32 s) := HA.out.cell 0
      have e2 : wr.cell? ⟨g2, 0, none⟩ = some (.float .f32 t) := HB.out.cell 0
      have HF := hid (HFI.out wr)
      have HOS1 := hid (HOS.out.kept hg (.inr (fun e => HNE.out (Option.some.inj e))))
      clear hl hown hg
      go_wp2_with fail
      refine HF.out.mono ?_
      rintro e w' ⟨rfl, rfl⟩
      go_wp2_with fail
      go_ret
      exact ⟨rfl, HOW.out.alloc _, HOS1.out.alloc _, wr, HG.out, only_alloc (only_refl _ _) _⟩

set_option maxHeartbeats 4000000 in
theorem c_WaveSheet (pb sb n c c' t s : Nat) (cl : Bool) (pl pl' : List (Nat × Nat)) (sl : List Nat) (w : World) (h : Sh w pb sb n pl sl) (hw : waveF t s n n pl = some pl') (ht : finS t = true) (hs : finS s = true) (fp : FinC pl') :
    Calls Try.prog 11 #[.agg #[.slice (some ⟨pb, 0, none⟩) n c, .slice (some ⟨sb, 0, none⟩) n c', .bool cl], .float .f32 t, .float .f32 s] w (MadeSh n cl pl' sl w) := by
  have HC := hid (fun (wx : World) (hb : Below w.heap.size w wx) (hG1 : Blk wx (w.heap.size + 2) 25 #[.float .f32 s]) (hG2 : Blk wx (w.heap.size + 1) 25 #[.float .f32 t]) => c_changedW (w.heap.size + 2) (w.heap.size + 1) pb sb n c c' cl pl pl' sl sl wx (h.below hb) fp h.fs (fun wy g gp cp gs cs hby hK hop hos =>
    c_wave1 wx.heap.size n t s (w.heap.size + 2) (w.heap.size + 1) cl pl pl' sl h.lo h.hi wy g gp cp gs cs hw ht hs (hG1.below' hby) (hG2.below' hby) hK hop hos))
  clear h fp hw ht hs
  have HW : Hid (Below w.heap.size w ((((w.alloc (.cells #[.slice (some ⟨pb, 0, none⟩) n c, .slice (some ⟨sb, 0, none⟩) n c', .bool cl] 29)).alloc (.cells #[.float .f32 t] 25)).alloc (.cells #[.float .f32 s] 25)).alloc (.cells #[.slice none 0 0, .slice none 0 0, .bool false] 29))) :=
    hid ((((below_new w _).alloc (by simp) _).alloc (by simp; omega) _).alloc (by simp; omega) _)
  have HA : Hid (Blk ((((w.alloc (.cells #[.slice (some ⟨pb, 0, none⟩) n c, .slice (some ⟨sb, 0, none⟩) n c', .bool cl] 29)).alloc (.cells #[.float .f32 t] 25)).alloc (.cells #[.float .f32 s] 25)).alloc (.cells #[.slice none 0 0, .slice none 0 0, .bool false] 29)) (w.heap.size + 2) 25 #[.float .f32 s]) := hid (by
    have h := (Blk.new ((w.alloc (.cells #[.slice (some ⟨pb, 0, none⟩) n c, .slice (some ⟨sb, 0, none⟩) n c', .bool cl] 29)).alloc (.cells #[.float .f32 t] 25)) 25 #[.float .f32 s]).alloc (.cells #[.slice none 0 0, .slice none 0 0, .bool false] 29)
    simpa [World.size_alloc] using h)
  have HB : Hid (Blk ((((w.alloc (.cells #[.slice (some ⟨pb, 0, none⟩) n c, .slice (some ⟨sb, 0, none⟩) n c', .bool cl] 29)).alloc (.cells #[.float .f32 t] 25)).alloc (.cells #[.float .f32 s] 25)).alloc (.cells #[.slice none 0 0, .slice none 0 0, .bool false] 29)) (w.heap.size + 1) 25 #[.float .f32 t]) := hid (by
    have h := ((Blk.new (w.alloc (.cells #[.slice (some ⟨pb, 0, none⟩) n c, .slice (some ⟨sb, 0, none⟩) n c', .bool cl] 29)) 25 #[.float .f32 t]).alloc (.cells #[.float .f32 s] 25)).alloc (.cells #[.slice none 0 0, .slice none 0 0, .bool false] 29)
    simpa [World.size_alloc] using h)
  go_enter Try.func11, Try.ntmps11
  go_wp2_with fail
  refine (HC.out _ HW.out HA.out HB.out).mono ?_
  rintro e w1 ⟨gp, cp, gs, cs, rfl, hsh, hb1⟩
  obtain ⟨q0, q1, q2, q3, qs, hbel⟩ := blocks4 hb1
  obtain ⟨k1, k2⟩ := sh_ne hsh q3
  have e0 : w1.cell? ⟨w.heap.size + 3, 0, none⟩ = some (.slice none 0 0) := q3.cell 0
  have e1 : w1.cell? ⟨w.heap.size + 3, 1, none⟩ = some (.slice none 0 0) := q3.cell 1
  have e2 : w1.cell? ⟨w.heap.size + 3, 2, none⟩ = some (.bool false) := q3.cell 2
  have f0 := q3.frozen 0
  have f1 := q3.frozen 1
  have f2 := q3.frozen 2
  have HSH := hid hsh
  have HBL := hid hbel
  have HN1 := hid k1
  have HN2 := hid k2
  clear hb1 q0 q1 q2 q3 hbel hsh qs HC HW k1 k2 HA HB
  go_wp2_with fail
  refine bodyPost_ret (v := .tuple #[.agg #[.slice (some ⟨gp, 0, none⟩) n cp, .slice (some ⟨gs, 0, none⟩) n cs, .bool cl], .bool true]) (by simp [results, Try.results11, go_sem, e0, e1, e2]) rfl ?_
  exact ⟨gp, cp, gs, cs, rfl, ((HSH.out.setCell HN1.out HN2.out _).setCell HN1.out HN2.out _).setCell HN1.out HN2.out _, ((HBL.out.setCell (show w.heap.size ≤ w.heap.size + 3 by omega) _).setCell (show w.heap.size ≤ w.heap.size + 3 by omega) _).setCell (show w.heap.size ≤ w.heap.size + 3 by omega) _⟩
end Go.Proofs.Ytdjhgnpllnmdmaa
