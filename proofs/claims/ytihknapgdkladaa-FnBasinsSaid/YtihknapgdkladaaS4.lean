/- A basin that is drawn like another. -/
import Derived.Test.YtihknapgdkladaaS3
import Derived.Deep.DeepCutAuto
set_option linter.unusedVariables false
set_option linter.unusedSectionVars false
set_option linter.unusedSimpArgs false
namespace Go.Proofs.Ytihknapgdkladaa
open Go.RowKit Fl
attribute [local go_sem] w_store
attribute [local go_sem ↓] Go.wp_at_zero Go.wp_at_succ

set_option maxRecDepth 100000 in
set_option maxHeartbeats 4000000 in
theorem c_drawLike (g len cap W H p n : Nat) (A sb : Option Addr) (c : Nat) (w : World) (hs : Src w g A len cap 0) (hb : BRow w g A len) (hl : len ≤ 1000) (hp : Blk w p 26 #[.int .i64 W, .int .i64 H, .slice sb n c]) (hn : n = W * H) (hsz : Siz W H) :
    Calls Try.prog 30 #[.pointer (some ⟨g, 0, none⟩), .pointer (some ⟨p, 0, none⟩)] w (DrawnB (-3) w g W H) := by
  obtain ⟨i0, hi0, hz0, hz1, hz2⟩ := info_parts info_f32
  have hglt := hs.lt
  go_enter Try.func30, Try.ntmps30
  have HS := hid (hs.blk (World.grownBy.refl w none))
  have HB := hid hb
  have HB0 := hid hb
  have HP := hid hp
  have d0 : w.cell? ⟨p, 0, none⟩ = some (.int .i64 W) := hp.cell 0
  have d1 : w.cell? ⟨p, 1, none⟩ = some (.int .i64 H) := hp.cell 1
  have hpl := hp.lt
  clear hs hb hp
  have HN : Hid (∀ wx : World, Calls Try.prog 62 #[.int .i64 W, .int .i64 H] wx fun e w' => ∃ gg, e = .returned (.agg #[.int .i64 W, .int .i64 H, .slice (some ⟨gg, 0, none⟩) 0 0]) ∧ w'.ownsRow wx.heap.size 32 1 (.slice (some ⟨gg, 0, none⟩) 0 0) 0 (vl []) ∧ Below wx.heap.size wx w') := fun wx => c_new W H wx
  go_upto_region 1 with fail
  go_cut [5] (fun s wx => ∃ r1 q : Nat, s = .pointer (some ⟨r1, 0, none⟩) ∧ w.heap.size < r1 ∧ Blk wx r1 26 (bcs W H (.slice (some ⟨q, 0, none⟩) 0 0)) ∧ wx.ownsRow w.heap.size 32 1 (.slice (some ⟨q, 0, none⟩) 0 0) 0 (vl []) ∧ Blk wx w.heap.size 26 #[.int .i64 0, .int .i64 0, .slice none 0 0] ∧ Below w.heap.size w wx)
  case first =>
    have hR0 := Blk.new w 26 #[.int .i64 0, .int .i64 0, .slice none 0 0]
    have HR0 := hid hR0
    have HBe := hid ((Below.refl w.heap.size w).alloc (Nat.le_refl _) (.cells #[.int .i64 0, .int .i64 0, .slice none 0 0] 26))
    have k0 : (w.alloc (.cells #[.int .i64 0, .int .i64 0, .slice none 0 0] 26)).cell? ⟨p, 0, none⟩ = some (.int .i64 W) := (HP.out.alloc _).cell 0
    have k1 : (w.alloc (.cells #[.int .i64 0, .int .i64 0, .slice none 0 0] 26)).cell? ⟨p, 1, none⟩ = some (.int .i64 H) := (HP.out.alloc _).cell 1
    have ksz : (w.alloc (.cells #[.int .i64 0, .int .i64 0, .slice none 0 0] 26)).heap.size = w.heap.size + 1 := World.size_alloc _ _
    have hPa := HP.out.alloc (.cells #[.int .i64 0, .int .i64 0, .slice none 0 0] 26)
    obtain ⟨wa, hwa⟩ : ∃ wa, w.alloc (.cells #[.int .i64 0, .int .i64 0, .slice none 0 0] 26) = wa := ⟨_, rfl⟩
    rw [hwa] at hR0 HR0 HBe k0 k1 ksz hPa ⊢
    have hpa : p < wa.heap.size := by omega
    have nn1 : wa.heap.size ≠ p := by omega
    have nn2 : p ≠ wa.heap.size := by omega
    have HPa := hid hPa
    have HKsz := hid ksz
    clear hwa hR0 d0 d1 hPa ksz
    go_region_held3 (fun w' => w'.cell? ⟨p, 0, none⟩ = some (.int .i64 W) ∧ w'.cell? ⟨p, 1, none⟩ = some (.int .i64 H)) (go_keep)
      (first | (go_at_call 62; refine (HN.out _).mono ?_; rintro e w3 ⟨q, rfl, ho3, hb3⟩
                have hq : Blk w3 w.heap.size 26 #[.int .i64 0, .int .i64 0, .slice none 0 0] := by first | exact HR0.out.drew.below' hb3 | exact (HR0.out.alloc _).drew.below' hb3
                have hp3 : Blk w3 p 26 #[.int .i64 W, .int .i64 H, .slice sb n c] := by first | exact HPa.out.drew.below' hb3 | exact (HPa.out.alloc _).drew.below' hb3
                have e0 : w3.cell? ⟨p, 0, none⟩ = some (.int .i64 W) := hp3.cell 0
                have e1 : w3.cell? ⟨p, 1, none⟩ = some (.int .i64 H) := hp3.cell 1
                (first | (have hz : Blk w3 wa.heap.size 26 #[.int .i64 0, .int .i64 0, .slice none 0 0] := (Blk.new wa 26 _).drew.below' hb3
                          have z0 : w3.cell? ⟨wa.heap.size, 0, none⟩ = some (.int .i64 0) := hz.cell 0
                          have z1 : w3.cell? ⟨wa.heap.size, 1, none⟩ = some (.int .i64 0) := hz.cell 1
                          have z2 : w3.cell? ⟨wa.heap.size, 2, none⟩ = some (.slice none 0 0) := hz.cell 2
                          have y0 : w3.frozen? ⟨wa.heap.size, 0, none⟩ = false := hz.frozen 0
                          have y1 : w3.frozen? ⟨wa.heap.size, 1, none⟩ = false := hz.frozen 1
                          have y2 : w3.frozen? ⟨wa.heap.size, 2, none⟩ = false := hz.frozen 2
                          have HZ := hid hz
                          clear hz) | skip)
                have HO3 := hid ho3
                have HB3 := hid hb3
                have HQ := hid hq
                clear ho3 hb3 hq hp3))
    · go_wp2_with fail
      go_meet
      refine ⟨w3.heap.size, q, rfl, ?_, Blk.new w3 _ _, ?_, HQ.out.alloc _, ?_⟩
      · have h1 := HB3.out.size
        have h2 := HKsz.out
        simp at h1
        omega
      · exact (own_base HO3.out (by have h2 := HKsz.out; simp; omega)).alloc _
      · have h1 : Below w.heap.size w wa.drew := HBe.out.drew
        exact (h1.trans (HB3.out.mono (by have h2 := HKsz.out; simp; omega))).alloc (by have h1 := HB3.out.size; have h2 := HKsz.out; simp at h1; omega) _
    · go_wp2_with fail
      go_meet
      have h2 := HKsz.out
      have hq : q ≠ wa.heap.size := fun h => own_blk_ne HO3.out HZ.out (by decide) (by rw [h]; rfl)
      refine ⟨wa.heap.size, q, rfl, by omega, ?_, ?_, ?_, ?_⟩
      · exact ((HZ.out.set_ 0 _).set_ 1 _).set_ 2 _
      · have h0 := own_base (base' := w.heap.size) HO3.out (by simp; omega)
        exact own_setCell (own_setCell (own_setCell h0 (by simpa [Value.ownBlock] using hq) _) (by simpa [Value.ownBlock] using hq) _) (by simpa [Value.ownBlock] using hq) _
      · exact ((HQ.out.far (by simp; omega) _).far (by simp; omega) _).far (by simp; omega) _
      · have h1 : Below w.heap.size w wa.drew := HBe.out.drew
        have h3 := (HBe.out.alloc (by omega) (.cells #[.int .i64 0, .int .i64 0, .slice none 0 0] 26)).drew
        have h4 := h3.trans (HB3.out.mono (by simp; omega))
        exact ((h4.setCell (by simp; omega) _).setCell (by simp; omega) _).setCell (by simp; omega) _
  case rest =>
    obtain ⟨r1, q, rfl, hr1, hK3, hO3, hR3, hL3⟩ := hcut
    have HK3 := hid hK3
    have HO3 := hid hO3
    have HR3 := hid hR3
    have HL3 := hid hL3
    clear hK3 hO3 hR3 hL3 d0 d1
    have HW3 : Hid (w.heap.size ≤ r1) := hid (by omega)
    have HAB : Hid (w.heap.size ≠ r1) := hid (by omega)
    have HPG : Hid (p ≠ g) := hid (fun e => HS.out.ne_blk HP.out (by decide) e.symm)
    have hWH : W * H ≤ 256 := Nat.mul_le_mul hsz.b hsz.d
    go_wp2_with fail
    go_loopw [6] (fun t wr => ∃ (i : Nat) (v : Value) (l : List Nat), i ≤ W * H ∧ l.length = i ∧ (∀ u, u ∈ l → Gr Ieee.single (-3) 8 u) ∧ t = .int .i64 i ∧ Src wr g A len cap i ∧ Blk wr w.heap.size 26 #[.int .i64 0, .int .i64 0, .slice none 0 0] ∧ Blk wr r1 26 (bcs W H v) ∧ wr.ownsRow w.heap.size 32 1 v i (vl l) ∧ w.grownBy wr (some g))
      (fun t _ => W * H - (intOf t).toNat)
    case atStart =>
      refine ⟨0, .slice (some ⟨q, 0, none⟩) 0 0, [], Nat.zero_le _, rfl, ?_, rfl, ?_, ?_, ?_, ?_, ?_⟩
      · intro u hu; cases hu
      · exact HS.out.blk (only_of_below HL3.out none)
      · exact HR3.out
      · exact HK3.out
      · exact HO3.out
      · exact only_of_below HL3.out _
    case round =>
      clear HS HR3 HK3 HO3 HL3
      obtain ⟨i, v, l, hi, hll, hgr, rfl, hs, hr, hbk, hown, hbel⟩ := hrel
      have hb := HB0.out.kept hbel
      have d0 : wr.cell? ⟨r1, 0, none⟩ = some (.int .i64 W) := hbk.cell 0
      have d1 : wr.cell? ⟨r1, 1, none⟩ = some (.int .i64 H) := hbk.cell 1
      have d2 : wr.cell? ⟨r1, 2, none⟩ = some v := hbk.cell 2
      have f2 := hbk.frozen 2
      have hpw : Blk wr p 26 #[.int .i64 W, .int .i64 H, .slice sb n c] := HP.out.grown hbel (fun e => HPG.out (by injection e))
      have p2 : wr.cell? ⟨p, 2, none⟩ = some (.slice sb n c) := hpw.cell 2
      clear hpw
      by_cases hlt : i < W * H
      · have hlt2 : (i : Int) < (n : Int) := by omega
        have HVB := hid (own_blk_ne hown hbk (by decide))
        have HVA := hid (own_blk_ne hown hr (by decide))
        have HVG := hid (hs.own_ne hown)
        have HGB := hid (hs.ne_blk hbk (by decide))
        have HGA := hid (hs.ne_blk hr (by decide))
        have HC : Hid (∀ wx, Src wx g A len cap i → BRow wx g A len → Calls Try.prog 61 #[.pointer (some ⟨g, 0, none⟩), .int .i64 17] wx (Picked 17 g A len cap i wx)) :=
          fun wx h1 h2 => c_pick 17 g len cap _ A wx h1 h2 (by omega) (by omega) (by omega) (by omega)
        have HB := hid hb
        have HK := hid hbk
        have HA := hid hr
        have HW := hid hown
        have HL := hid hbel
        have HSz := hbk.lt
        have HS := hid hs
        clear hb hbk hr hown hbel hs
        have HMX : Hid (i + 1 ≤ maxLen) := hid (Nat.le_trans (show i + 1 ≤ 256 by omega) (by decide))
        have HY : Hid ((i + 1) * 4 ≤ 140737488355328) := hid (by omega)
        go_wp2_with fail
        go_region_law (first
            | (refine step_append_lies _ (by rfl) _ _ _ (by rfl) w.heap.size 32 i0 _ 1 4 Try.underlying24 hi0 hz0 hz1 hz2 rfl Nat.one_pos v i (vl l) (by rfl) (HO1.out.alloc _) ⟨w1.heap.size, 0, none⟩ 1 1 [.float .f32 (eighth k)] (by rfl) (by rfl) (World.news_of_block (cs := #[.float .f32 (eighth k)]) (t := 32) (fr := (0, 0)) (heap_alloc_new w1 _)) (fun u hu => by rw [List.mem_singleton.1 hu]; rfl) Nat.one_pos HMX.out HY.out hw1 (w1.heap.size + 1) (World.size_alloc _ _) ?_
               intro gg cp w2 hown1 hgrow hat hlt3
               have hB2 : Blk w2 r1 26 (bcs W H v) := (HK1.out.alloc _).grown hgrow (fun e => HVB.out e.symm)
               have d4 : w2.cell? ⟨r1, 2, none⟩ = some v := hB2.cell 2
               have f4 := hB2.frozen 2
               have HB2 := hid hB2
               have HO2 := hid hown1
               have HG2 := hid hgrow
               have HA2 := hid hat
               clear hB2 hown1 hgrow hat)
            | (go_simp
               refine (HC.out wr.drew (HS.out.blk (only_drewN (only_refl wr _) 1)) (HB.out.kept (only_drewN (only_refl wr _) 1))).mono ?_
               rintro e w1 ⟨k, hk, rfl, hs1, hg1'⟩
               have hg1 : wr.grownBy w1 (some g) := ⟨hg1'.os, hg1'.tape, hg1'.output, hg1'.size, hg1'.block⟩
               have hK1 := HK.out.grown hg1 (fun e => HGB.out (by injection e with e; exact e.symm))
               have d3 : w1.cell? ⟨r1, 2, none⟩ = some v := hK1.cell 2
               have hw1 : w.heap.size ≤ (w1.alloc (.cells #[.float .f32 (eighth k)] 32)).heap.size := by have := hg1.size; have := HL.out.size; simp; omega
               have hq : ∀ wx : World, (binOp .quo 32 (.float .f32 (floatOfInt .f32 (IntKind.i64.wrap ((k : Int) - 8)))) (.float .f32 1090519040)).run Try.prog wx = .ok (.float .f32 (eighth k)) wx := fun wx => by
                 rw [wrap8 k hk]
                 exact w_div wx _ _ _ _ (eighth_gr k hk).1
               have hsz1 : r1 < w1.heap.size := hK1.lt
               have p3 : True := trivial
               have HK1 := hid hK1
               have HS1 := hid hs1
               have HG1 := hid hg1
               have HO1 := hid (HW.out.kept hg1 (.inr HVG.out))
               clear hs1 hg1 hg1' hK1))
        all_goals
          clear d0 d1 d2 f2 d3 d4 f4 hq p2 p3
          go_wp2
          go_roundw
          case rel =>
            have hgn : gg ≠ r1 := by
              rcases HA2.out with h | h
              · intro h'; exact HVB.out (by rw [h, h'])
              · have := HK1.out.lt; omega
            have hgg : gg ≠ g := by
              rcases HA2.out with h | h
              · intro h'; exact HVG.out (by rw [h, h'])
              · have := HS1.out.lt; omega
            refine ⟨i + 1, .slice (some ⟨gg, 0, none⟩) (i + 1) cp, l ++ [eighth k], by omega, by simp [hll], ?_, by go_num, ?_, ?_, ?_, ?_, ?_⟩
            · intro u hu
              rcases List.mem_append.1 hu with h | h
              · exact hgr u h
              · rw [List.mem_singleton.1 h]; exact (eighth_gr k hk).2
            · exact ((HS1.out.blk (only_alloc (only_refl _ _) _)).grown HG2.out HVG.out).far HGB.out _
            · exact (((HA.out.grown HG1.out (fun e => HGA.out (by injection e with e; exact e.symm))).alloc _).grown HG2.out (fun e => HVA.out e.symm)).far HAB.out _
            · exact HB2.out.set_ 2 _
            · rw [vl_snoc]
              exact own_setCell HO2.out (by intro h; apply hgn; simpa [Value.ownBlock] using h) _
            · refine only_setCell (only_grown (only_alloc (only_trans HL.out HG1.out) _) HG2.out (fun k hk' => (HW.out.lt k hk').1)) (.inr ?_) _
              exact HW3.out
          case measure => simp [intOf]; omega
      · have hlt2 : ¬ (i : Int) < (n : Int) := by omega
        have e0 : wr.cell? ⟨w.heap.size, 0, none⟩ = some (.int .i64 0) := hr.cell 0
        have e1 : wr.cell? ⟨w.heap.size, 1, none⟩ = some (.int .i64 0) := hr.cell 1
        have e2 : wr.cell? ⟨w.heap.size, 2, none⟩ = some (.slice none 0 0) := hr.cell 2
        have g0 := hr.frozen 0
        have g1 := hr.frozen 1
        have g2 := hr.frozen 2
        obtain rfl : i = W * H := by omega
        have hpos : 0 < W * H := Nat.mul_pos (by have := hsz.a; omega) (by have := hsz.c; omega)
        obtain ⟨gg, cp, rfl, hgb, hglt⟩ := hown.form hpos
        have hne : gg ≠ w.heap.size := fun h => own_blk_ne hown hr (by decide) (by rw [h]; rfl)
        have hrow := frow_of_own hown (by rw [hll]) hglt
        clear hr hbk hs hb
        have HR := hid hrow
        clear hrow
        go_wp2_with fail
        refine bodyPost_ret (v := .agg #[.int .i64 W, .int .i64 H, .slice (some ⟨gg, 0, none⟩) (W * H) cp]) (by simp [results, Try.results30, go_sem, e0, e1, e2]) rfl ?_
        refine ⟨l, gg, cp, hll, hgr, rfl, ((HR.out.setCell hne _).setCell hne _).setCell hne _, hgb, ?_⟩
        exact only_setCell (only_setCell (only_setCell hbel (.inr (Nat.le_refl _)) _) (.inr (Nat.le_refl _)) _) (.inr (Nat.le_refl _)) _
end Go.Proofs.Ytihknapgdkladaa
