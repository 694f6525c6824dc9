/- Turned: sheets of points that are told. -/
import Derived.Test.YtdjhgnpllnmdmaaT14
set_option linter.unusedVariables false
set_option linter.unusedSectionVars false
set_option linter.unusedSimpArgs false
namespace Go.Proofs.Ytdjhgnpllnmdmaa
open Go.RowKit
attribute [local go_sem] r_addD r_subD r_mulD r_divD r_addS r_subS r_mulS r_divS r_wide r_narrow w_store r_neg r_subC r_addC
attribute [local go_sem ↓] Go.wp_at_zero Go.wp_at_succ

theorem finL_rep (n : Nat) {x : Nat} (h : finS x = true) : FinL (List.replicate n x) := by
  intro i hi
  rw [List.length_replicate] at hi
  simp [List.getD, List.getElem?_replicate, hi, h]
theorem take_snoc_getD (pl : List (Nat × Nat)) (i : Nat) (h : i < pl.length) : pl.take (i + 1) = pl.take i ++ [pl.getD i (0, 0)] := by
  rw [List.take_succ_eq_append_getElem h]
  simp [List.getD, h]

set_option maxRecDepth 100000 in
set_option maxHeartbeats 4000000 in
theorem c_sheetOf (g3 g4 n r spin : Nat) (pl : List (Nat × Nat)) (w : World) (hpl : ∀ k, k < n → ringPt n r k = some (pl.getD k (0, 0))) (hlen : pl.length = n) (h3 : 3 ≤ n) (h48 : n ≤ 48) (hfp : FinC pl) (hfs : finS spin = true)
    (B3 : Blk w g3 2 #[.int .i64 n]) (B4 : Blk w g4 25 #[.float .f32 r]) :
    Calls Try.prog 16 #[.int .i64 n, .float .f32 spin, .bool true, .func (.func 17) #[] #[.pointer (some ⟨g3, 0, none⟩), .pointer (some ⟨g4, 0, none⟩)]] w (MadeSh n true pl (List.replicate n spin) w) := by
  obtain ⟨i0, hi0, hz0, hz1, hz2⟩ := info_parts info_f32
  obtain ⟨j0, hj0, hy0, hy1, hy2⟩ := info_parts info_c64
  have eg := enters_fn Try.func17 (by kernel_rfl) rfl
  have HPL := hid hpl
  have HLN := hid hlen
  have HFP := hid hfp
  have HFS : Hid (FinL (List.replicate n spin)) := hid (finL_rep n hfs)
  have H3 := hid B3
  have H4 := hid B4
  clear hpl B3 B4 hlen hfp hfs
  go_enter Try.func16, Try.ntmps16
  go_wp2_with fail
  go_loopw [15] (fun t wr => ∃ (i : Nat) (vp vs : Value), i ≤ n ∧ t = .int .i64 i ∧ Mk w wr vp vs vp vs i i (cvl (pl.take i)) (vl (List.replicate i spin))) (fun t _ => n - (intOf t).toNat)
  case atStart =>
    refine ⟨0, .slice none 0 0, .slice none 0 0, Nat.zero_le _, rfl, ?_⟩
    exact ⟨(Blk.new w _ _).alloc _, by simpa [World.size_alloc] using (Blk.new (w.alloc (.cells #[.slice none 0 0, .slice none 0 0, .bool false] 29)) 29 #[.slice none 0 0, .slice none 0 0, .bool true]), ⟨rfl, .inl ⟨rfl, rfl⟩⟩, ⟨rfl, .inl ⟨rfl, rfl⟩⟩, ((Below.refl _ _).alloc (Nat.le_refl _) _).alloc (by simp) _⟩
  case round =>
    obtain ⟨i, vp, vs, hi, rfl, hmk⟩ := hrel
    by_cases hlt : i < n
    · have HST := hid hmk
      have HMX : Hid (i + 1 ≤ maxLen) := hid (Nat.le_trans (show i + 1 ≤ 49 by omega) (by decide))
      have HY : Hid ((i + 1) * 4 ≤ 140737488355328) := hid (by omega)
      have HY8 : Hid ((i + 1) * 8 ≤ 140737488355328) := hid (by omega)
      have hpk := HPL.out i hlt
      have HTK := hid (take_snoc_getD pl i (by have := HLN.out; omega))
      generalize pl.getD i (0, 0) = pt at *
      have HC : Hid (∀ wx : World, Below w.heap.size w wx → Calls Try.prog 17 #[.int .i64 i, .pointer (some ⟨g3, 0, none⟩), .pointer (some ⟨g4, 0, none⟩)] wx fun e w' => e = .returned (.complex .f32 pt.1 pt.2) ∧ Below wx.heap.size wx w') :=
        fun wx hb => (c_ring1 n r i pt.1 pt.2 g3 g4 wx hpk ((H3.out.below' hb).cell 0) ((H4.out.below' hb).cell 0)).mono (fun e w' h => ⟨h.1, by obtain ⟨m, rfl⟩ := h.2; exact below_drewN (Below.refl _ _) m⟩)
      clear hmk hpk
      go_wp2_with fail
      refine wp_region_G (fun w' => w'.cell? ⟨w.heap.size + 1, 0, none⟩ = some vp ∧ w'.cell? ⟨w.heap.size + 1, 1, none⟩ = some vs) [13, 15] 16 rfl (by kernel_rfl) ⟨HST.out.b1.cell 0, HST.out.b1.cell 1⟩ (fun hS => ?_)
      clear hS
      have HST := hid (HST.out.drewN 1)
      obtain ⟨wc, hwc⟩ : ∃ wc, wc = wr.drew := ⟨_, rfl⟩
      rw [← hwc]
      replace HST : Hid (Mk w wc vp vs vp vs i i (cvl (pl.take i)) (vl (List.replicate i spin))) := hid (by rw [hwc]; exact HST.out)
      clear hwc
      refine wpAnyG_take (i := 0) (v := .pointer (some ⟨w.heap.size + 1, 0, none⟩)) (D := [13, 15]) rfl (by decide +kernel) (by decide +kernel) (by decide +kernel) (by decide +kernel) (by decide +kernel) (by decide +kernel) (fun _ _ _ h => h) (Or.inl ⟨by rfl, fun w hSw => by go_simp <;> rfl⟩) ⟨HST.out.b1.cell 0, HST.out.b1.cell 1⟩ ?_
      simp only [Act.put, List.getElem_toArray, List.getElem_cons_zero, List.getElem_cons_succ, List.setIfInBounds_toArray, List.set_cons_zero, List.set_cons_succ]
      refine wpAnyG_take (i := 1) (v := vp) (D := [13, 15]) rfl (by decide +kernel) (by decide +kernel) (by decide +kernel) (by decide +kernel) (by decide +kernel) (by decide +kernel) (fun _ _ _ h => h) (Or.inl ⟨by rfl, fun w hSw => by go_simp <;> rfl⟩) ⟨HST.out.b1.cell 0, HST.out.b1.cell 1⟩ ?_
      simp only [Act.put, List.getElem_toArray, List.getElem_cons_zero, List.getElem_cons_succ, List.setIfInBounds_toArray, List.set_cons_zero, List.set_cons_succ]
      refine wpAnyG_take (i := 2) (v := .func (.func 17) #[] #[.pointer (some ⟨g3, 0, none⟩), .pointer (some ⟨g4, 0, none⟩)]) (D := [13, 15]) rfl (by decide +kernel) (by decide +kernel) (by decide +kernel) (by decide +kernel) (by decide +kernel) (by decide +kernel) (fun _ _ _ h => h) (Or.inl ⟨by rfl, fun w hSw => by go_simp <;> rfl⟩) ⟨HST.out.b1.cell 0, HST.out.b1.cell 1⟩ ?_
      simp only [Act.put, List.getElem_toArray, List.getElem_cons_zero, List.getElem_cons_succ, List.setIfInBounds_toArray, List.set_cons_zero, List.set_cons_succ]
      refine wpAnyG_take (i := 3) (v := .int .i64 i) (D := [13, 15]) rfl (by decide +kernel) (by decide +kernel) (by decide +kernel) (by decide +kernel) (by decide +kernel) (by decide +kernel) (fun _ _ _ h => h) (Or.inl ⟨by rfl, fun w hSw => by go_simp <;> rfl⟩) ⟨HST.out.b1.cell 0, HST.out.b1.cell 1⟩ ?_
      simp only [Act.put, List.getElem_toArray, List.getElem_cons_zero, List.getElem_cons_succ, List.setIfInBounds_toArray, List.set_cons_zero, List.set_cons_succ]
      refine wpAnyG_take (i := 7) (v := .pointer (some ⟨w.heap.size + 1, 1, none⟩)) (D := [13, 15]) rfl (by decide +kernel) (by decide +kernel) (by decide +kernel) (by decide +kernel) (by decide +kernel) (by decide +kernel) (fun _ _ _ h => h) (Or.inl ⟨by rfl, fun w hSw => by go_simp <;> rfl⟩) ⟨HST.out.b1.cell 0, HST.out.b1.cell 1⟩ ?_
      simp only [Act.put, List.getElem_toArray, List.getElem_cons_zero, List.getElem_cons_succ, List.setIfInBounds_toArray, List.set_cons_zero, List.set_cons_succ]
      refine wpAnyG_take (i := 8) (v := vs) (D := [13, 15]) rfl (by decide +kernel) (by decide +kernel) (by decide +kernel) (by decide +kernel) (by decide +kernel) (by decide +kernel) (fun _ _ _ h => h) (Or.inl ⟨by rfl, fun w hSw => by go_simp <;> rfl⟩) ⟨HST.out.b1.cell 0, HST.out.b1.cell 1⟩ ?_
      simp only [Act.put, List.getElem_toArray, List.getElem_cons_zero, List.getElem_cons_succ, List.setIfInBounds_toArray, List.set_cons_zero, List.set_cons_succ]
      refine wpAnyG_take (i := 9) (v := .float .f32 spin) (D := [10, 11, 13, 15]) rfl (by decide +kernel) (by decide +kernel) (by decide +kernel) (by decide +kernel) (by decide +kernel) (by decide +kernel) (fun _ _ _ h => h) (Or.inl ⟨by rfl, fun w hSw => by go_simp <;> rfl⟩) ⟨HST.out.b1.cell 0, HST.out.b1.cell 1⟩ ?_
      simp only [Act.put, List.getElem_toArray, List.getElem_cons_zero, List.getElem_cons_succ, List.setIfInBounds_toArray, List.set_cons_zero, List.set_cons_succ]
      iterate 5
        all_goals try (refine wpAnyG_take (i := 12) (v := .pointer (some ⟨w.heap.size + 1, 0, none⟩)) (D := [13, 15]) rfl (by decide +kernel) (by decide +kernel) (by decide +kernel) (by decide +kernel) (by decide +kernel) (by decide +kernel) (fun _ _ _ h => h) (Or.inl ⟨by rfl, fun w hSw => by go_simp <;> rfl⟩) ⟨HST.out.b1.cell 0, HST.out.b1.cell 1⟩ ?_; try simp only [Act.put, List.getElem_toArray, List.getElem_cons_zero, List.getElem_cons_succ, List.setIfInBounds_toArray, List.set_cons_zero, List.set_cons_succ])
        all_goals first
          | refine wpAnyG_ready (rs := [4, 10]) (by decide +kernel) (AllReadyG.cons (i := 4) rfl (fun K hK => ?_) (AllReadyG.cons (i := 10) rfl (fun K hK => ?_) AllReadyG.nil)) (by simp)
          | refine wpAnyG_ready (rs := [5, 10]) (by decide +kernel) (AllReadyG.cons (i := 5) rfl (fun K hK => ?_) (AllReadyG.cons (i := 10) rfl (fun K hK => ?_) AllReadyG.nil)) (by simp)
          | refine wpAnyG_ready (rs := [6, 10]) (by decide +kernel) (AllReadyG.cons (i := 6) rfl (fun K hK => ?_) (AllReadyG.cons (i := 10) rfl (fun K hK => ?_) AllReadyG.nil)) (by simp)
          | refine wpAnyG_ready (rs := [10]) (by decide +kernel) (AllReadyG.cons (i := 10) rfl (fun K hK => ?_) AllReadyG.nil) (by simp)
          | refine wpAnyG_ready (rs := [4]) (by decide +kernel) (AllReadyG.cons (i := 4) rfl (fun K hK => ?_) AllReadyG.nil) (by simp)
          | refine wpAnyG_ready (rs := [5]) (by decide +kernel) (AllReadyG.cons (i := 5) rfl (fun K hK => ?_) AllReadyG.nil) (by simp)
          | refine wpAnyG_ready (rs := [6]) (by decide +kernel) (AllReadyG.cons (i := 6) rfl (fun K hK => ?_) AllReadyG.nil) (by simp)
          | refine wpAnyG_ready (rs := [11]) (by decide +kernel) (AllReadyG.cons (i := 11) rfl (fun K hK => ?_) AllReadyG.nil) (by simp)
          | refine wpAnyG_ready (rs := [10, 12]) (by decide +kernel) (AllReadyG.cons (i := 10) rfl (fun K hK => ?_) (AllReadyG.cons (i := 12) rfl (fun K hK => ?_) AllReadyG.nil)) (by simp)
          | refine wpAnyG_ready (rs := [11, 12]) (by decide +kernel) (AllReadyG.cons (i := 11) rfl (fun K hK => ?_) (AllReadyG.cons (i := 12) rfl (fun K hK => ?_) AllReadyG.nil)) (by simp)
          | refine wpAnyG_ready (rs := [12]) (by decide +kernel) (AllReadyG.cons (i := 12) rfl (fun K hK => ?_) AllReadyG.nil) (by simp)
          | refine wpAnyG_ready (rs := [13]) (by decide +kernel) (AllReadyG.cons (i := 13) rfl (fun K hK => ?_) AllReadyG.nil) (by simp)
          | refine wpAnyG_ready (rs := [14]) (by decide +kernel) (AllReadyG.cons (i := 14) rfl (fun K hK => ?_) AllReadyG.nil) (by simp)
          | refine wpAnyG_ready (rs := [13, 14]) (by decide +kernel) (AllReadyG.cons (i := 13) rfl (fun K hK => ?_) (AllReadyG.cons (i := 14) rfl (fun K hK => ?_) AllReadyG.nil)) (by simp)
          | refine wpAnyG_ready (rs := [15]) (by decide +kernel) (AllReadyG.cons (i := 15) rfl (fun K hK => ?_) AllReadyG.nil) (by simp)
        all_goals first
          | (go_simp
             refine (HC.out _ HST.out.be).mono ?_
             rintro e wc ⟨rfl, hbn⟩
             have HST := hid (HST.out.kept hbn)
             try have HLP := hid (HLP.out.below' hbn)
             try have HLS := hid (HLS.out.below' hbn)
             clear hbn
             try go_simp
             refine hK.out _ _ (fun _ => ⟨HST.out.b1.cell 0, HST.out.b1.cell 1⟩) ?_
             clear hK K
             try simp only [Act.put, List.getElem_toArray, List.getElem_cons_zero, List.getElem_cons_succ, List.setIfInBounds_toArray, List.set_cons_zero, List.set_cons_succ])
          | (go_simp
             obtain ⟨BP, hB⟩ : ∃ B, B = wc.heap.size := ⟨_, rfl⟩
             rw [← hB]
             have hbn := below_new wc (.cells #[.complex .f32 pt.1 pt.2] 34)
             have HST := hid (HST.out.kept hbn)
             try have HLP := hid (HLP.out.below' hbn)
             try have HLS := hid (HLS.out.below' hbn)
             have HLP := hid (Blk.new wc 34 #[.complex .f32 pt.1 pt.2])
             rw [← hB] at HLP
             clear hbn hB
             generalize wc.alloc (.cells #[.complex .f32 pt.1 pt.2] 34) = wc at *
             refine hK.out _ _ (fun _ => ⟨HST.out.b1.cell 0, HST.out.b1.cell 1⟩) ?_
             clear hK K
             try simp only [Act.put, List.getElem_toArray, List.getElem_cons_zero, List.getElem_cons_succ, List.setIfInBounds_toArray, List.set_cons_zero, List.set_cons_succ])
          | (go_simp
             obtain ⟨BS, hB⟩ : ∃ B, B = wc.heap.size := ⟨_, rfl⟩
             rw [← hB]
             have hbn := below_new wc (.cells #[.float .f32 spin] 25)
             have HST := hid (HST.out.kept hbn)
             try have HLP := hid (HLP.out.below' hbn)
             try have HLS := hid (HLS.out.below' hbn)
             have HLS := hid (Blk.new wc 25 #[.float .f32 spin])
             rw [← hB] at HLS
             clear hbn hB
             generalize wc.alloc (.cells #[.float .f32 spin] 25) = wc at *
             refine hK.out _ _ (fun _ => ⟨HST.out.b1.cell 0, HST.out.b1.cell 1⟩) ?_
             clear hK K
             try simp only [Act.put, List.getElem_toArray, List.getElem_cons_zero, List.getElem_cons_succ, List.setIfInBounds_toArray, List.set_cons_zero, List.set_cons_succ])
          | (refine step_append_lies _ (by rfl) _ _ _ (by rfl) w.heap.size 34 j0 _ 1 8 Try.underlying26 hj0 hy0 hy1 hy2 rfl Nat.one_pos vp i (cvl (pl.take i)) (by rfl) HST.out.op ⟨BP, 0, none⟩ 1 1 [.complex .f32 pt.1 pt.2] (by rfl) (by rfl) (World.news_of_block (cs := #[.complex .f32 pt.1 pt.2]) (t := 34) (fr := (0, 0)) HLP.out) (fun u hu => by rw [List.mem_singleton.1 hu]; rfl) Nat.one_pos HMX.out HY8.out HST.out.be.size wc.heap.size rfl ?_
             intro gp cpp wc hown1 hgrow hat hlt3
             try have HLS := hid (lit_app HLS.out HST.out.op (by decide) hgrow)
             have HST := hid (HST.out.appP hown1 hgrow)
             clear hown1 hgrow hat hlt3
             try go_simp
             refine hK.out _ _ (fun _ => ⟨HST.out.b1.cell 0, HST.out.b1.cell 1⟩) ?_
             clear hK K
             try simp only [Act.put, List.getElem_toArray, List.getElem_cons_zero, List.getElem_cons_succ, List.setIfInBounds_toArray, List.set_cons_zero, List.set_cons_succ])
          | (refine step_append_lies _ (by rfl) _ _ _ (by rfl) w.heap.size 25 i0 _ 1 4 Try.underlying27 hi0 hz0 hz1 hz2 rfl Nat.one_pos vs i (vl (List.replicate i spin)) (by rfl) HST.out.os ⟨BS, 0, none⟩ 1 1 [.float .f32 spin] (by rfl) (by rfl) (World.news_of_block (cs := #[.float .f32 spin]) (t := 25) (fr := (0, 0)) HLS.out) (fun u hu => by rw [List.mem_singleton.1 hu]; rfl) Nat.one_pos HMX.out HY.out HST.out.be.size wc.heap.size rfl ?_
             intro gs cps wc hown1 hgrow hat hlt3
             try have HLP := hid (lit_app HLP.out HST.out.os (by decide) hgrow)
             have HST := hid (HST.out.appS hown1 hgrow)
             clear hown1 hgrow hat hlt3
             try go_simp
             refine hK.out _ _ (fun _ => ⟨HST.out.b1.cell 0, HST.out.b1.cell 1⟩) ?_
             clear hK K
             try simp only [Act.put, List.getElem_toArray, List.getElem_cons_zero, List.getElem_cons_succ, List.setIfInBounds_toArray, List.set_cons_zero, List.set_cons_succ])
      all_goals try (refine wpAnyG_take (i := 12) (v := .pointer (some ⟨w.heap.size + 1, 0, none⟩)) (D := [13, 15]) rfl (by decide +kernel) (by decide +kernel) (by decide +kernel) (by decide +kernel) (by decide +kernel) (by decide +kernel) (fun _ _ _ h => h) (Or.inl ⟨by rfl, fun w hSw => by go_simp <;> rfl⟩) ⟨HST.out.b1.cell 0, HST.out.b1.cell 1⟩ ?_; try simp only [Act.put, List.getElem_toArray, List.getElem_cons_zero, List.getElem_cons_succ, List.setIfInBounds_toArray, List.set_cons_zero, List.set_cons_succ])
      all_goals
        refine wpAnyG_ready (rs := [13]) (by decide +kernel) (AllReadyG.cons (i := 13) rfl (fun K hK => ?_) AllReadyG.nil) (by simp)
        have d0 : wc.cell? ⟨w.heap.size + 1, 0, none⟩ = some vp := HST.out.b1.cell 0
        have f0 := HST.out.b1.frozen 0
        go_simp
        refine hK.out _ _ (fun h => absurd h (by decide +kernel)) ?_
        clear hK K d0 f0
        have HST := hid (HST.out.setP (.slice (some ⟨gp, 0, none⟩) (i + 1) cpp))
        generalize wc.setCell ⟨w.heap.size + 1, 0, none⟩ (.slice (some ⟨gp, 0, none⟩) (i + 1) cpp) = wc at *
        try simp only [Act.put, List.getElem_toArray, List.getElem_cons_zero, List.getElem_cons_succ, List.setIfInBounds_toArray, List.set_cons_zero, List.set_cons_succ]
        refine wpAnyG_ready (rs := [14]) (by decide +kernel) (AllReadyG.cons (i := 14) rfl (fun K hK => ?_) AllReadyG.nil) (by simp)
        go_simp
        refine hK.out _ _ (fun h => absurd h (by decide +kernel)) ?_
        clear hK K
        try simp only [Act.put, List.getElem_toArray, List.getElem_cons_zero, List.getElem_cons_succ, List.setIfInBounds_toArray, List.set_cons_zero, List.set_cons_succ]
        refine wpAnyG_ready (rs := [15]) (by decide +kernel) (AllReadyG.cons (i := 15) rfl (fun K hK => ?_) AllReadyG.nil) (by simp)
        have d1 : wc.cell? ⟨w.heap.size + 1, 1, none⟩ = some vs := HST.out.b1.cell 1
        have f1 := HST.out.b1.frozen 1
        go_simp
        refine hK.out _ _ (fun h => absurd h (by decide +kernel)) ?_
        clear hK K d1 f1
        have HST := hid (HST.out.setS (.slice (some ⟨gs, 0, none⟩) (i + 1) cps))
        generalize wc.setCell ⟨w.heap.size + 1, 1, none⟩ (.slice (some ⟨gs, 0, none⟩) (i + 1) cps) = wc at *
        try simp only [Act.put, List.getElem_toArray, List.getElem_cons_zero, List.getElem_cons_succ, List.setIfInBounds_toArray, List.set_cons_zero, List.set_cons_succ]
        refine wpAnyG_done (by decide +kernel) ?_ _
        clear HC HPL H3 H4
        go_wp2
        go_roundw
        case rel =>
          refine ⟨i + 1, .slice (some ⟨gp, 0, none⟩) (i + 1) cpp, .slice (some ⟨gs, 0, none⟩) (i + 1) cps, by omega, by go_num, ?_⟩
          rw [HTK.out, cvl_snoc, List.replicate_succ', vl_snoc]
          exact HST.out
        case measure => simp [intOf]; omega
    · obtain rfl : i = n := by omega
      clear hlt
      obtain ⟨gp, cp, rfl, hgp, hlp⟩ := hmk.op.form (by omega)
      obtain ⟨gs, cs, rfl, hgs, hls⟩ := hmk.os.form (by omega)
      have HTK : Hid (pl.take i = pl) := hid (List.take_of_length_le (by have := HLN.out; omega))
      have hop := hmk.op
      rw [HTK.out] at hop
      have HSH : Hid (Sh wr gp gs i pl (List.replicate i spin)) := hid ⟨crow_of_own hop HLN.out.symm hlp, frow_of_own hmk.os (by simp) hls, HLN.out.symm, by simp, by omega, by omega, HFP.out, HFS.out⟩
      have HTS := hid (c_toldSheet gp gs i cp cs true pl (List.replicate i spin) wr HSH.out)
      have HBE := hid hmk.be
      have HN1 : Hid (gp ≠ w.heap.size) := hid (fun h => own_blk_ne hmk.op hmk.b0 (by decide) (by rw [h]; rfl))
      have HN2 : Hid (gs ≠ w.heap.size) := hid (fun h => own_blk_ne hmk.os hmk.b0 (by decide) (by rw [h]; rfl))
      have d0 : wr.cell? ⟨w.heap.size + 1, 0, none⟩ = some (.slice (some ⟨gp, 0, none⟩) i cp) := hmk.b1.cell 0
      have d1 : wr.cell? ⟨w.heap.size + 1, 1, none⟩ = some (.slice (some ⟨gs, 0, none⟩) i cs) := hmk.b1.cell 1
      have d2 : wr.cell? ⟨w.heap.size + 1, 2, none⟩ = some (.bool true) := hmk.b1.cell 2
      have HB0 := hid hmk.b0
      clear hop hmk HPL H3 H4
      go_wp2_with fail
      refine HTS.out.mono ?_
      rintro e w1 ⟨rfl, hb1⟩
      have hb0 := HB0.out.below' hb1
      have e0 : w1.cell? ⟨w.heap.size, 0, none⟩ = some (.slice none 0 0) := hb0.cell 0
      have e1 : w1.cell? ⟨w.heap.size, 1, none⟩ = some (.slice none 0 0) := hb0.cell 1
      have e2 : w1.cell? ⟨w.heap.size, 2, none⟩ = some (.bool false) := hb0.cell 2
      have f0 := hb0.frozen 0
      have f1 := hb0.frozen 1
      have f2 := hb0.frozen 2
      have HSH1 := hid (HSH.out.below hb1)
      have HBE1 := hid (HBE.out.trans (hb1.mono HBE.out.size))
      clear hb1 hb0 d0 d1 d2
      go_wp2_with fail
      refine bodyPost_ret (v := .tuple #[.agg #[.slice (some ⟨gp, 0, none⟩) i cp, .slice (some ⟨gs, 0, none⟩) i cs, .bool true], .bool true]) (by simp [results, Try.results16, go_sem, e0, e1, e2]) rfl ?_
      exact ⟨gp, cp, gs, cs, rfl, ((HSH1.out.setCell HN1.out HN2.out _).setCell HN1.out HN2.out _).setCell HN1.out HN2.out _, ((HBE1.out.setCell (by simp) _).setCell (by simp) _).setCell (by simp) _⟩
end Go.Proofs.Ytdjhgnpllnmdmaa
