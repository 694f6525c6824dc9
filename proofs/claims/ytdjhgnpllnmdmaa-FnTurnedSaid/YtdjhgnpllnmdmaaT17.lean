/- Turned: bends. -/
import Derived.Test.YtdjhgnpllnmdmaaT16
set_option linter.unusedVariables false
set_option linter.unusedSectionVars false
set_option linter.unusedSimpArgs false
namespace Go.Proofs.Ytdjhgnpllnmdmaa
open Go.RowKit
attribute [local go_sem] r_addD r_subD r_mulD r_divD r_addS r_subS r_mulS r_divS r_wide r_narrow w_store r_neg r_subC r_addC
attribute [local go_sem ↓] Go.wp_at_zero Go.wp_at_succ

theorem c_toldNumbers (b n c : Nat) (l : List Nat) (w : World) (hr : FRow w b 0 l) (hn : n = l.length) (hm : n ≤ 1000000) (hA : FinL l) :
    Calls Try.prog 27 #[.slice (some ⟨b, 0, none⟩) n c] w fun e w' => e = .returned (.tuple #[.slice (some ⟨b, 0, none⟩) n c, .bool true]) ∧ w' = w := by
  have HF := hid (c_finite b 0 n c l w hr hn hm hA)
  clear hr hn hm hA
  go_enter Try.func27, Try.ntmps27
  go_wp2_with fail
  refine HF.out.mono ?_
  rintro e w' ⟨rfl, rfl⟩
  go_wp2_with fail
  refine bodyPost_ret (v := .tuple #[.slice (some ⟨b, 0, none⟩) n c, .bool true]) (by simp [results, Try.results27, go_sem]) rfl ⟨rfl, rfl⟩

/-- the bend at the point p, whose next one is q and whose last one is o -/
def bendO (p q o : Nat × Nat) : Option Nat :=
  (Q.subS q.1 p.1).bind fun dx => (Q.subS q.2 p.2).bind fun dy => (Q.subS p.1 o.1).bind fun ex => (Q.subS p.2 o.2).bind fun ey =>
  (mulO dx dy ex (neg32 ey)).bind fun m => angleO m.2 m.1
def Bends (n : Nat) (bl : List Nat) (w : World) (e : Ending) (w' : World) : Prop :=
  ∃ b c, e = .returned (.tuple #[.slice (some ⟨b, 0, none⟩) n c, .bool true]) ∧ FRow w' b 0 bl ∧ Below w.heap.size w w'
theorem take_snoc_getN (l : List Nat) (i : Nat) (h : i < l.length) : l.take (i + 1) = l.take i ++ [l.getD i 0] := by
  rw [List.take_succ_eq_append_getElem h]
  simp [List.getD, h]

set_option maxRecDepth 100000 in
set_option maxHeartbeats 4000000 in
theorem c_BendsOf (pb sb n c c' : Nat) (bl : List Nat) (pl : List (Nat × Nat)) (sl : List Nat) (w : World) (h : Sh w pb sb n pl sl)
    (hb : ∀ i, i < n → bendO (pl.getD i (0, 0)) (pl.getD ((i + 1) % n) (0, 0)) (pl.getD ((i + n - 1) % n) (0, 0)) = some (bl.getD i 0)) (hl : bl.length = n) (hf : FinL bl) :
    Calls Try.prog 8 #[.agg #[.slice (some ⟨pb, 0, none⟩) n c, .slice (some ⟨sb, 0, none⟩) n c', .bool true]] w (Bends n bl w) := by
  obtain ⟨i0, hi0, hz0, hz1, hz2⟩ := info_parts info_f32
  have h2 := h.lo
  have h48 := h.hi
  have HN := hid h.np
  have HV := hid (fun (wx : World) (hb : Below w.heap.size w wx) => c_ValidSheet pb sb n c c' true pl sl wx (h.below hb))
  have HP := hid h.pts
  have HBD := hid hb
  have HBL := hid hl
  have HFL := hid hf
  have HB0 := hid (below_new w (.cells #[.slice (some ⟨pb, 0, none⟩) n c, .slice (some ⟨sb, 0, none⟩) n c', .bool true] 29))
  have HK := hid (Blk.new w 29 #[.slice (some ⟨pb, 0, none⟩) n c, .slice (some ⟨sb, 0, none⟩) n c', .bool true])
  clear h hb hl hf
  go_enter Try.func8, Try.ntmps8
  go_wp2_with fail
  refine (HV.out _ HB0.out).mono ?_
  rintro e w1 ⟨rfl, hb⟩
  have hk := HK.out.below' hb
  have HB1 := hid (HB0.out.trans (hb.mono HB0.out.size))
  have HK1 := hid hk
  clear hb hk HV HB0 HK
  have d0 : w1.cell? ⟨w.heap.size, 0, none⟩ = some (.slice (some ⟨pb, 0, none⟩) n c) := HK1.out.cell 0
  go_wp2_with fail
  go_region_held3 (fun w' => w'.cell? ⟨w.heap.size, 0, none⟩ = some (.slice (some ⟨pb, 0, none⟩) n c)) (go_keep) (fail)
  have HST : Hid (Below w.heap.size w (w1.alloc (.cells #[] 25)).drew ∧ Blk (w1.alloc (.cells #[] 25)).drew w.heap.size 29 #[.slice (some ⟨pb, 0, none⟩) n c, .slice (some ⟨sb, 0, none⟩) n c', .bool true] ∧
      (w1.alloc (.cells #[] 25)).drew.ownsRow w.heap.size 25 1 (.slice (some ⟨w1.heap.size, 0, none⟩) 0 0) 0 (vl (bl.take 0))) := by
    refine hid ⟨below_drewN (HB1.out.alloc HB1.out.size _) 1, (HK1.out.alloc _).drew, rfl, .inr ⟨_, 0, #[], rfl, HB1.out.size, (Blk.new w1 _ _).drew, Nat.le_refl _, Nat.zero_le _, rfl, rfl⟩⟩
  have d0 : (w1.alloc (.cells #[] 25)).drew.cell? ⟨w.heap.size, 0, none⟩ = some (.slice (some ⟨pb, 0, none⟩) n c) := HST.out.2.1.cell 0
  generalize (w1.alloc (.cells #[] 25)).drew = w2 at *
  go_wp2_with fail
  clear d0
  go_loopw [4, 18] (fun a b wr => ∃ (i : Nat) (v : Value), i ≤ n ∧ b = .int .i64 i ∧ a = v ∧ Below w.heap.size w wr ∧ Blk wr w.heap.size 29 #[.slice (some ⟨pb, 0, none⟩) n c, .slice (some ⟨sb, 0, none⟩) n c', .bool true] ∧ wr.ownsRow w.heap.size 25 1 v i (vl (bl.take i))) (fun _ b _ => n - (intOf b).toNat)
  case atStart => exact ⟨0, _, Nat.zero_le _, rfl, rfl, HST.out.1, HST.out.2.1, HST.out.2.2⟩
  case round =>
    clear HST HB1 HK1
    obtain ⟨i, v, hi, rfl, rfl, hb, hB, hown⟩ := hrel
    by_cases hlt : i < n
    · have hbd := HBD.out i hlt
      have HTK := hid (take_snoc_getN bl i (by have := HBL.out; omega))
      have d0 : wr.cell? ⟨w.heap.size, 0, none⟩ = some (.slice (some ⟨pb, 0, none⟩) n c) := hB.cell 0
      have d2 : wr.cell? ⟨w.heap.size, 2, none⟩ = some (.bool true) := hB.cell 2
      have hrow := HP.out.below hb HP.out.1
      have hcell := hrow.2 i (by have := HN.out; omega)
      rw [Nat.zero_add] at hcell
      obtain ⟨j, hj⟩ : ∃ j, j = (i + n - 1) % n := ⟨_, rfl⟩
      have hjn : j < n := by rw [hj]; exact Nat.mod_lt _ (by omega)
      have hcell2 := hrow.2 j (by have := HN.out; omega)
      rw [Nat.zero_add] at hcell2
      rw [← hj] at hbd
      have HJ : Hid (((i : Int) + (n : Int) - 1) % (n : Int) = (j : Int)) := hid (by
        rw [hj, Int.natCast_emod]
        congr 1
        omega)
      have HNX : Hid (∀ wx : World, Below wr.heap.size wr wx → Calls Try.prog 24 #[.pointer (some ⟨w.heap.size, 0, none⟩), .int .i64 i] wx fun e w' => e = .returned (.complex .f32 (pl.getD ((i + 1) % n) (0, 0)).1 (pl.getD ((i + 1) % n) (0, 0)).2) ∧ Below wx.heap.size wx w') :=
        hid (fun wx hbx => (c_next w.heap.size pb n c i pl wx ((hB.below' hbx).cell 0) (HP.out.below (hb.trans (hbx.mono hb.size)) HP.out.1) HN.out h48 (by omega)).mono (fun e w' h => ⟨h.1, by obtain ⟨m, rfl⟩ := h.2; exact below_drewN (Below.refl _ _) m⟩))
      have HR : Hid (∀ wx : World, Below w.heap.size w wx → wx.cell? ⟨pb, j, none⟩ = some (.complex .f32 (pl.getD j (0, 0)).1 (pl.getD j (0, 0)).2)) := hid (fun wx hbx => by
        have h := (HP.out.below hbx HP.out.1).2 j (by have := HN.out; omega)
        rwa [Nat.zero_add] at h)
      have HW := hid (below_drewN (Below.refl wr.heap.size wr) 1)
      have HB := hid (below_drewN hb 1)
      have HK := hid (hB.drewN 1)
      have HOW := hid (own_below hown (below_drewN (Below.refl _ _) 1))
      have HMX : Hid (i + 1 ≤ maxLen) := hid (Nat.le_trans (show i + 1 ≤ 49 by omega) (by decide))
      have HY : Hid ((i + 1) * 4 ≤ 140737488355328) := hid (by omega)
      generalize pl.getD i (0, 0) = p at *
      generalize pl.getD ((i + 1) % n) (0, 0) = q at *
      generalize pl.getD j (0, 0) = o at *
      generalize bl.getD i 0 = ang at *
      unfold bendO at hbd
      obtain ⟨dx, h1, f1⟩ := bind_some hbd
      obtain ⟨dy, h2', f2⟩ := bind_some f1
      obtain ⟨ex, h3, f3⟩ := bind_some f2
      obtain ⟨ey, h4, f4⟩ := bind_some f3
      obtain ⟨⟨m1, m2⟩, h5, h6⟩ := bind_some f4
      have HC := hid (fun wx => c_ConjugateOf ex ey wx)
      have HM := hid (fun wx => c_MulComplex dx dy ex (neg32 ey) m1 m2 h5 wx)
      have HG := hid (fun wx => c_AngleOf m1 m2 ang h6 wx)
      have hin : (i : Int) < (n : Int) := by omega
      clear hbd hrow hb hB hown f1 f2 f3 f4 h5 h6 hj
      go_wp2_with fail
      have w1' : IntKind.i64.wrap ((i : Int) + (n : Int)) = (i : Int) + (n : Int) := IntWalk.i64_in _ (by omega)
      have w2' : IntKind.i64.wrap ((i : Int) + (n : Int) - 1) = (i : Int) + (n : Int) - 1 := IntWalk.i64_in _ (by omega)
      have hn0 : ¬ (n = 0) := by omega
      have hjn' : (j : Int) < (n : Int) := by omega
      have htm : ((i : Int) + (n : Int) - 1).tmod (n : Int) = (j : Int) := by rw [Int.tmod_eq_emod_of_nonneg (by omega)]; exact HJ.out
      go_region_held3 (fun w' => w'.cell? ⟨w.heap.size, 0, none⟩ = some (.slice (some ⟨pb, 0, none⟩) n c) ∧ w'.cell? ⟨pb, j, none⟩ = some (.complex .f32 o.1 o.2))
        (first | exact ⟨HK.out.cell 0, HR.out _ HB.out⟩ | exact ⟨(HK.out.alloc _).cell 0, HR.out _ (HB.out.alloc HB.out.size _)⟩)
        (first
          | (go_at_call 24
             refine (HNX.out _ HW.out).mono ?_
             rintro e wa ⟨rfl, hbn⟩
             have HOW := hid (own_below HOW.out hbn)
             have HK := hid (HK.out.below' hbn)
             have HB := hid (HB.out.trans (hbn.mono HB.out.size))
             clear hbn)
          | (go_at_call 25
             refine (HC.out _).mono ?_
             rintro e w' ⟨rfl, rfl⟩)
          | (go_at_call 23
             refine (HM.out _).mono ?_
             rintro e w' ⟨rfl, rfl⟩)
          | (go_at_call 22
             refine (HG.out _).mono ?_
             rintro e wb ⟨rfl, hbn⟩
             have HOW := hid (own_below HOW.out hbn)
             have HK := hid (HK.out.below' hbn)
             have HB := hid (HB.out.trans (hbn.mono HB.out.size))
             clear hbn)
          | (refine step_append_lies _ (by rfl) _ _ _ (by rfl) w.heap.size 25 i0 _ 1 4 Try.underlying27 hi0 hz0 hz1 hz2 rfl Nat.one_pos u4 i (vl (bl.take i)) (by rfl) (HOW.out.alloc _) ⟨wb.heap.size, 0, none⟩ 1 1 [.float .f32 ang] (by rfl) (by rfl) (World.news_of_block (cs := #[.float .f32 ang]) (t := 25) (fr := (0, 0)) (heap_alloc_new wb _)) (fun u hu => by rw [List.mem_singleton.1 hu]; rfl) Nat.one_pos HMX.out HY.out (HB.out.alloc HB.out.size _).size (wb.heap.size + 1) (World.size_alloc _ _) ?_
             intro gg cp wd hown1 hgrow hat hlt3
             have HB := hid ((HB.out.alloc HB.out.size (.cells #[.float .f32 ang] 25)).grown hgrow (HB.out.alloc HB.out.size (.cells #[.float .f32 ang] 25)).size (fun j hj => ((HOW.out.alloc (.cells #[.float .f32 ang] 25)).lt j hj).1))
             have HK := hid ((HK.out.alloc (.cells #[.float .f32 ang] 25)).grown hgrow (fun e => own_blk_ne (HOW.out.alloc _) (HK.out.alloc (.cells #[.float .f32 ang] 25)) (by decide) e.symm))
             have HOW := hid hown1
             clear hown1 hgrow hat hlt3))
      all_goals
        clear w1' w2' hn0 hjn' htm d0 d2 hcell hcell2 h1 h2' h3 h4 hin
        go_wp2
        go_roundw
        case rel =>
          refine ⟨i + 1, .slice (some ⟨gg, 0, none⟩) (i + 1) cp, by omega, by go_num, rfl, HB.out, HK.out, ?_⟩
          rw [HTK.out, vl_snoc]
          exact HOW.out
        case measure => simp [intOf]; omega
    · obtain rfl : i = n := by omega
      obtain ⟨gg, cp, rfl, hgb, hglt⟩ := hown.form (by omega)
      have HTK : Hid (bl.take i = bl) := hid (List.take_of_length_le (by have := HBL.out; omega))
      rw [HTK.out] at hown
      have HROW := hid (frow_of_own hown HBL.out.symm hglt)
      have HTN := hid (c_toldNumbers gg i cp bl wr HROW.out HBL.out.symm (by omega) HFL.out)
      have HB := hid hb
      clear hlt hown hb hB
      go_wp2_with fail
      refine HTN.out.mono ?_
      rintro e w' ⟨rfl, rfl⟩
      go_wp2_with fail
      refine bodyPost_ret (v := .tuple #[.slice (some ⟨gg, 0, none⟩) i cp, .bool true]) (by simp [results, Try.results8, go_sem]) rfl ?_
      exact ⟨gg, cp, rfl, HROW.out, HB.out⟩
end Go.Proofs.Ytdjhgnpllnmdmaa
