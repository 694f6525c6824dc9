/- The walk of FnTurned. -/
import Derived.Test.YtdjhgnpllnmdmaaT22
set_option linter.unusedVariables false
set_option linter.unusedSectionVars false
set_option linter.unusedSimpArgs false
namespace Go.Proofs.Ytdjhgnpllnmdmaa
open Go.RowKit
attribute [local go_sem] w_storeC r_addD r_subD r_mulD r_divD r_addS r_subS r_mulS r_divS r_wide r_narrow w_store r_neg r_subC r_addC
attribute [local go_sem ↓] Go.wp_at_zero Go.wp_at_succ

/-- A SHEET BEHIND A POINTER: its block, its rows. -/
structure ShP (w : World) (g pb c sb c' n : Nat) (pl : List (Nat × Nat)) (sl : List Nat) : Prop where
  blk : Blk w g 29 #[.slice (some ⟨pb, 0, none⟩) n c, .slice (some ⟨sb, 0, none⟩) n c', .bool true]
  sh : Sh w pb sb n pl sl
theorem ShP.below {w w' : World} {g pb c sb c' n : Nat} {pl : List (Nat × Nat)} {sl : List Nat} (h : ShP w g pb c sb c' n pl sl) (hb : Below w.heap.size w w') : ShP w' g pb c sb c' n pl sl := ⟨h.blk.below' hb, h.sh.below hb⟩
theorem ShP.new {w : World} {pb c sb c' n : Nat} {pl : List (Nat × Nat)} {sl : List Nat} (h : Sh w pb sb n pl sl) : ShP (w.alloc (.cells #[.slice (some ⟨pb, 0, none⟩) n c, .slice (some ⟨sb, 0, none⟩) n c', .bool true] 29)) w.heap.size pb c sb c' n pl sl := ⟨Blk.new w _ _, h.below (below_new w _)⟩

set_option maxRecDepth 100000 in
set_option maxHeartbeats 16000000 in
theorem c_FnTurned (A0 A1 : Option Addr) (len0 cap0 len1 cap1 : Nat) (w : World) (hcase : ∀ k1 k2, k1 < 12 → k2 < 8 → Case (3 + k1) (1 + k2)) (h0 : BIn w A0 len0) (hl0 : len0 ≤ 9223372036854775807) (hl1 : len1 ≤ 9223372036854775807) :
    Calls Try.prog 3 #[.slice A0 len0 cap0, .slice A1 len1 cap1] w fun e w' => e = .returned (.bool true) ∧ Below w.heap.size w w' := by
  have HB0 := hid h0
  have HCS := hid hcase
  have HLong := hid (c_b10Long A0 A1 len0 cap0 len1 cap1 hl0 hl1 w)
  clear h0 hcase
  by_cases hlong : 1048576 < len0 ∨ 1048576 < len1
  · have hd : (decide (1048576 < len0) || decide (1048576 < len1)) = true := by simpa using hlong
    rw [hd] at HLong
    clear hd hlong
    go_enter Try.func3, Try.ntmps3
    go_wp2_with fail
    refine HLong.out.mono ?_
    rintro e w' ⟨rfl, rfl⟩
    go_wp2_with fail
    go_ret
    exact ⟨rfl, Below.refl _ _⟩
  have hd : (decide (1048576 < len0) || decide (1048576 < len1)) = false := by
    simp only [Bool.or_eq_false_iff, decide_eq_false_iff_not]
    omega
  rw [hd] at HLong
  have hl48 : len0 ≤ 2000000 := by omega
  clear hd hlong hl0 hl1
  go_enter Try.func3, Try.ntmps3
  go_wp2_with fail
  refine HLong.out.mono ?_
  rintro e w' ⟨rfl, rfl⟩
  clear HLong
  go_wp2_with fail
  refine (c_b10At A0 len0 cap0 0 12 w HB0.out hl48 (by omega) (by omega) (by omega)).mono ?_
  rintro e w1 ⟨k1, hk1, rfl, hb1⟩
  have HBW := hid hb1
  have HB1 := hid (HB0.out.below hb1)
  clear hb1
  go_wp2_with fail
  obtain ⟨n, hn⟩ : ∃ n : Nat, n = 3 + k1 := ⟨_, rfl⟩
  have hn2 : (3 : Int) + (k1 : Int) = (n : Int) := by omega
  rw [hn2]
  clear hn2
  refine (c_b10At A0 len0 cap0 1 8 w1 HB1.out hl48 (by omega) (by omega) (by omega)).mono ?_
  rintro e w2 ⟨k2, hk2, rfl, hb2⟩
  have HBW := hid (HBW.out.trans (hb2.mono HBW.out.size))
  clear hb2 HB0 HB1
  have hcs := HCS.out k1 k2 hk1 hk2
  rw [← hn] at hcs
  obtain ⟨r, T, B, K, W, a0, a1, a2, al, ar, x2, xo, hc⟩ := hcs
  have HC := hid hc
  have h3 : 3 ≤ n := by omega
  have h14 : n ≤ 14 := by omega
  have hf : floatOfInt .f32 (1 + (k2 : Int)) = Q.ofNatS (1 + k2) := by
    have h := ofNatS_f (1 + k2)
    rwa [show ((1 + k2 : Nat) : Int) = 1 + (k2 : Int) by omega] at h
  have hr := hc.hr
  clear hn hk1 hc HCS
  go_wp2_with fail
  clear hf hr hk2
  refine (c_RingSheet n r 1065353216 T w2 HC.out.pT HC.out.lT h3 (by omega) HC.out.fT (by decide) HC.out.fr HC.out.go).mono ?_
  rintro e w3 ⟨pb, c, sb, c', rfl, hsh, hb3⟩
  have HS7 := hid (ShP.new (c := c) (c' := c') hsh)
  have HBW := hid ((HBW.out.trans (hb3.mono HBW.out.size)).alloc (Nat.le_trans HBW.out.size hb3.size) (.cells #[.slice (some ⟨pb, 0, none⟩) n c, .slice (some ⟨sb, 0, none⟩) n c', .bool true] 29))
  clear hb3 hsh
  go_wp2_with fail
  obtain ⟨g7, hg7⟩ : ∃ g, g = w3.heap.size := ⟨_, rfl⟩
  obtain ⟨wc, hwc⟩ : ∃ wc, wc = w3.alloc (.cells #[.slice (some ⟨pb, 0, none⟩) n c, .slice (some ⟨sb, 0, none⟩) n c', .bool true] 29) := ⟨_, rfl⟩
  rw [← hwc, ← hg7] at HS7
  rw [← hwc] at HBW
  rw [← hwc, ← hg7]
  clear hwc hg7
  refine (c_AroundPoint pb sb n c c' 0 0 a0 T (List.replicate n 1065353216) wc HS7.out.sh (by decide) (by decide) HC.out.i0 HC.out.f0).mono ?_
  rintro e wc ⟨rfl, hbn⟩
  have HS7 := hid (HS7.out.below hbn)
  have HBW := hid (HBW.out.trans (hbn.mono HBW.out.size))
  clear hbn
  have d70 : wc.cell? ⟨g7, 0, none⟩ = some (.slice (some ⟨pb, 0, none⟩) n c) := HS7.out.blk.cell 0
  have d71 : wc.cell? ⟨g7, 1, none⟩ = some (.slice (some ⟨sb, 0, none⟩) n c') := HS7.out.blk.cell 1
  have d72 : wc.cell? ⟨g7, 2, none⟩ = some (.bool true) := HS7.out.blk.cell 2
  have hx2 := HC.out.h2
  have hxo := HC.out.ho
  go_wp2_with fail
  clear d70 d71 d72
  clear hx2 hxo
  refine (c_AroundPoint pb sb n c c' xo 1040187392 a1 T (List.replicate n 1065353216) wc HS7.out.sh HC.out.fo (by decide) HC.out.i1 HC.out.f1).mono ?_
  rintro e wc ⟨rfl, hbn⟩
  have HS7 := hid (HS7.out.below hbn)
  have HBW := hid (HBW.out.trans (hbn.mono HBW.out.size))
  clear hbn
  have d70 : wc.cell? ⟨g7, 0, none⟩ = some (.slice (some ⟨pb, 0, none⟩) n c) := HS7.out.blk.cell 0
  have d71 : wc.cell? ⟨g7, 1, none⟩ = some (.slice (some ⟨sb, 0, none⟩) n c') := HS7.out.blk.cell 1
  have d72 : wc.cell? ⟨g7, 2, none⟩ = some (.bool true) := HS7.out.blk.cell 2
  go_wp2_with fail
  clear d70 d71 d72
  refine (c_BendsOf pb sb n c c' B T (List.replicate n 1065353216) wc HS7.out.sh HC.out.bB HC.out.lB HC.out.fB).mono ?_
  rintro e wc ⟨bb, cb, rfl, hrow, hbn⟩
  have HRB := hid hrow
  have HS7 := hid (HS7.out.below hbn)
  have HBW := hid (HBW.out.trans (hbn.mono HBW.out.size))
  clear hbn hrow
  have d70 : wc.cell? ⟨g7, 0, none⟩ = some (.slice (some ⟨pb, 0, none⟩) n c) := HS7.out.blk.cell 0
  have d71 : wc.cell? ⟨g7, 1, none⟩ = some (.slice (some ⟨sb, 0, none⟩) n c') := HS7.out.blk.cell 1
  have d72 : wc.cell? ⟨g7, 2, none⟩ = some (.bool true) := HS7.out.blk.cell 2
  have hbk := c_BackSheet pb sb n c c' true T (List.replicate n 1065353216) wc HS7.out.sh (by rw [HC.out.kT]; exact HC.out.fK) HC.out.fS
  rw [HC.out.kT] at hbk
  have HBK := hid hbk
  clear hbk
  go_wp2_with fail
  clear d70 d71 d72
  refine HBK.out.mono ?_
  clear HBK
  rintro e wc ⟨pb2, c2, sb2, c2', rfl, hsh, hbn⟩
  have HS7 := hid (HS7.out.below hbn)
  have HRB := hid (HRB.out.below hbn HRB.out.1)
  have HBW := hid (HBW.out.trans (hbn.mono HBW.out.size))
  clear hbn
  have hbn := below_new wc (.cells #[.slice (some ⟨pb2, 0, none⟩) n c2, .slice (some ⟨sb2, 0, none⟩) n c2', .bool true] 29)
  have HS15 := hid (ShP.new (c := c2) (c' := c2') hsh)
  have HS7 := hid (HS7.out.below hbn)
  have HRB := hid (HRB.out.below hbn HRB.out.1)
  have HBW := hid (HBW.out.trans (hbn.mono HBW.out.size))
  clear hbn hsh
  obtain ⟨g15, hg15⟩ : ∃ g, g = wc.heap.size := ⟨_, rfl⟩
  rw [← hg15] at HS15
  go_wp2_with fail
  rw [← hg15]
  generalize wc.alloc (.cells #[.slice (some ⟨pb2, 0, none⟩) n c2, .slice (some ⟨sb2, 0, none⟩) n c2', .bool true] 29) = wc at *
  clear hg15
  have d70 : wc.cell? ⟨g7, 0, none⟩ = some (.slice (some ⟨pb, 0, none⟩) n c) := HS7.out.blk.cell 0
  have d71 : wc.cell? ⟨g7, 1, none⟩ = some (.slice (some ⟨sb, 0, none⟩) n c') := HS7.out.blk.cell 1
  have d72 : wc.cell? ⟨g7, 2, none⟩ = some (.bool true) := HS7.out.blk.cell 2
  have d150 : wc.cell? ⟨g15, 0, none⟩ = some (.slice (some ⟨pb2, 0, none⟩) n c2) := HS15.out.blk.cell 0
  have d151 : wc.cell? ⟨g15, 1, none⟩ = some (.slice (some ⟨sb2, 0, none⟩) n c2') := HS15.out.blk.cell 1
  have d152 : wc.cell? ⟨g15, 2, none⟩ = some (.bool true) := HS15.out.blk.cell 2
  go_wp2_with fail
  clear d70 d71 d72 d150 d151 d152
  refine (c_AroundPoint pb2 sb2 n c2 c2' 0 0 a2 K (revF 0 n (n / 2) (List.replicate n 1065353216)) wc HS15.out.sh (by decide) (by decide) HC.out.i2 HC.out.f2).mono ?_
  rintro e wc ⟨rfl, hbn⟩
  have HS7 := hid (HS7.out.below hbn)
  have HS15 := hid (HS15.out.below hbn)
  have HRB := hid (HRB.out.below hbn HRB.out.1)
  have HBW := hid (HBW.out.trans (hbn.mono HBW.out.size))
  clear hbn
  have d70 : wc.cell? ⟨g7, 0, none⟩ = some (.slice (some ⟨pb, 0, none⟩) n c) := HS7.out.blk.cell 0
  have d71 : wc.cell? ⟨g7, 1, none⟩ = some (.slice (some ⟨sb, 0, none⟩) n c') := HS7.out.blk.cell 1
  have d72 : wc.cell? ⟨g7, 2, none⟩ = some (.bool true) := HS7.out.blk.cell 2
  go_wp2_with fail
  clear d70 d71 d72
  refine (c_SheetArea pb sb n c c' al ar true T (List.replicate n 1065353216) wc HS7.out.sh HC.out.ia HC.out.da HC.out.fa).mono ?_
  rintro e wc ⟨rfl, hbn⟩
  have HS7 := hid (HS7.out.below hbn)
  have HS15 := hid (HS15.out.below hbn)
  have HRB := hid (HRB.out.below hbn HRB.out.1)
  have HBW := hid (HBW.out.trans (hbn.mono HBW.out.size))
  clear hbn
  have d70 : wc.cell? ⟨g7, 0, none⟩ = some (.slice (some ⟨pb, 0, none⟩) n c) := HS7.out.blk.cell 0
  have d71 : wc.cell? ⟨g7, 1, none⟩ = some (.slice (some ⟨sb, 0, none⟩) n c') := HS7.out.blk.cell 1
  have d72 : wc.cell? ⟨g7, 2, none⟩ = some (.bool true) := HS7.out.blk.cell 2
  go_wp2_with fail
  clear d70 d71 d72
  refine (c_WaveSheet pb sb n c c' 1065353216 0 true T W (List.replicate n 1065353216) wc HS7.out.sh HC.out.wv (by decide) (by decide) HC.out.fW).mono ?_
  rintro e wc ⟨pb3, c3, sb3, c3', rfl, hsh, hbn⟩
  have HS7 := hid (HS7.out.below hbn)
  have HS15 := hid (HS15.out.below hbn)
  have HRB := hid (HRB.out.below hbn HRB.out.1)
  have HBW := hid (HBW.out.trans (hbn.mono HBW.out.size))
  clear hbn
  have hbn := below_new wc (.cells #[.slice (some ⟨pb3, 0, none⟩) n c3, .slice (some ⟨sb3, 0, none⟩) n c3', .bool true] 29)
  have HS21 := hid (ShP.new (c := c3) (c' := c3') hsh)
  have HS7 := hid (HS7.out.below hbn)
  have HS15 := hid (HS15.out.below hbn)
  have HRB := hid (HRB.out.below hbn HRB.out.1)
  have HBW := hid (HBW.out.trans (hbn.mono HBW.out.size))
  clear hbn hsh
  obtain ⟨g21, hg21⟩ : ∃ g, g = wc.heap.size := ⟨_, rfl⟩
  rw [← hg21] at HS21
  obtain ⟨x0, y0, hw0, hy0, ho0⟩ := HC.out.n0
  obtain ⟨x1, y1, hw1, hy1, ho1⟩ := HC.out.n1
  obtain ⟨x2', y2, hw2, hy2, ho2⟩ := HC.out.n2
  have HG0 := hid (fun wx => c_b10Gap x0 4607182418800017408 y0 hy0 wx)
  have HG1 := hid (fun wx => c_b10Gap x1 0 y1 hy1 wx)
  have HG2 := hid (fun wx => c_b10Gap x2' 13830554455654793216 y2 hy2 wx)
  have k0 : FloatKind.f64.format.order y0 4562254508917369340 = some .lt := Q.ordD_eq ho0
  have k1' : FloatKind.f64.format.order y1 4562254508917369340 = some .lt := Q.ordD_eq ho1
  have k2' : FloatKind.f64.format.order y2 4562254508917369340 = some .lt := Q.ordD_eq ho2
  have k3 : FloatKind.f32.format.order ar 0 = some .gt := Q.ordS_eq HC.out.oa
  clear hy0 hy1 hy2 ho0 ho1 ho2
  have D70 := hid (HS7.out.blk.cell 0)
  go_wp2_with fail
  rw [← hg21]
  generalize wc.alloc (.cells #[.slice (some ⟨pb3, 0, none⟩) n c3, .slice (some ⟨sb3, 0, none⟩) n c3', .bool true] 29) = wc at *
  clear hg21 D70
  have d70 : wc.cell? ⟨g7, 0, none⟩ = some (.slice (some ⟨pb, 0, none⟩) n c) := HS7.out.blk.cell 0
  have d71 : wc.cell? ⟨g7, 1, none⟩ = some (.slice (some ⟨sb, 0, none⟩) n c') := HS7.out.blk.cell 1
  have d72 : wc.cell? ⟨g7, 2, none⟩ = some (.bool true) := HS7.out.blk.cell 2
  have d210 : wc.cell? ⟨g21, 0, none⟩ = some (.slice (some ⟨pb3, 0, none⟩) n c3) := HS21.out.blk.cell 0
  have d211 : wc.cell? ⟨g21, 1, none⟩ = some (.slice (some ⟨sb3, 0, none⟩) n c3') := HS21.out.blk.cell 1
  have d212 : wc.cell? ⟨g21, 2, none⟩ = some (.bool true) := HS21.out.blk.cell 2
  refine (HG0.out _).mono ?_
  rintro e w' ⟨rfl, rfl⟩
  go_wp2_with fail
  refine (HG1.out _).mono ?_
  rintro e w' ⟨rfl, rfl⟩
  go_wp2_with fail
  refine (HG2.out _).mono ?_
  rintro e w' ⟨rfl, rfl⟩
  go_wp2_with fail
  clear d70 d71 d72 d210 d211 d212
  clear HG0 HG1 HG2 k0 k1' k2' k3 hw0 hw1 hw2
  obtain ⟨S, gS, hS, hgS, hoS⟩ := HC.out.lw
  have HGS := hid (fun wx => c_b10Gap S 4607182418800017408 gS hgS wx)
  have kS : FloatKind.f64.format.order gS 4562254508917369340 = some .lt := Q.ordD_eq hoS
  have HLF := hid hS
  clear hS hgS hoS
  have HN7 := hid HS7.out.sh.np
  have HN21 := hid HS21.out.sh.np
  have HNB := hid HC.out.lB
  clear HC
  go_loopw [23, 150] (fun a b wr => ∃ (i j s : Nat), j + i = n ∧ b = .int .i64 i ∧ a = .float .f64 s ∧ lawF n B W T j s = some S ∧ Below w'.heap.size w' wr) (fun _ b _ => n - (intOf b).toNat)
  case atStart => exact ⟨0, n, 0, rfl, rfl, rfl, HLF.out, Below.refl _ _⟩
  case round =>
    clear HLF
    obtain ⟨i, j, s, hij, rfl, rfl, hl, hb⟩ := hrel
    by_cases hj : 1 ≤ j
    · rw [lawF_step n j i s B W T hj hij] at hl
      obtain ⟨s', hst, hl2⟩ := bind_some hl
      have HL := hid hl2
      have h7 := HS7.out.below hb
      have h21 := HS21.out.below hb
      have e7 : wr.cell? ⟨g7, 0, none⟩ = some (.slice (some ⟨pb, 0, none⟩) n c) := h7.blk.cell 0
      have e21 : wr.cell? ⟨g21, 0, none⟩ = some (.slice (some ⟨pb3, 0, none⟩) n c3) := h21.blk.cell 0
      have c7 := h7.sh.pts.2 i (by have := HN7.out; omega)
      have c21 := h21.sh.pts.2 i (by have := HN21.out; omega)
      have cB := (HRB.out.below hb HRB.out.1).2 i (by have := HNB.out; omega)
      rw [Nat.zero_add] at c7 c21 cB
      have HBE := hid hb
      clear hl hl2 h7 h21 hb
      generalize T.getD i (0, 0) = t at *
      generalize W.getD i (0, 0) = p at *
      generalize B.getD i 0 = b at *
      obtain ⟨wb, m, g, d, f1, f2, f3, f4, f5, f6, f7⟩ := lawStep_some hst
      have HGM := hid (fun wx => c_b10Gap m 4607182418800017408 g f4 wx)
      have HAP := hid (fun wx => c_b10Apart p.1 p.2 t.1 t.2 d f6 wx)
      have kg : FloatKind.f64.format.order g 4576918229304087675 = some .lt := Q.ordD_eq f5
      have kd : FloatKind.f64.format.order d 4562254508917369340 = some .lt := Q.ordD_eq f7
      have hfn := ofNatD_f n
      have hin : (i : Int) < (n : Int) := by omega
      have hi0 : (0 : Int) ≤ (i : Int) := by omega
      clear hst f4 f5 f6 f7
      go_wp2_with fail
      go_quiet ((first | (go_at_call 12; exact Calls.quiet_of_same (HGM.out _)) | (go_at_call 13; exact Calls.quiet_of_same (HAP.out _))))
      clear e7 e21 c7 c21 cB f1 f2 f3 kg kd hfn hin hi0 HGM HAP
      go_wp2
      go_roundw
      case rel => exact ⟨i + 1, j - 1, s', by omega, by go_num, rfl, HL.out, below_drewN HBE.out _⟩
      case measure => simp [intOf]; omega
    · obtain rfl : j = 0 := by omega
      obtain rfl : i = n := by omega
      have hs : s = S := Option.some.inj hl
      subst hs
      have HBE := hid (HBW.out.trans (hb.mono HBW.out.size))
      clear hl hb hj hij
      go_wp2_with fail
      refine (HGS.out _).mono ?_
      rintro e w' ⟨rfl, rfl⟩
      go_wp2_with fail
      go_ret
      exact ⟨rfl, HBE.out⟩
end Go.Proofs.Ytdjhgnpllnmdmaa
