/- The walk of FnBasins. -/
import Derived.Test.YtihknapgdkladaaL4
set_option linter.unusedSectionVars false
set_option linter.unusedSimpArgs false
set_option linter.unusedVariables false
namespace Go.Proofs.Ytihknapgdkladaa
open Go.RowKit Fl
attribute [local go_sem] w_store w_add w_sub w_mul w_addD w_subD w_mulD
attribute [local go_sem ↓] Go.wp_at_zero Go.wp_at_succ

/-- A BASIN IN MEMORY: its block, its row. -/
structure Bas (w : World) (g W H gg cap : Nat) (l : List Nat) : Prop where
  blk : Blk w g 26 #[.int .i64 W, .int .i64 H, .slice (some ⟨gg, 0, none⟩) (W * H) cap]
  row : FRow w gg 0 l
  len : l.length = W * H
theorem Bas.below {w w' : World} {g W H gg cap : Nat} {l : List Nat} (h : Bas w g W H gg cap l) (hb : Below w.heap.size w w') : Bas w' g W H gg cap l :=
  ⟨h.blk.below' hb, h.row.below hb h.row.1, h.len⟩
theorem Bas.inb {w : World} {g W H gg cap : Nat} {l : List Nat} (h : Bas w g W H gg cap l) (hs : Siz W H) (hn : AllNum l) : InB w W H gg 0 (W * H) l :=
  ⟨hs, h.row, h.len.symm, h.len, hn⟩
theorem Bas.new {w : World} {W H gg cap : Nat} {l : List Nat} (h : FRow w gg 0 l) (hl : l.length = W * H) : Bas (w.alloc (.cells #[.int .i64 W, .int .i64 H, .slice (some ⟨gg, 0, none⟩) (W * H) cap] 26)) w.heap.size W H gg cap l :=
  ⟨Blk.new w _ _, h.alloc _, hl⟩
theorem below_alloc (w : World) (o : Obj) : Below w.heap.size w (w.alloc o) := (Below.refl _ _).alloc (Nat.le_refl _) o
theorem w_wide (w : World) (b : Nat) (h : Num Ieee.single b) : (convert 32 37 (.float .f32 b)).run Try.prog w = .ok (.float .f64 (wide b)) w :=
  run_convert_float_float w 32 37 .f32 .f64 b _ (by rw [Try.underlying32]; rfl) Try.underlying37 (wide_num h).1
attribute [local go_sem] w_wide
theorem numD0 : Num Ieee.double 0 ∧ fv Ieee.double 0 = 0 := by
  have h : Ieee.double.read 0 = .number false 0 (-1074) := by decide +kernel
  exact ⟨⟨_, _, _, h⟩, by rw [fv_num h]; simp⟩
theorem BIn.le {w w' : World} {A : Option Addr} {len B : Nat} (h : BIn w A len) (hb : Below w.heap.size w w') : BIn w' A len := h.below hb


set_option maxRecDepth 100000 in
set_option maxHeartbeats 16000000 in
theorem c_FnBasins (A0 A1 : Option Addr) (len0 cap0 len1 cap1 : Nat) (w : World) (h0 : BIn w A0 len0) (h1 : BIn w A1 len1) (hl0 : len0 ≤ 9223372036854775807) (hl1 : len1 ≤ 9223372036854775807) :
    Calls Try.prog 3 #[.slice A0 len0 cap0, .slice A1 len1 cap1] w fun e w' => e = .returned (.bool true) ∧ Below w.heap.size w w' := by
  have HB0 := hid h0
  have HB1 := hid h1
  have HLong := hid (c_r8Long A0 A1 len0 cap0 len1 cap1 hl0 hl1 w)
  clear h0 h1
  by_cases hlong : 48 < len0 ∨ 48 < len1
  · have hd : (decide (48 < len0) || decide (48 < len1)) = true := by simpa using hlong
    rw [hd] at HLong
    clear hd hlong
    go_enter Try.func3, Try.ntmps3
    go_wp2_with fail
    refine HLong.out.mono ?_
    rintro e w' ⟨rfl, rfl⟩
    go_wp2_with fail
    go_ret
    exact ⟨rfl, Below.refl _ _⟩
  have hd : (decide (48 < len0) || decide (48 < len1)) = false := by
    simp only [Bool.or_eq_false_iff, decide_eq_false_iff_not]
    omega
  rw [hd] at HLong
  have hl48 : len0 ≤ 1000 := by omega
  have hl49 : len1 ≤ 1000 := by omega
  clear hd hlong hl0 hl1
  have HBe := hid (Below.refl w.heap.size w)
  go_enter Try.func3, Try.ntmps3
  go_wp2_with fail
  refine HLong.out.mono ?_
  rintro e w' ⟨rfl, rfl⟩
  clear HLong
  go_wp2_with fail

  refine (c_R8Basin A0 len0 cap0 w HB0.out hl48).mono ?_
  rintro e v1 ⟨W, H, hs, hW6, hH6, la, ra, ca, hla, hga, rfl, hrow, hge, hb⟩
  have ga : GrL 16 la := GrL.of_mem (fun v hv => (hga v hv).fine 1 (by decide))
  have hWH : W * H ≤ 36 := Nat.mul_le_mul hW6 hH6
  clear hga
  have HBe := hid (HBe.out.trans (hb.mono HBe.out.size))
  clear hb
  have hn : Bas (v1.alloc (.cells #[.int .i64 W, .int .i64 H, .slice (some ⟨ra, 0, none⟩) (W * H) ca] 26)) v1.heap.size W H ra ca (la) := Bas.new hrow (by first | assumption | exact cl_length _ _ _ | (rw [List.length_set]; assumption))
  have Ha := hid hn
  clear hn hrow hge
  go_wp2_with fail
  have hb := below_alloc v1 (.cells #[.int .i64 W, .int .i64 H, .slice (some ⟨ra, 0, none⟩) (W * H) ca] 26)
  obtain ⟨xv1, hx⟩ : ∃ x, v1.alloc (.cells #[.int .i64 W, .int .i64 H, .slice (some ⟨ra, 0, none⟩) (W * H) ca] 26) = x := ⟨_, rfl⟩
  rw [hx] at hb Ha ⊢
  clear hx
  have HBe := hid (HBe.out.trans (hb.mono HBe.out.size))
  clear hb
  obtain ⟨ka, hk⟩ : ∃ k, v1.heap.size = k := ⟨_, rfl⟩
  rw [hk] at Ha ⊢
  clear hk
  refine (c_R8Like A1 (some ⟨ra, 0, none⟩) len1 cap1 W H _ ca xv1 (HB1.out.below HBe.out) hl49 rfl hs).mono ?_
  rintro e v2 ⟨lb, rb, cb, hlb, hgb, rfl, hrow, hge, hb⟩
  have gb : GrL 8 lb := GrL.of_mem hgb
  clear hgb
  have HBe := hid (HBe.out.trans (hb.mono HBe.out.size))
  have Ha := hid (Ha.out.below hb)
  clear hb
  have hn : Bas (v2.alloc (.cells #[.int .i64 W, .int .i64 H, .slice (some ⟨rb, 0, none⟩) (W * H) cb] 26)) v2.heap.size W H rb cb (lb) := Bas.new hrow (by first | assumption | exact cl_length _ _ _ | (rw [List.length_set]; assumption))
  have Hb := hid hn
  clear hn hrow hge
  have qa0 : v2.cell? ⟨ka, 0, none⟩ = some (.int .i64 W) := Ha.out.blk.cell 0
  have qa1 : v2.cell? ⟨ka, 1, none⟩ = some (.int .i64 H) := Ha.out.blk.cell 1
  have qa2 : v2.cell? ⟨ka, 2, none⟩ = some (.slice (some ⟨ra, 0, none⟩) (W * H) ca) := Ha.out.blk.cell 2
  have qa3 : ka < v2.heap.size := Ha.out.blk.lt
  go_wp2_with fail
  clear qa0 qa1 qa2 qa3
  have hb := below_alloc v2 (.cells #[.int .i64 W, .int .i64 H, .slice (some ⟨rb, 0, none⟩) (W * H) cb] 26)
  obtain ⟨xv2, hx⟩ : ∃ x, v2.alloc (.cells #[.int .i64 W, .int .i64 H, .slice (some ⟨rb, 0, none⟩) (W * H) cb] 26) = x := ⟨_, rfl⟩
  rw [hx] at hb Hb ⊢
  clear hx
  have HBe := hid (HBe.out.trans (hb.mono HBe.out.size))
  have Ha := hid (Ha.out.below hb)
  clear hb
  obtain ⟨kb, hk⟩ : ∃ k, v2.heap.size = k := ⟨_, rfl⟩
  rw [hk] at Hb ⊢
  clear hk
  have gs := sumL_gr ga gb hs hla hlb (by omega)
  refine (c_AddBasins W H ra 0 (W * H) ca rb 0 (W * H) cb la lb xv2 ⟨(Ha.out.inb hs ga.num), (Hb.out.inb hs gb.num)⟩ gs.num).mono ?_
  rintro e v3 ⟨rs, cs, rfl, hrow, hge, hb⟩
  have HBe := hid (HBe.out.trans (hb.mono HBe.out.size))
  have Ha := hid (Ha.out.below hb)
  have Hb := hid (Hb.out.below hb)
  clear hb
  have hn : Bas (v3.alloc (.cells #[.int .i64 W, .int .i64 H, .slice (some ⟨rs, 0, none⟩) (W * H) cs] 26)) v3.heap.size W H rs cs (sumL W H la lb) := Bas.new hrow (by first | assumption | exact cl_length _ _ _ | (rw [List.length_set]; assumption))
  have Hs := hid hn
  clear hn hrow hge
  have qa0 : v3.cell? ⟨ka, 0, none⟩ = some (.int .i64 W) := Ha.out.blk.cell 0
  have qa1 : v3.cell? ⟨ka, 1, none⟩ = some (.int .i64 H) := Ha.out.blk.cell 1
  have qa2 : v3.cell? ⟨ka, 2, none⟩ = some (.slice (some ⟨ra, 0, none⟩) (W * H) ca) := Ha.out.blk.cell 2
  have qa3 : ka < v3.heap.size := Ha.out.blk.lt
  go_wp2_with fail
  clear qa0 qa1 qa2 qa3
  have hb := below_alloc v3 (.cells #[.int .i64 W, .int .i64 H, .slice (some ⟨rs, 0, none⟩) (W * H) cs] 26)
  obtain ⟨xv3, hx⟩ : ∃ x, v3.alloc (.cells #[.int .i64 W, .int .i64 H, .slice (some ⟨rs, 0, none⟩) (W * H) cs] 26) = x := ⟨_, rfl⟩
  rw [hx] at hb Hs ⊢
  clear hx
  have HBe := hid (HBe.out.trans (hb.mono HBe.out.size))
  have Ha := hid (Ha.out.below hb)
  have Hb := hid (Hb.out.below hb)
  clear hb
  obtain ⟨ks, hk⟩ : ∃ k, v3.heap.size = k := ⟨_, rfl⟩
  rw [hk] at Hs ⊢
  clear hk
  obtain ⟨gx, Hlx⟩ := lapl_gr ga (by omega) hs (l := la) (by first | assumption | exact cl_length _ _ _)
  refine (c_LaplaceBasin W H ra 0 (W * H) ca _ xv3 (Ha.out.inb hs ga.num) Hlx (show AllNum (lapl W H (la)) from gx.num)).mono ?_
  rintro e v4 ⟨rx, cx, rfl, hrow, hge, hb⟩
  have HBe := hid (HBe.out.trans (hb.mono HBe.out.size))
  have Ha := hid (Ha.out.below hb)
  have Hb := hid (Hb.out.below hb)
  have Hs := hid (Hs.out.below hb)
  clear hb
  have hn : Bas (v4.alloc (.cells #[.int .i64 W, .int .i64 H, .slice (some ⟨rx, 0, none⟩) (W * H) cx] 26)) v4.heap.size W H rx cx (lapl W H (la)) := Bas.new hrow (by first | assumption | exact cl_length _ _ _ | (rw [List.length_set]; assumption))
  have Hx := hid hn
  clear hn hrow hge
  have qb0 : v4.cell? ⟨kb, 0, none⟩ = some (.int .i64 W) := Hb.out.blk.cell 0
  have qb1 : v4.cell? ⟨kb, 1, none⟩ = some (.int .i64 H) := Hb.out.blk.cell 1
  have qb2 : v4.cell? ⟨kb, 2, none⟩ = some (.slice (some ⟨rb, 0, none⟩) (W * H) cb) := Hb.out.blk.cell 2
  have qb3 : kb < v4.heap.size := Hb.out.blk.lt
  go_wp2_with fail
  clear qb0 qb1 qb2 qb3
  have hb := below_alloc v4 (.cells #[.int .i64 W, .int .i64 H, .slice (some ⟨rx, 0, none⟩) (W * H) cx] 26)
  obtain ⟨xv4, hx⟩ : ∃ x, v4.alloc (.cells #[.int .i64 W, .int .i64 H, .slice (some ⟨rx, 0, none⟩) (W * H) cx] 26) = x := ⟨_, rfl⟩
  rw [hx] at hb Hx ⊢
  clear hx
  have HBe := hid (HBe.out.trans (hb.mono HBe.out.size))
  have Ha := hid (Ha.out.below hb)
  have Hb := hid (Hb.out.below hb)
  have Hs := hid (Hs.out.below hb)
  clear hb
  obtain ⟨kx, hk⟩ : ∃ k, v4.heap.size = k := ⟨_, rfl⟩
  rw [hk] at Hx ⊢
  clear hk
  obtain ⟨gy, Hly⟩ := lapl_gr gb (by omega) hs (l := lb) (by first | assumption | exact cl_length _ _ _)
  refine (c_LaplaceBasin W H rb 0 (W * H) cb _ xv4 (Hb.out.inb hs gb.num) Hly (show AllNum (lapl W H (lb)) from gy.num)).mono ?_
  rintro e v5 ⟨ry, cy, rfl, hrow, hge, hb⟩
  have HBe := hid (HBe.out.trans (hb.mono HBe.out.size))
  have Ha := hid (Ha.out.below hb)
  have Hb := hid (Hb.out.below hb)
  have Hs := hid (Hs.out.below hb)
  have Hx := hid (Hx.out.below hb)
  clear hb
  have hn : Bas (v5.alloc (.cells #[.int .i64 W, .int .i64 H, .slice (some ⟨ry, 0, none⟩) (W * H) cy] 26)) v5.heap.size W H ry cy (lapl W H (lb)) := Bas.new hrow (by first | assumption | exact cl_length _ _ _ | (rw [List.length_set]; assumption))
  have Hy := hid hn
  clear hn hrow hge
  have qs0 : v5.cell? ⟨ks, 0, none⟩ = some (.int .i64 W) := Hs.out.blk.cell 0
  have qs1 : v5.cell? ⟨ks, 1, none⟩ = some (.int .i64 H) := Hs.out.blk.cell 1
  have qs2 : v5.cell? ⟨ks, 2, none⟩ = some (.slice (some ⟨rs, 0, none⟩) (W * H) cs) := Hs.out.blk.cell 2
  have qs3 : ks < v5.heap.size := Hs.out.blk.lt
  go_wp2_with fail
  clear qs0 qs1 qs2 qs3
  have hb := below_alloc v5 (.cells #[.int .i64 W, .int .i64 H, .slice (some ⟨ry, 0, none⟩) (W * H) cy] 26)
  obtain ⟨xv5, hx⟩ : ∃ x, v5.alloc (.cells #[.int .i64 W, .int .i64 H, .slice (some ⟨ry, 0, none⟩) (W * H) cy] 26) = x := ⟨_, rfl⟩
  rw [hx] at hb Hy ⊢
  clear hx
  have HBe := hid (HBe.out.trans (hb.mono HBe.out.size))
  have Ha := hid (Ha.out.below hb)
  have Hb := hid (Hb.out.below hb)
  have Hs := hid (Hs.out.below hb)
  have Hx := hid (Hx.out.below hb)
  clear hb
  obtain ⟨ky, hk⟩ : ∃ k, v5.heap.size = k := ⟨_, rfl⟩
  rw [hk] at Hy ⊢
  clear hk
  obtain ⟨gz, Hlz⟩ := lapl_gr gs (by omega) hs (l := sumL W H la lb) (by first | assumption | exact cl_length _ _ _)
  refine (c_LaplaceBasin W H rs 0 (W * H) cs _ xv5 (Hs.out.inb hs gs.num) Hlz (show AllNum (lapl W H (sumL W H la lb)) from gz.num)).mono ?_
  rintro e v6 ⟨rz, cz, rfl, hrow, hge, hb⟩
  have HBe := hid (HBe.out.trans (hb.mono HBe.out.size))
  have Ha := hid (Ha.out.below hb)
  have Hb := hid (Hb.out.below hb)
  have Hs := hid (Hs.out.below hb)
  have Hx := hid (Hx.out.below hb)
  have Hy := hid (Hy.out.below hb)
  clear hb
  have hn : Bas (v6.alloc (.cells #[.int .i64 W, .int .i64 H, .slice (some ⟨rz, 0, none⟩) (W * H) cz] 26)) v6.heap.size W H rz cz (lapl W H (sumL W H la lb)) := Bas.new hrow (by first | assumption | exact cl_length _ _ _ | (rw [List.length_set]; assumption))
  have Hz := hid hn
  clear hn hrow hge
  have qx0 : v6.cell? ⟨kx, 0, none⟩ = some (.int .i64 W) := Hx.out.blk.cell 0
  have qx1 : v6.cell? ⟨kx, 1, none⟩ = some (.int .i64 H) := Hx.out.blk.cell 1
  have qx2 : v6.cell? ⟨kx, 2, none⟩ = some (.slice (some ⟨rx, 0, none⟩) (W * H) cx) := Hx.out.blk.cell 2
  have qx3 : kx < v6.heap.size := Hx.out.blk.lt
  go_wp2_with fail
  clear qx0 qx1 qx2 qx3
  have hb := below_alloc v6 (.cells #[.int .i64 W, .int .i64 H, .slice (some ⟨rz, 0, none⟩) (W * H) cz] 26)
  obtain ⟨xv6, hx⟩ : ∃ x, v6.alloc (.cells #[.int .i64 W, .int .i64 H, .slice (some ⟨rz, 0, none⟩) (W * H) cz] 26) = x := ⟨_, rfl⟩
  rw [hx] at hb Hz ⊢
  clear hx
  have HBe := hid (HBe.out.trans (hb.mono HBe.out.size))
  have Ha := hid (Ha.out.below hb)
  have Hb := hid (Hb.out.below hb)
  have Hs := hid (Hs.out.below hb)
  have Hx := hid (Hx.out.below hb)
  have Hy := hid (Hy.out.below hb)
  clear hb
  obtain ⟨kz, hk⟩ : ∃ k, v6.heap.size = k := ⟨_, rfl⟩
  rw [hk] at Hz ⊢
  clear hk
  have hx36 : (lapl W H la).length ≤ 256 := by rw [lapl_len]; omega
  refine (c_TotalInBasin W H rx 0 (W * H) cx _ xv6 (Hx.out.inb hs gx.num) (sum_ok gx (by omega) hx36)).mono ?_
  have htot := lapl_total ga (by omega) hs hla
  have htn : Num Ieee.single (sumK (lapl W H la) (W * H)) := sum_ok gx (by omega) hx36 _ (by rw [lapl_len]; exact Nat.le_refl _)
  generalize sumK (lapl W H la) (W * H) = tot at htot htn ⊢
  rintro e v20 ⟨rfl, hb⟩
  have HBe := hid (HBe.out.trans (hb.mono HBe.out.size))
  have Ha := hid (Ha.out.below hb)
  have Hb := hid (Hb.out.below hb)
  have Hs := hid (Hs.out.below hb)
  have Hx := hid (Hx.out.below hb)
  have Hy := hid (Hy.out.below hb)
  have Hz := hid (Hz.out.below hb)
  clear hb
  go_wp2_with fail
  refine (c_r8At A1 len1 cap1 40 13 v20 (HB1.out.below HBe.out) hl49 (by omega) (by omega) (by omega)).mono ?_
  rintro e v21 ⟨iu, hiu, rfl, hb⟩
  have hu1 : (0 : Int) ≤ (iu : Int) := by omega
  have hu2 : (iu : Int) ≤ 12 := by omega
  have HBe := hid (HBe.out.trans (hb.mono HBe.out.size))
  have Ha := hid (Ha.out.below hb)
  have Hb := hid (Hb.out.below hb)
  have Hs := hid (Hs.out.below hb)
  have Hx := hid (Hx.out.below hb)
  have Hy := hid (Hy.out.below hb)
  have Hz := hid (Hz.out.below hb)
  clear hb
  go_wp2_with fail
  refine (c_r8At A1 len1 cap1 41 13 v21 (HB1.out.below HBe.out) hl49 (by omega) (by omega) (by omega)).mono ?_
  rintro e v22 ⟨iv, hiv, rfl, hb⟩
  have hv1 : (0 : Int) ≤ (iv : Int) := by omega
  have hv2 : (iv : Int) ≤ 12 := by omega
  have HBe := hid (HBe.out.trans (hb.mono HBe.out.size))
  have Ha := hid (Ha.out.below hb)
  have Hb := hid (Hb.out.below hb)
  have Hs := hid (Hs.out.below hb)
  have Hx := hid (Hx.out.below hb)
  have Hy := hid (Hy.out.below hb)
  have Hz := hid (Hz.out.below hb)
  clear hb
  have qa0 : v22.cell? ⟨ka, 0, none⟩ = some (.int .i64 W) := Ha.out.blk.cell 0
  have qa1 : v22.cell? ⟨ka, 1, none⟩ = some (.int .i64 H) := Ha.out.blk.cell 1
  have qa2 : v22.cell? ⟨ka, 2, none⟩ = some (.slice (some ⟨ra, 0, none⟩) (W * H) ca) := Ha.out.blk.cell 2
  have qa3 : ka < v22.heap.size := Ha.out.blk.lt
  go_wp2_with fail
  clear qa0 qa1 qa2 qa3
  obtain ⟨u, hu⟩ : ∃ u : Int, (iu : Int) - 6 = u := ⟨_, rfl⟩
  obtain ⟨v, hv⟩ : ∃ v : Int, (iv : Int) - 6 = v := ⟨_, rfl⟩
  have hu3 : -6 ≤ u := by omega
  have hu4 : u ≤ 6 := by omega
  have hv3 : -6 ≤ v := by omega
  have hv4 : v ≤ 6 := by omega
  rw [hu, hv]
  clear hu hv hu1 hu2 hv1 hv2 hiu hiv
  have gr := rollL_gr ga hs hla u v
  refine (c_RollBasin W H ra 0 (W * H) ca _ u v v22 (Ha.out.inb hs ga.num) (by omega) (by omega) (by omega) (by omega) (show AllNum (rollL W H la u v) from gr.num)).mono ?_
  rintro e v23 ⟨rr, cr, rfl, hrow, hge, hb⟩
  have HBe := hid (HBe.out.trans (hb.mono HBe.out.size))
  have Ha := hid (Ha.out.below hb)
  have Hb := hid (Hb.out.below hb)
  have Hs := hid (Hs.out.below hb)
  have Hx := hid (Hx.out.below hb)
  have Hy := hid (Hy.out.below hb)
  have Hz := hid (Hz.out.below hb)
  clear hb
  have hn : Bas (v23.alloc (.cells #[.int .i64 W, .int .i64 H, .slice (some ⟨rr, 0, none⟩) (W * H) cr] 26)) v23.heap.size W H rr cr (rollL W H la u v) := Bas.new hrow (by first | assumption | exact cl_length _ _ _ | (rw [List.length_set]; assumption))
  have Hr := hid hn
  clear hn hrow hge
  go_wp2_with fail
  have hb := below_alloc v23 (.cells #[.int .i64 W, .int .i64 H, .slice (some ⟨rr, 0, none⟩) (W * H) cr] 26)
  obtain ⟨xv23, hx⟩ : ∃ x, v23.alloc (.cells #[.int .i64 W, .int .i64 H, .slice (some ⟨rr, 0, none⟩) (W * H) cr] 26) = x := ⟨_, rfl⟩
  rw [hx] at hb Hr ⊢
  clear hx
  have HBe := hid (HBe.out.trans (hb.mono HBe.out.size))
  have Ha := hid (Ha.out.below hb)
  have Hb := hid (Hb.out.below hb)
  have Hs := hid (Hs.out.below hb)
  have Hx := hid (Hx.out.below hb)
  have Hy := hid (Hy.out.below hb)
  have Hz := hid (Hz.out.below hb)
  clear hb
  obtain ⟨kr, hk⟩ : ∃ k, v23.heap.size = k := ⟨_, rfl⟩
  rw [hk] at Hr ⊢
  clear hk
  have hback := back la hs hla u v
  refine (c_RollBasin W H rr 0 (W * H) cr _ (-u) (-v) xv23 (Hr.out.inb hs gr.num) (by omega) (by omega) (by omega) (by omega) (show AllNum (rollL W H (rollL W H la u v) (-u) (-v)) from by rw [hback]; exact ga.num)).mono ?_
  rintro e v24 ⟨rk, ck, rfl, hrow, hge, hb⟩
  have hrow : FRow v24 rk 0 la := by rw [← hback]; exact hrow
  have HBe := hid (HBe.out.trans (hb.mono HBe.out.size))
  have Ha := hid (Ha.out.below hb)
  have Hb := hid (Hb.out.below hb)
  have Hs := hid (Hs.out.below hb)
  have Hx := hid (Hx.out.below hb)
  have Hy := hid (Hy.out.below hb)
  have Hz := hid (Hz.out.below hb)
  have Hr := hid (Hr.out.below hb)
  clear hb
  have hn : Bas (v24.alloc (.cells #[.int .i64 W, .int .i64 H, .slice (some ⟨rk, 0, none⟩) (W * H) ck] 26)) v24.heap.size W H rk ck (la) := Bas.new hrow (by first | assumption | exact cl_length _ _ _ | (rw [List.length_set]; assumption))
  have Hk := hid hn
  clear hn hrow hge
  have qr0 : v24.cell? ⟨kr, 0, none⟩ = some (.int .i64 W) := Hr.out.blk.cell 0
  have qr1 : v24.cell? ⟨kr, 1, none⟩ = some (.int .i64 H) := Hr.out.blk.cell 1
  have qr2 : v24.cell? ⟨kr, 2, none⟩ = some (.slice (some ⟨rr, 0, none⟩) (W * H) cr) := Hr.out.blk.cell 2
  have qr3 : kr < v24.heap.size := Hr.out.blk.lt
  go_wp2_with fail
  clear qr0 qr1 qr2 qr3
  have hb := below_alloc v24 (.cells #[.int .i64 W, .int .i64 H, .slice (some ⟨rk, 0, none⟩) (W * H) ck] 26)
  obtain ⟨xv24, hx⟩ : ∃ x, v24.alloc (.cells #[.int .i64 W, .int .i64 H, .slice (some ⟨rk, 0, none⟩) (W * H) ck] 26) = x := ⟨_, rfl⟩
  rw [hx] at hb Hk ⊢
  clear hx
  have HBe := hid (HBe.out.trans (hb.mono HBe.out.size))
  have Ha := hid (Ha.out.below hb)
  have Hb := hid (Hb.out.below hb)
  have Hs := hid (Hs.out.below hb)
  have Hx := hid (Hx.out.below hb)
  have Hy := hid (Hy.out.below hb)
  have Hz := hid (Hz.out.below hb)
  have Hr := hid (Hr.out.below hb)
  clear hb
  obtain ⟨kk, hk⟩ : ∃ k, v24.heap.size = k := ⟨_, rfl⟩
  rw [hk] at Hk ⊢
  clear hk
  obtain ⟨gm, Hlm⟩ := lapl_gr gr (by omega) hs (l := rollL W H la u v) (by first | assumption | exact cl_length _ _ _)
  refine (c_LaplaceBasin W H rr 0 (W * H) cr _ xv24 (Hr.out.inb hs gr.num) Hlm (show AllNum (lapl W H (rollL W H la u v)) from gm.num)).mono ?_
  rintro e v25 ⟨rm, cm, rfl, hrow, hge, hb⟩
  have HBe := hid (HBe.out.trans (hb.mono HBe.out.size))
  have Ha := hid (Ha.out.below hb)
  have Hb := hid (Hb.out.below hb)
  have Hs := hid (Hs.out.below hb)
  have Hx := hid (Hx.out.below hb)
  have Hy := hid (Hy.out.below hb)
  have Hz := hid (Hz.out.below hb)
  have Hr := hid (Hr.out.below hb)
  have Hk := hid (Hk.out.below hb)
  clear hb
  have hn : Bas (v25.alloc (.cells #[.int .i64 W, .int .i64 H, .slice (some ⟨rm, 0, none⟩) (W * H) cm] 26)) v25.heap.size W H rm cm (lapl W H (rollL W H la u v)) := Bas.new hrow (by first | assumption | exact cl_length _ _ _ | (rw [List.length_set]; assumption))
  have Hm := hid hn
  clear hn hrow hge
  have qx0 : v25.cell? ⟨kx, 0, none⟩ = some (.int .i64 W) := Hx.out.blk.cell 0
  have qx1 : v25.cell? ⟨kx, 1, none⟩ = some (.int .i64 H) := Hx.out.blk.cell 1
  have qx2 : v25.cell? ⟨kx, 2, none⟩ = some (.slice (some ⟨rx, 0, none⟩) (W * H) cx) := Hx.out.blk.cell 2
  have qx3 : kx < v25.heap.size := Hx.out.blk.lt
  go_wp2_with fail
  clear qx0 qx1 qx2 qx3
  have hb := below_alloc v25 (.cells #[.int .i64 W, .int .i64 H, .slice (some ⟨rm, 0, none⟩) (W * H) cm] 26)
  obtain ⟨xv25, hx⟩ : ∃ x, v25.alloc (.cells #[.int .i64 W, .int .i64 H, .slice (some ⟨rm, 0, none⟩) (W * H) cm] 26) = x := ⟨_, rfl⟩
  rw [hx] at hb Hm ⊢
  clear hx
  have HBe := hid (HBe.out.trans (hb.mono HBe.out.size))
  have Ha := hid (Ha.out.below hb)
  have Hb := hid (Hb.out.below hb)
  have Hs := hid (Hs.out.below hb)
  have Hx := hid (Hx.out.below hb)
  have Hy := hid (Hy.out.below hb)
  have Hz := hid (Hz.out.below hb)
  have Hr := hid (Hr.out.below hb)
  have Hk := hid (Hk.out.below hb)
  clear hb
  obtain ⟨km, hk⟩ : ∃ k, v25.heap.size = k := ⟨_, rfl⟩
  rw [hk] at Hm ⊢
  clear hk
  have gw := rollL_gr gx hs (lapl_len W H la) u v
  refine (c_RollBasin W H rx 0 (W * H) cx _ u v xv25 (Hx.out.inb hs gx.num) (by omega) (by omega) (by omega) (by omega) (show AllNum (rollL W H (lapl W H la) u v) from gw.num)).mono ?_
  rintro e v26 ⟨rw, cw, rfl, hrow, hge, hb⟩
  have HBe := hid (HBe.out.trans (hb.mono HBe.out.size))
  have Ha := hid (Ha.out.below hb)
  have Hb := hid (Hb.out.below hb)
  have Hs := hid (Hs.out.below hb)
  have Hx := hid (Hx.out.below hb)
  have Hy := hid (Hy.out.below hb)
  have Hz := hid (Hz.out.below hb)
  have Hr := hid (Hr.out.below hb)
  have Hk := hid (Hk.out.below hb)
  have Hm := hid (Hm.out.below hb)
  clear hb
  have hn : Bas (v26.alloc (.cells #[.int .i64 W, .int .i64 H, .slice (some ⟨rw, 0, none⟩) (W * H) cw] 26)) v26.heap.size W H rw cw (rollL W H (lapl W H la) u v) := Bas.new hrow (by first | assumption | exact cl_length _ _ _ | (rw [List.length_set]; assumption))
  have Hw := hid hn
  clear hn hrow hge
  have qa0 : v26.cell? ⟨ka, 0, none⟩ = some (.int .i64 W) := Ha.out.blk.cell 0
  have qa1 : v26.cell? ⟨ka, 1, none⟩ = some (.int .i64 H) := Ha.out.blk.cell 1
  have qa2 : v26.cell? ⟨ka, 2, none⟩ = some (.slice (some ⟨ra, 0, none⟩) (W * H) ca) := Ha.out.blk.cell 2
  have qa3 : ka < v26.heap.size := Ha.out.blk.lt
  go_wp2_with fail
  clear qa0 qa1 qa2 qa3
  have hb := below_alloc v26 (.cells #[.int .i64 W, .int .i64 H, .slice (some ⟨rw, 0, none⟩) (W * H) cw] 26)
  obtain ⟨xv26, hx⟩ : ∃ x, v26.alloc (.cells #[.int .i64 W, .int .i64 H, .slice (some ⟨rw, 0, none⟩) (W * H) cw] 26) = x := ⟨_, rfl⟩
  rw [hx] at hb Hw ⊢
  clear hx
  have HBe := hid (HBe.out.trans (hb.mono HBe.out.size))
  have Ha := hid (Ha.out.below hb)
  have Hb := hid (Hb.out.below hb)
  have Hs := hid (Hs.out.below hb)
  have Hx := hid (Hx.out.below hb)
  have Hy := hid (Hy.out.below hb)
  have Hz := hid (Hz.out.below hb)
  have Hr := hid (Hr.out.below hb)
  have Hk := hid (Hk.out.below hb)
  have Hm := hid (Hm.out.below hb)
  clear hb
  obtain ⟨kw, hk⟩ : ∃ k, v26.heap.size = k := ⟨_, rfl⟩
  rw [hk] at Hw ⊢
  clear hk
  have gi := mirL_gr ga hs hla
  refine (c_MirrorBasin W H ra 0 (W * H) ca _ xv26 (Ha.out.inb hs ga.num) (show AllNum (mirL W H la) from gi.num)).mono ?_
  rintro e v27 ⟨ri, ci, rfl, hrow, hge, hb⟩
  have HBe := hid (HBe.out.trans (hb.mono HBe.out.size))
  have Ha := hid (Ha.out.below hb)
  have Hb := hid (Hb.out.below hb)
  have Hs := hid (Hs.out.below hb)
  have Hx := hid (Hx.out.below hb)
  have Hy := hid (Hy.out.below hb)
  have Hz := hid (Hz.out.below hb)
  have Hr := hid (Hr.out.below hb)
  have Hk := hid (Hk.out.below hb)
  have Hm := hid (Hm.out.below hb)
  have Hw := hid (Hw.out.below hb)
  clear hb
  have hn : Bas (v27.alloc (.cells #[.int .i64 W, .int .i64 H, .slice (some ⟨ri, 0, none⟩) (W * H) ci] 26)) v27.heap.size W H ri ci (mirL W H la) := Bas.new hrow (by first | assumption | exact cl_length _ _ _ | (rw [List.length_set]; assumption))
  have Hi := hid hn
  clear hn hrow hge
  go_wp2_with fail
  have hb := below_alloc v27 (.cells #[.int .i64 W, .int .i64 H, .slice (some ⟨ri, 0, none⟩) (W * H) ci] 26)
  obtain ⟨xv27, hx⟩ : ∃ x, v27.alloc (.cells #[.int .i64 W, .int .i64 H, .slice (some ⟨ri, 0, none⟩) (W * H) ci] 26) = x := ⟨_, rfl⟩
  rw [hx] at hb Hi ⊢
  clear hx
  have HBe := hid (HBe.out.trans (hb.mono HBe.out.size))
  have Ha := hid (Ha.out.below hb)
  have Hb := hid (Hb.out.below hb)
  have Hs := hid (Hs.out.below hb)
  have Hx := hid (Hx.out.below hb)
  have Hy := hid (Hy.out.below hb)
  have Hz := hid (Hz.out.below hb)
  have Hr := hid (Hr.out.below hb)
  have Hk := hid (Hk.out.below hb)
  have Hm := hid (Hm.out.below hb)
  have Hw := hid (Hw.out.below hb)
  clear hb
  obtain ⟨ki, hk⟩ : ∃ k, v27.heap.size = k := ⟨_, rfl⟩
  rw [hk] at Hi ⊢
  clear hk
  have htw := twice la hs hla
  refine (c_MirrorBasin W H ri 0 (W * H) ci _ xv27 (Hi.out.inb hs gi.num) (show AllNum (mirL W H (mirL W H la)) from by rw [htw]; exact ga.num)).mono ?_
  rintro e v28 ⟨rt, ct, rfl, hrow, hge, hb⟩
  have hrow : FRow v28 rt 0 la := by rw [← htw]; exact hrow
  have HBe := hid (HBe.out.trans (hb.mono HBe.out.size))
  have Ha := hid (Ha.out.below hb)
  have Hb := hid (Hb.out.below hb)
  have Hs := hid (Hs.out.below hb)
  have Hx := hid (Hx.out.below hb)
  have Hy := hid (Hy.out.below hb)
  have Hz := hid (Hz.out.below hb)
  have Hr := hid (Hr.out.below hb)
  have Hk := hid (Hk.out.below hb)
  have Hm := hid (Hm.out.below hb)
  have Hw := hid (Hw.out.below hb)
  have Hi := hid (Hi.out.below hb)
  clear hb
  have hn : Bas (v28.alloc (.cells #[.int .i64 W, .int .i64 H, .slice (some ⟨rt, 0, none⟩) (W * H) ct] 26)) v28.heap.size W H rt ct (la) := Bas.new hrow (by first | assumption | exact cl_length _ _ _ | (rw [List.length_set]; assumption))
  have Ht := hid hn
  clear hn hrow hge
  have qi0 : v28.cell? ⟨ki, 0, none⟩ = some (.int .i64 W) := Hi.out.blk.cell 0
  have qi1 : v28.cell? ⟨ki, 1, none⟩ = some (.int .i64 H) := Hi.out.blk.cell 1
  have qi2 : v28.cell? ⟨ki, 2, none⟩ = some (.slice (some ⟨ri, 0, none⟩) (W * H) ci) := Hi.out.blk.cell 2
  have qi3 : ki < v28.heap.size := Hi.out.blk.lt
  go_wp2_with fail
  clear qi0 qi1 qi2 qi3
  have hb := below_alloc v28 (.cells #[.int .i64 W, .int .i64 H, .slice (some ⟨rt, 0, none⟩) (W * H) ct] 26)
  obtain ⟨xv28, hx⟩ : ∃ x, v28.alloc (.cells #[.int .i64 W, .int .i64 H, .slice (some ⟨rt, 0, none⟩) (W * H) ct] 26) = x := ⟨_, rfl⟩
  rw [hx] at hb Ht ⊢
  clear hx
  have HBe := hid (HBe.out.trans (hb.mono HBe.out.size))
  have Ha := hid (Ha.out.below hb)
  have Hb := hid (Hb.out.below hb)
  have Hs := hid (Hs.out.below hb)
  have Hx := hid (Hx.out.below hb)
  have Hy := hid (Hy.out.below hb)
  have Hz := hid (Hz.out.below hb)
  have Hr := hid (Hr.out.below hb)
  have Hk := hid (Hk.out.below hb)
  have Hm := hid (Hm.out.below hb)
  have Hw := hid (Hw.out.below hb)
  have Hi := hid (Hi.out.below hb)
  clear hb
  obtain ⟨kt, hk⟩ : ∃ k, v28.heap.size = k := ⟨_, rfl⟩
  rw [hk] at Ht ⊢
  clear hk
  obtain ⟨hw1, hw2, hw3, hw4⟩ := wide_num htn
  obtain ⟨g1, g2, g3, g4⟩ := gap_zero hw2 numD0.1 (by rw [hw4, htot, numD0.2])
  have hgo : FloatKind.f64.format.order (gapD (wide tot) 0) 4562254508917369340 = some .lt := gap_ord g3 (by grind)
  have HG := hid (fun wx => c_r8Gap (wide tot) 0 hw2 numD0.1 g1 g2 wx)
  generalize gapD (wide tot) 0 = gp at HG hgo g3 g4
  clear hw1 hw2 hw3 hw4 g1 g2 g3 g4
  obtain ⟨gj, Hlj⟩ := lapl_gr gi (by omega) hs (l := mirL W H la) (by first | assumption | exact cl_length _ _ _)
  refine (c_LaplaceBasin W H ri 0 (W * H) ci _ xv28 (Hi.out.inb hs gi.num) Hlj (show AllNum (lapl W H (mirL W H la)) from gj.num)).mono ?_
  rintro e v29 ⟨rj, cj, rfl, hrow, hge, hb⟩
  have HBe := hid (HBe.out.trans (hb.mono HBe.out.size))
  have Ha := hid (Ha.out.below hb)
  have Hb := hid (Hb.out.below hb)
  have Hs := hid (Hs.out.below hb)
  have Hx := hid (Hx.out.below hb)
  have Hy := hid (Hy.out.below hb)
  have Hz := hid (Hz.out.below hb)
  have Hr := hid (Hr.out.below hb)
  have Hk := hid (Hk.out.below hb)
  have Hm := hid (Hm.out.below hb)
  have Hw := hid (Hw.out.below hb)
  have Hi := hid (Hi.out.below hb)
  have Ht := hid (Ht.out.below hb)
  clear hb
  have hn : Bas (v29.alloc (.cells #[.int .i64 W, .int .i64 H, .slice (some ⟨rj, 0, none⟩) (W * H) cj] 26)) v29.heap.size W H rj cj (lapl W H (mirL W H la)) := Bas.new hrow (by first | assumption | exact cl_length _ _ _ | (rw [List.length_set]; assumption))
  have Hj := hid hn
  clear hn hrow hge
  go_wp2_with fail
  have hb := below_alloc v29 (.cells #[.int .i64 W, .int .i64 H, .slice (some ⟨rj, 0, none⟩) (W * H) cj] 26)
  obtain ⟨xv29, hx⟩ : ∃ x, v29.alloc (.cells #[.int .i64 W, .int .i64 H, .slice (some ⟨rj, 0, none⟩) (W * H) cj] 26) = x := ⟨_, rfl⟩
  rw [hx] at hb Hj ⊢
  clear hx
  have HBe := hid (HBe.out.trans (hb.mono HBe.out.size))
  have Ha := hid (Ha.out.below hb)
  have Hb := hid (Hb.out.below hb)
  have Hs := hid (Hs.out.below hb)
  have Hx := hid (Hx.out.below hb)
  have Hy := hid (Hy.out.below hb)
  have Hz := hid (Hz.out.below hb)
  have Hr := hid (Hr.out.below hb)
  have Hk := hid (Hk.out.below hb)
  have Hm := hid (Hm.out.below hb)
  have Hw := hid (Hw.out.below hb)
  have Hi := hid (Hi.out.below hb)
  have Ht := hid (Ht.out.below hb)
  clear hb
  obtain ⟨kj, hk⟩ : ∃ k, v29.heap.size = k := ⟨_, rfl⟩
  rw [hk] at Hj ⊢
  clear hk
  refine (HG.out xv29).mono ?_
  rintro e w' ⟨rfl, rfl⟩
  clear HG
  have qk0 : xv29.cell? ⟨kk, 0, none⟩ = some (.int .i64 W) := Hk.out.blk.cell 0
  have qk1 : xv29.cell? ⟨kk, 1, none⟩ = some (.int .i64 H) := Hk.out.blk.cell 1
  have qk2 : xv29.cell? ⟨kk, 2, none⟩ = some (.slice (some ⟨rk, 0, none⟩) (W * H) ck) := Hk.out.blk.cell 2
  have qk3 : kk < xv29.heap.size := Hk.out.blk.lt
  have qa0 : xv29.cell? ⟨ka, 0, none⟩ = some (.int .i64 W) := Ha.out.blk.cell 0
  have qa1 : xv29.cell? ⟨ka, 1, none⟩ = some (.int .i64 H) := Ha.out.blk.cell 1
  have qa2 : xv29.cell? ⟨ka, 2, none⟩ = some (.slice (some ⟨ra, 0, none⟩) (W * H) ca) := Ha.out.blk.cell 2
  have qa3 : ka < xv29.heap.size := Ha.out.blk.lt
  go_wp2_with fail
  clear qk0 qk1 qk2 qk3 qa0 qa1 qa2 qa3
  refine (c_SameBasin W H rk 0 (W * H) ck ra 0 (W * H) ca la _ Hk.out.row Ha.out.row Hk.out.len.symm rfl (by omega) ga.num).mono ?_
  rintro e v40 ⟨rfl, hb⟩
  have HBe := hid (HBe.out.trans (hb.mono HBe.out.size))
  have Ha := hid (Ha.out.below hb)
  have Hb := hid (Hb.out.below hb)
  have Hs := hid (Hs.out.below hb)
  have Hx := hid (Hx.out.below hb)
  have Hy := hid (Hy.out.below hb)
  have Hz := hid (Hz.out.below hb)
  have Hr := hid (Hr.out.below hb)
  have Hk := hid (Hk.out.below hb)
  have Hm := hid (Hm.out.below hb)
  have Hw := hid (Hw.out.below hb)
  have Hi := hid (Hi.out.below hb)
  have Ht := hid (Ht.out.below hb)
  have Hj := hid (Hj.out.below hb)
  clear hb
  have qt0 : v40.cell? ⟨kt, 0, none⟩ = some (.int .i64 W) := Ht.out.blk.cell 0
  have qt1 : v40.cell? ⟨kt, 1, none⟩ = some (.int .i64 H) := Ht.out.blk.cell 1
  have qt2 : v40.cell? ⟨kt, 2, none⟩ = some (.slice (some ⟨rt, 0, none⟩) (W * H) ct) := Ht.out.blk.cell 2
  have qt3 : kt < v40.heap.size := Ht.out.blk.lt
  have qa0 : v40.cell? ⟨ka, 0, none⟩ = some (.int .i64 W) := Ha.out.blk.cell 0
  have qa1 : v40.cell? ⟨ka, 1, none⟩ = some (.int .i64 H) := Ha.out.blk.cell 1
  have qa2 : v40.cell? ⟨ka, 2, none⟩ = some (.slice (some ⟨ra, 0, none⟩) (W * H) ca) := Ha.out.blk.cell 2
  have qa3 : ka < v40.heap.size := Ha.out.blk.lt
  go_wp2_with fail
  clear qt0 qt1 qt2 qt3 qa0 qa1 qa2 qa3
  refine (c_SameBasin W H rt 0 (W * H) ct ra 0 (W * H) ca la _ Ht.out.row Ha.out.row Ht.out.len.symm rfl (by omega) ga.num).mono ?_
  rintro e v41 ⟨rfl, hb⟩
  have HBe := hid (HBe.out.trans (hb.mono HBe.out.size))
  have Ha := hid (Ha.out.below hb)
  have Hb := hid (Hb.out.below hb)
  have Hs := hid (Hs.out.below hb)
  have Hx := hid (Hx.out.below hb)
  have Hy := hid (Hy.out.below hb)
  have Hz := hid (Hz.out.below hb)
  have Hr := hid (Hr.out.below hb)
  have Hk := hid (Hk.out.below hb)
  have Hm := hid (Hm.out.below hb)
  have Hw := hid (Hw.out.below hb)
  have Hi := hid (Hi.out.below hb)
  have Ht := hid (Ht.out.below hb)
  have Hj := hid (Hj.out.below hb)
  clear hb
  have qj0 : v41.cell? ⟨kj, 0, none⟩ = some (.int .i64 W) := Hj.out.blk.cell 0
  have qj1 : v41.cell? ⟨kj, 1, none⟩ = some (.int .i64 H) := Hj.out.blk.cell 1
  have qj2 : v41.cell? ⟨kj, 2, none⟩ = some (.slice (some ⟨rj, 0, none⟩) (W * H) cj) := Hj.out.blk.cell 2
  have qj3 : kj < v41.heap.size := Hj.out.blk.lt
  go_wp2_with fail
  clear qj0 qj1 qj2 qj3
  refine (c_ValidBasin W H rj 0 (W * H) cj _ _ hs Hj.out.row Hj.out.len.symm Hj.out.len gj.num).mono ?_
  rintro e v42 ⟨rfl, hb⟩
  have HBe := hid (HBe.out.trans (hb.mono HBe.out.size))
  have Ha := hid (Ha.out.below hb)
  have Hb := hid (Hb.out.below hb)
  have Hs := hid (Hs.out.below hb)
  have Hx := hid (Hx.out.below hb)
  have Hy := hid (Hy.out.below hb)
  have Hz := hid (Hz.out.below hb)
  have Hr := hid (Hr.out.below hb)
  have Hk := hid (Hk.out.below hb)
  have Hm := hid (Hm.out.below hb)
  have Hw := hid (Hw.out.below hb)
  have Hi := hid (Hi.out.below hb)
  have Ht := hid (Ht.out.below hb)
  have Hj := hid (Hj.out.below hb)
  clear hb
  go_wp2_with fail
  have gmv := moved la hs u v
  have glz := lap_sum ga gb hs hla hlb (by omega)
  generalize hlx : lapl W H la = lx at *
  generalize hly : lapl W H lb = ly at *
  generalize hlz : lapl W H (sumL W H la lb) = lz at *
  generalize hlm : lapl W H (rollL W H la u v) = lm at *
  generalize hlw : rollL W H lx u v = lw at *
  clear hgo
  go_loopw [33] (fun t wr => ∃ i : Nat, i ≤ W * H ∧ t = .int .i64 i ∧ Below v42.heap.size v42 wr) (fun t _ => W * H - (intOf t).toNat)
  case atStart => exact ⟨0, Nat.zero_le _, rfl, Below.refl _ _⟩
  case round =>
    obtain ⟨i, hi, rfl, hb⟩ := hrel
    have Ha := hid (Ha.out.below hb)
    have Hb := hid (Hb.out.below hb)
    have Hs := hid (Hs.out.below hb)
    have Hx := hid (Hx.out.below hb)
    have Hy := hid (Hy.out.below hb)
    have Hz := hid (Hz.out.below hb)
    have Hr := hid (Hr.out.below hb)
    have Hk := hid (Hk.out.below hb)
    have Hm := hid (Hm.out.below hb)
    have Hw := hid (Hw.out.below hb)
    have Hi := hid (Hi.out.below hb)
    have Ht := hid (Ht.out.below hb)
    have Hj := hid (Hj.out.below hb)
    have HBe := hid (HBe.out.trans (hb.mono HBe.out.size))
    have HBr := hid hb
    clear hb
    have hWHc : ((W * H : Nat) : Int) = (W : Int) * (H : Int) := Int.natCast_mul W H
    have qa2 : wr.cell? ⟨ka, 2, none⟩ = some (.slice (some ⟨ra, 0, none⟩) (W * H) ca) := Ha.out.blk.cell 2
    by_cases hlt : i < W * H
    · have hlt2 : (i : Int) < (W : Int) * (H : Int) := by omega
      have qz2 : wr.cell? ⟨kz, 2, none⟩ = some (.slice (some ⟨rz, 0, none⟩) (W * H) cz) := Hz.out.blk.cell 2
      have qx2 : wr.cell? ⟨kx, 2, none⟩ = some (.slice (some ⟨rx, 0, none⟩) (W * H) cx) := Hx.out.blk.cell 2
      have qy2 : wr.cell? ⟨ky, 2, none⟩ = some (.slice (some ⟨ry, 0, none⟩) (W * H) cy) := Hy.out.blk.cell 2
      have qm2 : wr.cell? ⟨km, 2, none⟩ = some (.slice (some ⟨rm, 0, none⟩) (W * H) cm) := Hm.out.blk.cell 2
      have qw2 : wr.cell? ⟨kw, 2, none⟩ = some (.slice (some ⟨rw, 0, none⟩) (W * H) cw) := Hw.out.blk.cell 2
      have tz : wr.cell? ⟨rz, i, none⟩ = some (.float .f32 (lz.getD i 0)) := by have h := Hz.out.row.2 i (by rw [Hz.out.len]; exact hlt); rwa [Nat.zero_add] at h
      have nz := gz.num i (by rw [Hz.out.len]; exact hlt)
      have tx : wr.cell? ⟨rx, i, none⟩ = some (.float .f32 (lx.getD i 0)) := by have h := Hx.out.row.2 i (by rw [Hx.out.len]; exact hlt); rwa [Nat.zero_add] at h
      have nx := gx.num i (by rw [Hx.out.len]; exact hlt)
      have ty : wr.cell? ⟨ry, i, none⟩ = some (.float .f32 (ly.getD i 0)) := by have h := Hy.out.row.2 i (by rw [Hy.out.len]; exact hlt); rwa [Nat.zero_add] at h
      have ny := gy.num i (by rw [Hy.out.len]; exact hlt)
      have tm : wr.cell? ⟨rm, i, none⟩ = some (.float .f32 (lm.getD i 0)) := by have h := Hm.out.row.2 i (by rw [Hm.out.len]; exact hlt); rwa [Nat.zero_add] at h
      have nm := gm.num i (by rw [Hm.out.len]; exact hlt)
      have tw : wr.cell? ⟨rw, i, none⟩ = some (.float .f32 (lw.getD i 0)) := by have h := Hw.out.row.2 i (by rw [Hw.out.len]; exact hlt); rwa [Nat.zero_add] at h
      have nw := gw.num i (by rw [Hw.out.len]; exact hlt)
      have hzz := glz i hlt
      have hmw := gmv i hlt
      rw [← hmw] at tw nw
      generalize lz.getD i 0 = zi at *
      generalize lm.getD i 0 = mi at *
      have bx := (gx i (by rw [Hx.out.len]; exact hlt))
      have by_ := (gy i (by rw [Hy.out.len]; exact hlt))
      generalize lx.getD i 0 = xi at *
      generalize ly.getD i 0 = yi at *
      obtain ⟨_, wz2, _, wz4⟩ := wide_num nz
      obtain ⟨_, wx2, wx3, wx4⟩ := wide_num nx
      obtain ⟨_, wy2, wy3, wy4⟩ := wide_num ny
      have sx : Gr Ieee.double (-3) 192 (wide xi) := (Gr_wide bx).mono (by omega)
      have sy : Gr Ieee.double (-3) 192 (wide yi) := (Gr_wide by_).mono (by omega)
      obtain ⟨_, ss, sv⟩ := Gr.add okD sx sy (by decide) (by decide +kernel) (by decide)
      obtain ⟨g1, g2, g3, g4⟩ := gap_zero wz2 ss.num (by rw [wz4, sv, wx4, wy4, hzz])
      have hgo : FloatKind.f64.format.order (gapD (wide zi) (fadd Ieee.double (wide xi) (wide yi))) 4562254508917369340 = some .lt := gap_ord g3 (by grind)
      have hmo : FloatKind.f32.format.order mi mi = some .eq := (order_num nm nm).trans (by simp)
      have HG := hid (fun k => (c_r8Gap (wide zi) (fadd Ieee.double (wide xi) (wide yi)) wz2 ss.num g1 g2 (wr.drewN k)).mono (fun _ _ h => And.intro h.1 h.2.symm))
      generalize gapD (wide zi) (fadd Ieee.double (wide xi) (wide yi)) = gp at HG hgo g3 g4
      clear g1 g2 g3 g4 wz2 wz4 wx3 wx4 wy3 wy4 sx sy ss sv hzz hmw bx by_
      go_wp2_with fail
      go_quiet ((go_at_call 14; exact Calls.quiet_of_same (HG.out _)))
      go_wp2_with fail
      go_roundw
      case rel => exact ⟨i + 1, by omega, by go_num, by first | exact HBr.out | exact below_drewN HBr.out _⟩
      case measure => simp [intOf]; omega
    · have hlt2 : ¬ (i : Int) < (W : Int) * (H : Int) := by omega
      clear hlt hi qa2
      have qa0 : wr.cell? ⟨ka, 0, none⟩ = some (.int .i64 W) := Ha.out.blk.cell 0
      have qa1 : wr.cell? ⟨ka, 1, none⟩ = some (.int .i64 H) := Ha.out.blk.cell 1
      have qa2 : wr.cell? ⟨ka, 2, none⟩ = some (.slice (some ⟨ra, 0, none⟩) (W * H) ca) := Ha.out.blk.cell 2
      have qa3 : ka < wr.heap.size := Ha.out.blk.lt
      go_wp2_with fail
      obtain ⟨m, d1, d2, ge, e2, e3, e4⟩ := even_out ga hs hla hWH
      refine (c_EvenOut W H ra 0 (W * H) ca m la wr (Ha.out.inb hs ga.num) (sum_ok ga (by omega) (by omega)) d1 d2 ge).mono ?_
      rintro e v51 ⟨re, ce, rfl, hrow, hge, hb⟩
      clear qa0 qa1 qa2 qa3
      have HBe := hid (HBe.out.trans (hb.mono HBe.out.size))
      have Ha := hid (Ha.out.below hb)
      have Hb := hid (Hb.out.below hb)
      have Hs := hid (Hs.out.below hb)
      have Hx := hid (Hx.out.below hb)
      have Hy := hid (Hy.out.below hb)
      have Hz := hid (Hz.out.below hb)
      have Hr := hid (Hr.out.below hb)
      have Hk := hid (Hk.out.below hb)
      have Hm := hid (Hm.out.below hb)
      have Hw := hid (Hw.out.below hb)
      have Hi := hid (Hi.out.below hb)
      have Ht := hid (Ht.out.below hb)
      have Hj := hid (Hj.out.below hb)
      clear hb
      have hn : Bas (v51.alloc (.cells #[.int .i64 W, .int .i64 H, .slice (some ⟨re, 0, none⟩) (W * H) ce] 26)) v51.heap.size W H re ce (evenL W H la m) := Bas.new hrow (by first | assumption | exact cl_length _ _ _ | (rw [List.length_set]; assumption))
      have He := hid hn
      clear hn hrow hge
      go_wp2_with fail
      have hb := below_alloc v51 (.cells #[.int .i64 W, .int .i64 H, .slice (some ⟨re, 0, none⟩) (W * H) ce] 26)
      obtain ⟨xv51, hx⟩ : ∃ x, v51.alloc (.cells #[.int .i64 W, .int .i64 H, .slice (some ⟨re, 0, none⟩) (W * H) ce] 26) = x := ⟨_, rfl⟩
      rw [hx] at hb He ⊢
      clear hx
      have HBe := hid (HBe.out.trans (hb.mono HBe.out.size))
      have Ha := hid (Ha.out.below hb)
      have Hb := hid (Hb.out.below hb)
      have Hs := hid (Hs.out.below hb)
      have Hx := hid (Hx.out.below hb)
      have Hy := hid (Hy.out.below hb)
      have Hz := hid (Hz.out.below hb)
      have Hr := hid (Hr.out.below hb)
      have Hk := hid (Hk.out.below hb)
      have Hm := hid (Hm.out.below hb)
      have Hw := hid (Hw.out.below hb)
      have Hi := hid (Hi.out.below hb)
      have Ht := hid (Ht.out.below hb)
      have Hj := hid (Hj.out.below hb)
      clear hb
      obtain ⟨ke, hk⟩ : ∃ k, v51.heap.size = k := ⟨_, rfl⟩
      rw [hk] at He ⊢
      clear hk
      have nn := e2 (W * H) (by rw [show (evenL W H la m).length = W * H from cl_length _ _ _]; exact Nat.le_refl _)
      refine (c_TotalInBasin W H re 0 (W * H) ce _ xv51 (He.out.inb hs ge) e2).mono ?_
      generalize sumK (evenL W H la m) (W * H) = no at e3 e4 nn ⊢
      rintro e v52 ⟨rfl, hb⟩
      have HBe := hid (HBe.out.trans (hb.mono HBe.out.size))
      have Ha := hid (Ha.out.below hb)
      have Hb := hid (Hb.out.below hb)
      have Hs := hid (Hs.out.below hb)
      have Hx := hid (Hx.out.below hb)
      have Hy := hid (Hy.out.below hb)
      have Hz := hid (Hz.out.below hb)
      have Hr := hid (Hr.out.below hb)
      have Hk := hid (Hk.out.below hb)
      have Hm := hid (Hm.out.below hb)
      have Hw := hid (Hw.out.below hb)
      have Hi := hid (Hi.out.below hb)
      have Ht := hid (Ht.out.below hb)
      have Hj := hid (Hj.out.below hb)
      have He := hid (He.out.below hb)
      clear hb
      have qa0 : v52.cell? ⟨ka, 0, none⟩ = some (.int .i64 W) := Ha.out.blk.cell 0
      have qa1 : v52.cell? ⟨ka, 1, none⟩ = some (.int .i64 H) := Ha.out.blk.cell 1
      have qa2 : v52.cell? ⟨ka, 2, none⟩ = some (.slice (some ⟨ra, 0, none⟩) (W * H) ca) := Ha.out.blk.cell 2
      have qa3 : ka < v52.heap.size := Ha.out.blk.lt
      go_wp2_with fail
      clear qa0 qa1 qa2 qa3
      refine (c_RangeInBasin W H ra 0 (W * H) ca la _ (Ha.out.inb hs ga.num)).mono ?_
      rintro e v53 ⟨lo, hig, rfl, ⟨nlo, nhi, hle⟩, hb⟩
      have HBe := hid (HBe.out.trans (hb.mono HBe.out.size))
      have Ha := hid (Ha.out.below hb)
      have Hb := hid (Hb.out.below hb)
      have Hs := hid (Hs.out.below hb)
      have Hx := hid (Hx.out.below hb)
      have Hy := hid (Hy.out.below hb)
      have Hz := hid (Hz.out.below hb)
      have Hr := hid (Hr.out.below hb)
      have Hk := hid (Hk.out.below hb)
      have Hm := hid (Hm.out.below hb)
      have Hw := hid (Hw.out.below hb)
      have Hi := hid (Hi.out.below hb)
      have Ht := hid (Ht.out.below hb)
      have Hj := hid (Hj.out.below hb)
      have He := hid (He.out.below hb)
      clear hb
      have qa0 : v53.cell? ⟨ka, 0, none⟩ = some (.int .i64 W) := Ha.out.blk.cell 0
      have qa1 : v53.cell? ⟨ka, 1, none⟩ = some (.int .i64 H) := Ha.out.blk.cell 1
      have qa2 : v53.cell? ⟨ka, 2, none⟩ = some (.slice (some ⟨ra, 0, none⟩) (W * H) ca) := Ha.out.blk.cell 2
      have qa3 : ka < v53.heap.size := Ha.out.blk.lt
      go_wp2_with fail
      clear qa0 qa1 qa2 qa3
      obtain ⟨nsq, psq⟩ := dot_gr ga (by omega) (by omega) (W * H) (by omega)
      have nsq := nsq.num
      refine (c_SquaresInBasin W H ra 0 (W * H) ca la _ (Ha.out.inb hs ga.num) (dot_ok ga (by omega) (by omega))).mono ?_
      generalize dotK la la (W * H) = sq at nsq psq ⊢
      rintro e v54 ⟨rfl, hb⟩
      have HBe := hid (HBe.out.trans (hb.mono HBe.out.size))
      have Ha := hid (Ha.out.below hb)
      have Hb := hid (Hb.out.below hb)
      have Hs := hid (Hs.out.below hb)
      have Hx := hid (Hx.out.below hb)
      have Hy := hid (Hy.out.below hb)
      have Hz := hid (Hz.out.below hb)
      have Hr := hid (Hr.out.below hb)
      have Hk := hid (Hk.out.below hb)
      have Hm := hid (Hm.out.below hb)
      have Hw := hid (Hw.out.below hb)
      have Hi := hid (Hi.out.below hb)
      have Ht := hid (Ht.out.below hb)
      have Hj := hid (Hj.out.below hb)
      have He := hid (He.out.below hb)
      clear hb
      have qa0 : v54.cell? ⟨ka, 0, none⟩ = some (.int .i64 W) := Ha.out.blk.cell 0
      have qa1 : v54.cell? ⟨ka, 1, none⟩ = some (.int .i64 H) := Ha.out.blk.cell 1
      have qa2 : v54.cell? ⟨ka, 2, none⟩ = some (.slice (some ⟨ra, 0, none⟩) (W * H) ca) := Ha.out.blk.cell 2
      have qa3 : ka < v54.heap.size := Ha.out.blk.lt
      go_wp2_with fail
      clear qa0 qa1 qa2 qa3
      have hWa := hs.a
      have hWb := hs.b
      have hHa := hs.c
      have hHb := hs.d
      refine (c_r8At A1 len1 cap1 42 W _ (HB1.out.below HBe.out) hl49 (by omega) (by omega) (by omega)).mono ?_
      rintro e v55 ⟨px, hpx, rfl, hb⟩
      have HBe := hid (HBe.out.trans (hb.mono HBe.out.size))
      have Ha := hid (Ha.out.below hb)
      have Hb := hid (Hb.out.below hb)
      have Hs := hid (Hs.out.below hb)
      have Hx := hid (Hx.out.below hb)
      have Hy := hid (Hy.out.below hb)
      have Hz := hid (Hz.out.below hb)
      have Hr := hid (Hr.out.below hb)
      have Hk := hid (Hk.out.below hb)
      have Hm := hid (Hm.out.below hb)
      have Hw := hid (Hw.out.below hb)
      have Hi := hid (Hi.out.below hb)
      have Ht := hid (Ht.out.below hb)
      have Hj := hid (Hj.out.below hb)
      have He := hid (He.out.below hb)
      clear hb
      have qa0 : v55.cell? ⟨ka, 0, none⟩ = some (.int .i64 W) := Ha.out.blk.cell 0
      have qa1 : v55.cell? ⟨ka, 1, none⟩ = some (.int .i64 H) := Ha.out.blk.cell 1
      have qa2 : v55.cell? ⟨ka, 2, none⟩ = some (.slice (some ⟨ra, 0, none⟩) (W * H) ca) := Ha.out.blk.cell 2
      have qa3 : ka < v55.heap.size := Ha.out.blk.lt
      go_wp2_with fail
      clear qa0 qa1 qa2 qa3
      refine (c_r8At A1 len1 cap1 43 H _ (HB1.out.below HBe.out) hl49 (by omega) (by omega) (by omega)).mono ?_
      rintro e v56 ⟨py, hpy, rfl, hb⟩
      have HBe := hid (HBe.out.trans (hb.mono HBe.out.size))
      have Ha := hid (Ha.out.below hb)
      have Hb := hid (Hb.out.below hb)
      have Hs := hid (Hs.out.below hb)
      have Hx := hid (Hx.out.below hb)
      have Hy := hid (Hy.out.below hb)
      have Hz := hid (Hz.out.below hb)
      have Hr := hid (Hr.out.below hb)
      have Hk := hid (Hk.out.below hb)
      have Hm := hid (Hm.out.below hb)
      have Hw := hid (Hw.out.below hb)
      have Hi := hid (Hi.out.below hb)
      have Ht := hid (Ht.out.below hb)
      have Hj := hid (Hj.out.below hb)
      have He := hid (He.out.below hb)
      clear hb
      have qa0 : v56.cell? ⟨ka, 0, none⟩ = some (.int .i64 W) := Ha.out.blk.cell 0
      have qa1 : v56.cell? ⟨ka, 1, none⟩ = some (.int .i64 H) := Ha.out.blk.cell 1
      have qa2 : v56.cell? ⟨ka, 2, none⟩ = some (.slice (some ⟨ra, 0, none⟩) (W * H) ca) := Ha.out.blk.cell 2
      have qa3 : ka < v56.heap.size := Ha.out.blk.lt
      go_wp2_with fail
      clear qa0 qa1 qa2 qa3
      refine (c_PutSpin W H ra 0 (W * H) ca la px py 1088421888 _ (Ha.out.inb hs ga.num) (by omega) (by omega) (by omega) (by omega) num7).mono ?_
      rintro e v57 ⟨rp, cp, rfl, hrow, hge, hb⟩
      have HBe := hid (HBe.out.trans (hb.mono HBe.out.size))
      have Ha := hid (Ha.out.below hb)
      have Hb := hid (Hb.out.below hb)
      have Hs := hid (Hs.out.below hb)
      have Hx := hid (Hx.out.below hb)
      have Hy := hid (Hy.out.below hb)
      have Hz := hid (Hz.out.below hb)
      have Hr := hid (Hr.out.below hb)
      have Hk := hid (Hk.out.below hb)
      have Hm := hid (Hm.out.below hb)
      have Hw := hid (Hw.out.below hb)
      have Hi := hid (Hi.out.below hb)
      have Ht := hid (Ht.out.below hb)
      have Hj := hid (Hj.out.below hb)
      have He := hid (He.out.below hb)
      clear hb
      have hn : Bas (v57.alloc (.cells #[.int .i64 W, .int .i64 H, .slice (some ⟨rp, 0, none⟩) (W * H) cp] 26)) v57.heap.size W H rp cp (la.set (plc W H px py) 1088421888) := Bas.new hrow (by first | assumption | exact cl_length _ _ _ | (rw [List.length_set]; assumption))
      have Hp := hid hn
      clear hn hrow hge
      go_wp2_with fail
      have hb := below_alloc v57 (.cells #[.int .i64 W, .int .i64 H, .slice (some ⟨rp, 0, none⟩) (W * H) cp] 26)
      obtain ⟨xv57, hx⟩ : ∃ x, v57.alloc (.cells #[.int .i64 W, .int .i64 H, .slice (some ⟨rp, 0, none⟩) (W * H) cp] 26) = x := ⟨_, rfl⟩
      rw [hx] at hb Hp ⊢
      clear hx
      have HBe := hid (HBe.out.trans (hb.mono HBe.out.size))
      have Ha := hid (Ha.out.below hb)
      have Hb := hid (Hb.out.below hb)
      have Hs := hid (Hs.out.below hb)
      have Hx := hid (Hx.out.below hb)
      have Hy := hid (Hy.out.below hb)
      have Hz := hid (Hz.out.below hb)
      have Hr := hid (Hr.out.below hb)
      have Hk := hid (Hk.out.below hb)
      have Hm := hid (Hm.out.below hb)
      have Hw := hid (Hw.out.below hb)
      have Hi := hid (Hi.out.below hb)
      have Ht := hid (Ht.out.below hb)
      have Hj := hid (Hj.out.below hb)
      have He := hid (He.out.below hb)
      clear hb
      obtain ⟨kp, hk⟩ : ∃ k, v57.heap.size = k := ⟨_, rfl⟩
      rw [hk] at Hp ⊢
      clear hk
      have hput := put_bat la hs hla px py 1088421888
      refine (c_SpinAt W H rp 0 (W * H) cp _ px py _ (Hp.out.inb hs (set_num ga.num _ _ num7)) (by omega) (by omega) (by omega) (by omega)).mono ?_
      rw [hput]
      rintro e v58 ⟨rfl, hb⟩
      have HBe := hid (HBe.out.trans (hb.mono HBe.out.size))
      have Ha := hid (Ha.out.below hb)
      have Hb := hid (Hb.out.below hb)
      have Hs := hid (Hs.out.below hb)
      have Hx := hid (Hx.out.below hb)
      have Hy := hid (Hy.out.below hb)
      have Hz := hid (Hz.out.below hb)
      have Hr := hid (Hr.out.below hb)
      have Hk := hid (Hk.out.below hb)
      have Hm := hid (Hm.out.below hb)
      have Hw := hid (Hw.out.below hb)
      have Hi := hid (Hi.out.below hb)
      have Ht := hid (Ht.out.below hb)
      have Hj := hid (Hj.out.below hb)
      have He := hid (He.out.below hb)
      have Hp := hid (Hp.out.below hb)
      clear hb
      have qa0 : v58.cell? ⟨ka, 0, none⟩ = some (.int .i64 W) := Ha.out.blk.cell 0
      have qa1 : v58.cell? ⟨ka, 1, none⟩ = some (.int .i64 H) := Ha.out.blk.cell 1
      have qa2 : v58.cell? ⟨ka, 2, none⟩ = some (.slice (some ⟨ra, 0, none⟩) (W * H) ca) := Ha.out.blk.cell 2
      have qa3 : ka < v58.heap.size := Ha.out.blk.lt
      go_wp2_with fail
      clear qa0 qa1 qa2 qa3
      refine (c_ScaleBasin W H ra 0 (W * H) ca 1073741824 la _ (Ha.out.inb hs ga.num) two_.1.num (show AllNum (scaleL W H la 1073741824) from scaleL_num ga hs hla (by omega))).mono ?_
      rintro e v59 ⟨rq, cq, rfl, hrow, hge, hb⟩
      have HBe := hid (HBe.out.trans (hb.mono HBe.out.size))
      have Ha := hid (Ha.out.below hb)
      have Hb := hid (Hb.out.below hb)
      have Hs := hid (Hs.out.below hb)
      have Hx := hid (Hx.out.below hb)
      have Hy := hid (Hy.out.below hb)
      have Hz := hid (Hz.out.below hb)
      have Hr := hid (Hr.out.below hb)
      have Hk := hid (Hk.out.below hb)
      have Hm := hid (Hm.out.below hb)
      have Hw := hid (Hw.out.below hb)
      have Hi := hid (Hi.out.below hb)
      have Ht := hid (Ht.out.below hb)
      have Hj := hid (Hj.out.below hb)
      have He := hid (He.out.below hb)
      have Hp := hid (Hp.out.below hb)
      clear hb
      have hn : Bas (v59.alloc (.cells #[.int .i64 W, .int .i64 H, .slice (some ⟨rq, 0, none⟩) (W * H) cq] 26)) v59.heap.size W H rq cq (scaleL W H la 1073741824) := Bas.new hrow (by first | assumption | exact cl_length _ _ _ | (rw [List.length_set]; assumption))
      have Hq := hid hn
      clear hn hrow hge
      go_wp2_with fail
      have hb := below_alloc v59 (.cells #[.int .i64 W, .int .i64 H, .slice (some ⟨rq, 0, none⟩) (W * H) cq] 26)
      obtain ⟨xv59, hx⟩ : ∃ x, v59.alloc (.cells #[.int .i64 W, .int .i64 H, .slice (some ⟨rq, 0, none⟩) (W * H) cq] 26) = x := ⟨_, rfl⟩
      rw [hx] at hb Hq ⊢
      clear hx
      have HBe := hid (HBe.out.trans (hb.mono HBe.out.size))
      have Ha := hid (Ha.out.below hb)
      have Hb := hid (Hb.out.below hb)
      have Hs := hid (Hs.out.below hb)
      have Hx := hid (Hx.out.below hb)
      have Hy := hid (Hy.out.below hb)
      have Hz := hid (Hz.out.below hb)
      have Hr := hid (Hr.out.below hb)
      have Hk := hid (Hk.out.below hb)
      have Hm := hid (Hm.out.below hb)
      have Hw := hid (Hw.out.below hb)
      have Hi := hid (Hi.out.below hb)
      have Ht := hid (Ht.out.below hb)
      have Hj := hid (Hj.out.below hb)
      have He := hid (He.out.below hb)
      have Hp := hid (Hp.out.below hb)
      clear hb
      obtain ⟨kq, hk⟩ : ∃ k, v59.heap.size = k := ⟨_, rfl⟩
      rw [hk] at Hq ⊢
      clear hk
      have qa2 : xv59.cell? ⟨ka, 2, none⟩ = some (.slice (some ⟨ra, 0, none⟩) (W * H) ca) := Ha.out.blk.cell 2
      have qq2 : xv59.cell? ⟨kq, 2, none⟩ = some (.slice (some ⟨rq, 0, none⟩) (W * H) cq) := Hq.out.blk.cell 2
      have hpos : 0 < W * H := Nat.mul_pos (by omega) (by omega)
      have hpc : (0 : Int) < (W : Int) * (H : Int) := by omega
      have ta : xv59.cell? ⟨ra, 0, none⟩ = some (.float .f32 (la.getD 0 0)) := by have h := Ha.out.row.2 0 (by rw [Ha.out.len]; exact hpos); rwa [Nat.zero_add] at h
      have tq : xv59.cell? ⟨rq, 0, none⟩ = some (.float .f32 ((scaleL W H la 1073741824).getD 0 0)) := by have h := Hq.out.row.2 0 (by rw [Hq.out.len]; exact hpos); rwa [Nat.zero_add] at h
      have eq0 : (scaleL W H la 1073741824).getD 0 0 = fmul Ieee.single (bat W H la 0 0) 1073741824 := by
        unfold scaleL
        rw [cl_getD _ _ _ _ hpos, Nat.zero_mod, Nat.zero_div]
        rfl
      have ea0 : la.getD 0 0 = bat W H la 0 0 := by
        rw [getD_bat la 0 hs hpos, Nat.zero_mod, Nat.zero_div]
        rfl
      rw [eq0] at tq
      rw [ea0] at ta
      obtain ⟨sa1, sa2, sa3⟩ := scale_at ga hs hla (by omega) 0 0
      have nab := (ga.bat hs hla 0 0).num
      have n2 := two_.1.num
      have hsc : FloatKind.f32.format.order (fmul Ieee.single (bat W H la 0 0) 1073741824) (fmul Ieee.single 1073741824 (bat W H la 0 0)) = some .eq := by
        refine (order_num sa1 sa2).trans ?_
        rw [if_neg (by rw [sa3]; grind), if_pos sa3]
      have h77 : FloatKind.f32.format.order 1088421888 1088421888 = some .eq := by decide
      have hlh : (FloatKind.f32.format.order lo hig == some .lt || FloatKind.f32.format.order lo hig == some .eq) = true := le_ord nlo nhi hle
      have hs0 : (FloatKind.f32.format.order sq 0 == some .gt || FloatKind.f32.format.order sq 0 == some .eq) = true := ge_ord nsq num0.1.num (by rw [num0.2]; exact psq)
      obtain ⟨hw1, hw2, hw3, hw4⟩ := wide_num nn
      obtain ⟨g1, g2, g3, g4⟩ := gap_near hw2 numD0.1 (980 / 1000000 - 1 / 1000000) (by grind) (by rw [hw4, numD0.2]; grind) (by rw [hw4, numD0.2]; grind)
      have hgo : FloatKind.f64.format.order (gapD (wide no) 0) 4562254508917369340 = some .lt := gap_ord g3 (by grind)
      have HG := hid (fun k => (c_r8Gap (wide no) 0 hw2 numD0.1 g1 g2 (xv59.drewN k)).mono (fun _ _ h => And.intro h.1 h.2.symm))
      generalize gapD (wide no) 0 = gp at HG hgo g3 g4
      generalize fmul Ieee.single (bat W H la 0 0) 1073741824 = sc at *
      clear hw1 hw2 hw3 hw4 g1 g2 g3 g4 e3 e4 sa1 sa2 sa3 eq0 ea0 hle psq hpx hpy hput
      go_quiet ((go_at_call 14; exact Calls.quiet_of_same (HG.out _)))
      go_wp2_with fail
      go_ret
      exact ⟨rfl, by first | exact HBe.out | exact below_drewN HBe.out _⟩
end Go.Proofs.Ytihknapgdkladaa
