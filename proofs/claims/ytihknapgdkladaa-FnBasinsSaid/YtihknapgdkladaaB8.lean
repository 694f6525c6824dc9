/- Basins: EvenOut, RangeInBasin, SameBasin. -/
import Derived.Test.YtihknapgdkladaaB7
set_option linter.unusedSimpArgs false
set_option linter.unusedVariables false
set_option linter.unusedSectionVars false
namespace Go.Proofs.Ytihknapgdkladaa
open Go.RowKit Fl
attribute [local go_sem] w_add w_sub w_mul w_store
attribute [local go_sem ↓] Go.wp_at_zero Go.wp_at_succ

set_option maxRecDepth 100000 in
set_option maxHeartbeats 2000000 in
theorem c_EvenOut (W H b off n c m : Nat) (l : List Nat) (w : World) (hi : InB w W H b off n l) (hS : SumOk l) (hd : Ieee.single.div (sumK l n) (floatOfInt .f32 (n : Int)) = some m) (hm : Num Ieee.single m)
    (hnum : AllNum (cl W (fun x y => fsub Ieee.single (bat W H l x y) m) (W * H))) :
    Calls Try.prog 17 #[.agg #[.int .i64 W, .int .i64 H, .slice (some ⟨b, off, none⟩) n c]] w (MadeT w W H (cl W (fun x y => fsub Ieee.single (bat W H l x y) m) (W * H))) := by
  have hsz : W * H ≤ 16 * 16 := Nat.mul_le_mul hi.siz.b hi.siz.d
  have hnw := hi.nl
  have hlen := hi.len
  have HV : Hid (∀ wx : World, Below w.heap.size w wx → Calls Try.prog 16 #[.agg #[.int .i64 W, .int .i64 H, .slice (some ⟨b, off, none⟩) n c]] wx fun e w' => e = .returned (.bool true) ∧ Below wx.heap.size wx w') :=
    fun wx hb => c_ValidBasin W H b off n c l _ hi.siz (hi.below hb).row hi.nl hi.len hi.num
  have HS : Hid (∀ wx : World, Below w.heap.size w wx → Calls Try.prog 37 #[.slice (some ⟨b, off, none⟩) n c] wx fun e w' => e = .returned (.float .f32 (sumK l n)) ∧ wx = w') :=
    fun wx hb => c_sum b off n c l wx (hi.below hb).row hi.nl (by omega) hi.num hS
  have HR : Hid (∀ (wx : World) (gm : Nat), Below w.heap.size w wx → Blk wx w.heap.size 26 #[.int .i64 W, .int .i64 H, .slice (some ⟨b, off, none⟩) n c] → Blk wx gm 32 #[.float .f32 m] →
      Calls Try.prog 32 #[.agg #[.int .i64 W, .int .i64 H, .slice (some ⟨b, off, none⟩) n c], .func (.func 44) #[] #[.pointer (some ⟨w.heap.size, 0, none⟩), .pointer (some ⟨gm, 0, none⟩)]] wx (MadeT wx W H (cl W (fun x y => fsub Ieee.single (bat W H l x y) m) (W * H)))) :=
    fun wx gm hb hB hU => c_rebuilt W H b off n c l wx (hi.below hb) _ _ _ _ (enters_fn Try.func44 (by kernel_rfl) rfl) (of_even (basp_of hB (hi.below hb).row) (hU.cell 0) hU.lt hm hi.siz (by rw [hi.nl, hi.len]; exact Nat.le_refl _) (by rw [hi.len]; exact Nat.le_refl _) hi.num) hnum
  have hq : ∀ wx : World, (binOp .quo 32 (.float .f32 (sumK l n)) (.float .f32 (floatOfInt .f32 (n : Int)))).run Try.prog wx = .ok (.float .f32 m) wx := fun wx => w_div wx _ _ _ _ hd
  clear hi hS hnw hlen hsz hd hm hnum
  generalize sumK l n = s at *
  generalize cl W (fun x y => fsub Ieee.single (bat W H l x y) m) (W * H) = l' at *
  go_enter Try.func17, Try.ntmps17
  go_wp2_with fail
  refine (HV.out _ (((Below.refl _ w).alloc (Nat.le_refl _) _).alloc (by simp) _)).mono ?_
  rintro e w1 ⟨rfl, hb1⟩
  obtain ⟨q0, q1, qs, hbel⟩ := blocks2 hb1
  have d2 : w1.cell? ⟨w.heap.size, 2, none⟩ = some (.slice (some ⟨b, off, none⟩) n c) := q0.cell 2
  have nn := World.new_ne w1 _ d2
  have HB := hid hbel
  have HQ0 := hid q0
  have HQ1 := hid q1
  clear hb1 q0 q1 hbel
  go_wp2_with fail
  go_region_held3 (fun w' => w'.cell? ⟨w.heap.size, 2, none⟩ = some (.slice (some ⟨b, off, none⟩) n c)) (go_keep) (first | (go_at_call 37; refine (HS.out _ ?_).mono ?_; (first | exact HB.out.drew | exact (HB.out.alloc HB.out.size _).drew); rintro e w' ⟨rfl, rfl⟩))
  all_goals
    have d0 : ((w1.alloc (.cells #[.float .f32 m] 32)).drew).cell? ⟨w.heap.size, 0, none⟩ = some (.int .i64 W) := (HQ0.out.alloc _).cell 0
    have d1 : ((w1.alloc (.cells #[.float .f32 m] 32)).drew).cell? ⟨w.heap.size, 1, none⟩ = some (.int .i64 H) := (HQ0.out.alloc _).cell 1
    have d2' : ((w1.alloc (.cells #[.float .f32 m] 32)).drew).cell? ⟨w.heap.size, 2, none⟩ = some (.slice (some ⟨b, off, none⟩) n c) := (HQ0.out.alloc _).cell 2
    go_wp2_with fail
    refine (HR.out _ w1.heap.size ?_ ?_ ?_).mono ?_
    · exact (HB.out.alloc HB.out.size _).drew
    · exact (HQ0.out.alloc _)
    · exact (Blk.new w1 _ _)
    rintro e w2 ⟨gg, cp, rfl, hrow, hge, hb2⟩
    have hq1 : Blk w2 (w.heap.size + 1) 26 #[.int .i64 0, .int .i64 0, .slice none 0 0] := (HQ1.out.alloc (.cells #[.float .f32 m] 32)).drew.below' hb2
    have hbel : Below w.heap.size w w2 := ((HB.out.alloc HB.out.size (.cells #[.float .f32 m] 32)).drew).trans (hb2.mono ((HB.out.alloc HB.out.size (.cells #[.float .f32 m] 32)).drew).size)
    have hge' : w.heap.size + 1 < gg := by
      have h1 : ((w1.alloc (.cells #[.float .f32 m] 32)).drew).heap.size = w1.heap.size + 1 := World.size_alloc _ _
      rw [h1] at hge
      omega
    have HBe := hid hbel
    have HRo := hid hrow
    obtain ⟨a1, f1⟩ := hq1.all
    clear hbel hrow hge hb2 d0 d1 d2'
    go_wp2_with fail
    refine bodyPost_ret (v := .tuple #[.agg #[.int .i64 W, .int .i64 H, .slice (some ⟨gg, 0, none⟩) (W * H) cp], .bool true]) (by simp [results, Try.results17, go_sem, a1]) rfl ⟨gg, cp, rfl, ?_, ?_, ?_⟩
    · exact ((HRo.out.setCell (by simp; omega) _).setCell (by simp; omega) _).setCell (by simp; omega) _
    · omega
    · exact ((HBe.out.setCell (by simp <;> omega) _).setCell (by simp <;> omega) _).setCell (by simp <;> omega) _

/-! ## the range -/
set_option maxHeartbeats 2000000 in
theorem c_RangeInBasin (W H b off n c : Nat) (l : List Nat) (w : World) (hi : InB w W H b off n l) :
    Calls Try.prog 18 #[.agg #[.int .i64 W, .int .i64 H, .slice (some ⟨b, off, none⟩) n c]] w fun e w' => ∃ lo hi : Nat, e = .returned (.tuple #[.float .f32 lo, .float .f32 hi, .bool true]) ∧ (Num Ieee.single lo ∧ Num Ieee.single hi ∧ fv Ieee.single lo ≤ fv Ieee.single hi) ∧ Below w.heap.size w w' := by
  have hsz : W * H ≤ 16 * 16 := Nat.mul_le_mul hi.siz.b hi.siz.d
  have hge9 : 3 * 3 ≤ W * H := Nat.mul_le_mul hi.siz.a hi.siz.c
  have hnw := hi.nl
  have hlen := hi.len
  have hn0 : (0 : Int) < n := by omega
  have hN : n ≤ 256 := by omega
  have HV : Hid (∀ wx : World, Below w.heap.size w wx → Calls Try.prog 16 #[.agg #[.int .i64 W, .int .i64 H, .slice (some ⟨b, off, none⟩) n c]] wx fun e w' => e = .returned (.bool true) ∧ Below wx.heap.size wx w') :=
    fun wx hb => c_ValidBasin W H b off n c l _ hi.siz (hi.below hb).row hi.nl hi.len hi.num
  have HRow := hid (fun (wx : World) (hb : Below w.heap.size w wx) => (hi.below hb).row)
  have HA : Hid (∀ k, k < n → Num Ieee.single (l.getD k 0)) := hid (fun k hk => hi.num k (by omega))
  have hll : n ≤ l.length := by omega
  clear hi hnw hlen hsz hge9
  go_enter Try.func18, Try.ntmps18
  go_wp2_with fail
  refine (HV.out _ ((Below.refl _ w).alloc (Nat.le_refl _) _)).mono ?_
  rintro e w1 ⟨rfl, hb1⟩
  obtain ⟨q0, qs, hbel⟩ := blocks1 hb1
  have hrow := HRow.out w1 hbel
  have hc0 : w1.cell? ⟨b, off, none⟩ = some (.float .f32 (l.getD 0 0)) := hrow.2 0 (by omega)
  have hcA : Hid (∀ k, k < n → w1.cell? ⟨b, off + k, none⟩ = some (.float .f32 (l.getD k 0))) := hid (fun k hk => hrow.2 k (by omega))
  have hx0 := HA.out 0 (by omega)
  have d2 : w1.cell? ⟨w.heap.size, 2, none⟩ = some (.slice (some ⟨b, off, none⟩) n c) := q0.cell 2
  have HB := hid hbel
  clear hb1 q0 hbel hrow
  go_wp2_with fail
  go_quiet (fail)
  go_wp2_with fail
  have d2' : (w1.drewN nq).cell? ⟨w.heap.size, 2, none⟩ = some (.slice (some ⟨b, off, none⟩) n c) := d2
  go_wp2_with fail
  clear d2 d2'
  have hle0 : fv Ieee.single (l[0]?.getD 0) ≤ fv Ieee.single (l[0]?.getD 0) := Rat.le_refl
  rw [List.getD_eq_getElem?_getD] at hx0
  generalize l[0]?.getD 0 = v0 at *
  go_loop [5, 6, 23] (fun a b i => ∃ (k lo hi : Nat), k ≤ n ∧ i = .int .i64 k ∧ a = .float .f32 lo ∧ b = .float .f32 hi ∧ Num Ieee.single lo ∧ Num Ieee.single hi ∧ fv Ieee.single lo ≤ fv Ieee.single hi) (fun _ _ i => n - (intOf i).toNat)
  case atStart => exact ⟨0, v0, v0, Nat.zero_le _, rfl, rfl, rfl, hx0, hx0, hle0⟩
  case round =>
    clear hle0 hx0 hc0
    obtain ⟨k, lo, hi, hk, rfl, rfl, rfl, nlo, nhi, hle⟩ := hrel
    by_cases hlt : k < n
    · have hcell := hcA.out k hlt
      have hcell' : (w1.drewN nq).cell? ⟨b, off + k, none⟩ = some (.float .f32 (l.getD k 0)) := hcell
      have hnum := HA.out k hlt
      clear hcell
      generalize l.getD k 0 = v at *
      have L1 := order_num hnum nlo
      have L2 := order_num hnum nhi
      have hl1 : (Ieee.single.order v lo == some .lt) = decide (fv Ieee.single v < fv Ieee.single lo) := by
        rw [L1]; by_cases h : fv Ieee.single v < fv Ieee.single lo
        · simp [h]
        · by_cases h' : fv Ieee.single v = fv Ieee.single lo <;> simp [h, h']
      have hl2 : (Ieee.single.order v hi == some .gt) = decide (fv Ieee.single hi < fv Ieee.single v) := by
        rw [L2]
        by_cases h : fv Ieee.single v < fv Ieee.single hi
        · have : ¬ fv Ieee.single hi < fv Ieee.single v := by grind
          simp [h, this]
        · by_cases h' : fv Ieee.single v = fv Ieee.single hi
          · have : ¬ fv Ieee.single hi < fv Ieee.single v := by grind
            simp [h, h', this]
          · have : fv Ieee.single hi < fv Ieee.single v := by grind
            simp [h, h', this]
      clear L1 L2
      have hcase : (fv Ieee.single v < fv Ieee.single lo ∧ ¬ fv Ieee.single hi < fv Ieee.single v) ∨ (¬ fv Ieee.single v < fv Ieee.single lo ∧ fv Ieee.single hi < fv Ieee.single v) ∨ (¬ fv Ieee.single v < fv Ieee.single lo ∧ ¬ fv Ieee.single hi < fv Ieee.single v) := by grind
      rcases hcase with ⟨c1, c2⟩ | ⟨c1, c2⟩ | ⟨c1, c2⟩
      · simp only [c1, c2, decide_true, decide_false] at hl1 hl2
        have h1 : (FloatKind.f32.format.order v lo == some .lt) = _ := hl1
        have h2 : (FloatKind.f32.format.order v hi == some .gt) = _ := hl2
        have HC : Hid (fv Ieee.single lo ≤ fv Ieee.single hi) := hid hle
        have C1 := hid c1
        have C2 := hid c2
        clear hl1 hl2 hle c1 c2
        go_wp2
        go_round
        case rel => exact ⟨k + 1, v, hi, by omega, by go_num, rfl, rfl, hnum, nhi, by have a1 := HC.out; have a2 := C1.out; grind⟩
        case measure => simp [intOf]; omega
      · simp only [c1, c2, decide_true, decide_false] at hl1 hl2
        have h1 : (FloatKind.f32.format.order v lo == some .lt) = _ := hl1
        have h2 : (FloatKind.f32.format.order v hi == some .gt) = _ := hl2
        have HC : Hid (fv Ieee.single lo ≤ fv Ieee.single hi) := hid hle
        have C1 := hid c1
        have C2 := hid c2
        clear hl1 hl2 hle c1 c2
        go_wp2
        go_round
        case rel => exact ⟨k + 1, lo, v, by omega, by go_num, rfl, rfl, nlo, hnum, by have a1 := HC.out; have a2 := C2.out; grind⟩
        case measure => simp [intOf]; omega
      · simp only [c1, c2, decide_true, decide_false] at hl1 hl2
        have h1 : (FloatKind.f32.format.order v lo == some .lt) = _ := hl1
        have h2 : (FloatKind.f32.format.order v hi == some .gt) = _ := hl2
        have HC : Hid (fv Ieee.single lo ≤ fv Ieee.single hi) := hid hle
        have C1 := hid c1
        have C2 := hid c2
        clear hl1 hl2 hle c1 c2
        go_wp2
        go_round
        case rel => exact ⟨k + 1, lo, hi, by omega, by go_num, rfl, rfl, nlo, nhi, HC.out⟩
        case measure => simp [intOf]; omega
    · have HC : Hid (fv Ieee.single lo ≤ fv Ieee.single hi) := hid hle
      clear hle
      go_wp2
      go_ret3
      exact ⟨lo, hi, rfl, ⟨nlo, nhi, HC.out⟩, below_drewN HB.out nq⟩
end Go.Proofs.Ytihknapgdkladaa
