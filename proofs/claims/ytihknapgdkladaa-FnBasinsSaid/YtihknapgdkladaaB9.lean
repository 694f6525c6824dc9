/- Basins: the same; one spin. -/
import Derived.Test.YtihknapgdkladaaB8
set_option linter.unusedVariables false
set_option linter.unusedSectionVars false
set_option linter.unusedSimpArgs false
namespace Go.Proofs.Ytihknapgdkladaa
open Go.RowKit Fl
attribute [local go_sem] w_add w_sub w_mul w_store
attribute [local go_sem ↓] Go.wp_at_zero Go.wp_at_succ

theorem ext_bits32 (b : Nat) (w : World) : (callFunc 72 #[.float .f32 b]).run Try.prog w = .ok (.value (.int .u32 b)) w := by
  rw [run_callFunc_extern (e := Extern.MathFloatBits.float32bits) Try.func72 (by kernel_rfl) (by kernel_rfl) (by kernel_rfl) (by kernel_rfl)]
  rfl

set_option maxHeartbeats 400000 in
theorem c_SameNumber (x : Nat) (w : World) (h : Num Ieee.single x) :
    Calls Try.prog 66 #[.float .f32 x, .float .f32 x] w fun e w' => e = .returned (.bool true) ∧ w = w' := by
  have HN : Hid (∀ wx : World, Calls Try.prog 75 #[.float .f32 x] wx fun e w' => e = .returned (.bool false) ∧ wx = w') := fun wx => c_isNaN x wx h
  clear h
  have hx := ext_bits32 x
  go_enter Try.func66, Try.ntmps66
  go_wp2_with (go_at_call 75; refine (HN.out _).mono ?_; rintro e w' ⟨rfl, rfl⟩)
  go_ret
  exact ⟨rfl, rfl⟩

set_option maxHeartbeats 800000 in
theorem c_EqualFunc (b off n c b' off' n' c' : Nat) (l : List Nat) (w : World) (hr : FRow w b off l) (hr' : FRow w b' off' l) (hn : n = l.length) (hn' : n' = n) (hm : n ≤ 1000000) (hA : AllNum l) :
    Calls Try.prog 65 #[.slice (some ⟨b, off, none⟩) n c, .slice (some ⟨b', off', none⟩) n' c', .func (.func 66) #[] #[]] w fun e w' => e = .returned (.bool true) ∧ w = w' := by
  subst hn'
  have hc := hr.2
  have hc' := hr'.2
  rw [← hn] at hc hc'
  have hA' : ∀ k, k < n' → Num Ieee.single (l.getD k 0) := fun k hk => hA k (by omega)
  clear hr hr' hn hA
  go_enter Try.func65, Try.ntmps65
  go_wp2
  go_loop [17] (fun i => ∃ k : Nat, k ≤ n' ∧ i = .int .i64 k) (fun i => n' - (intOf i).toNat)
  case atStart => exact ⟨0, Nat.zero_le _, rfl⟩
  case round =>
    obtain ⟨k, hk, rfl⟩ := hrel
    by_cases hlt : k < n'
    · have hcell := hc k hlt
      have hcell' := hc' k hlt
      have hnum := hA' k hlt
      generalize l.getD k 0 = v at *
      have HF : Hid (∀ wx : World, Calls Try.prog 66 #[.float .f32 v, .float .f32 v] wx fun e w' => e = .returned (.bool true) ∧ wx = w') := fun wx => c_SameNumber v wx hnum
      clear hc hc' hA' hnum
      go_wp2_with (go_at_call 66; refine (HF.out _).mono ?_; rintro e w' ⟨rfl, rfl⟩)
      go_round
      case rel => exact ⟨k + 1, by omega, by go_num⟩
      case measure => simp [intOf]; omega
    · go_wp2
      go_ret
      exact ⟨rfl, rfl⟩

set_option maxHeartbeats 400000 in
theorem c_sameList (b off n c b' off' n' c' : Nat) (l : List Nat) (w : World) (hr : FRow w b off l) (hr' : FRow w b' off' l) (hn : n = l.length) (hn' : n' = n) (hm : n ≤ 1000000) (hA : AllNum l) :
    Calls Try.prog 41 #[.slice (some ⟨b, off, none⟩) n c, .slice (some ⟨b', off', none⟩) n' c'] w fun e w' => e = .returned (.bool true) ∧ w = w' := by
  have H := hid (c_EqualFunc b off n c b' off' n' c' l w hr hr' hn hn' hm hA)
  clear hr hr' hn hn' hm hA
  go_enter Try.func41, Try.ntmps41
  go_wp2_with (go_at_call 65; refine H.out.mono ?_; rintro e w' ⟨rfl, rfl⟩)
  go_ret
  exact ⟨rfl, rfl⟩

set_option maxHeartbeats 800000 in
theorem c_SameBasin (W H b off n c b' off' n' c' : Nat) (l : List Nat) (w : World) (hr : FRow w b off l) (hr' : FRow w b' off' l) (hn : n = l.length) (hn' : n' = n) (hm : n ≤ 1000000) (hA : AllNum l) :
    Calls Try.prog 15 #[.agg #[.int .i64 W, .int .i64 H, .slice (some ⟨b, off, none⟩) n c], .agg #[.int .i64 W, .int .i64 H, .slice (some ⟨b', off', none⟩) n' c']] w fun e w' => e = .returned (.bool true) ∧ Below w.heap.size w w' := by
  have HS : Hid (∀ o o' : Obj, Calls Try.prog 41 #[.slice (some ⟨b, off, none⟩) n c, .slice (some ⟨b', off', none⟩) n' c'] ((w.alloc o).alloc o') fun e w' => e = .returned (.bool true) ∧ (w.alloc o).alloc o' = w') :=
    fun o o' => c_sameList b off n c b' off' n' c' l _ ((hr.alloc o).alloc o') ((hr'.alloc o).alloc o') hn hn' hm hA
  clear hr hr' hn hn' hm hA
  go_enter Try.func15, Try.ntmps15
  go_wp2_with (go_at_call 41; refine (HS.out _ _).mono ?_; rintro e w' ⟨rfl, rfl⟩)
  go_ret
  exact ⟨rfl, (((Below.refl _ w).alloc (Nat.le_refl _) _).alloc (by simp) _)⟩

/-! ## one spin -/
set_option maxHeartbeats 800000 in
theorem c_has (g W H b off n c : Nat) (l : List Nat) (x y : Int) (w : World) (hb : BasP w g W H b off n c l) (hs : Siz W H) (hn : n = l.length) (hl : l.length = W * H) (hA : AllNum l)
    (h1 : 0 ≤ x) (h2 : x ≤ (W : Int) - 1) (h3 : 0 ≤ y) (h4 : y ≤ (H : Int) - 1) :
    Calls Try.prog 46 #[.pointer (some ⟨g, 0, none⟩), .int .i64 x, .int .i64 y] w fun e w' => e = .returned (.bool true) ∧ Below w.heap.size w w' := by
  have HV := hid (c_ValidBasin W H b off n c l w hs hb.row hn hl hA)
  have I1 : Hid (∀ wx : World, Calls Try.prog 38 #[.int .i64 x, .int .i64 0, .int .i64 ((W : Int) - 1)] wx fun e w' => e = .returned (.bool true) ∧ wx = w') := fun wx => c_in_yes x _ _ wx h1 h2
  have I2 : Hid (∀ wx : World, Calls Try.prog 38 #[.int .i64 y, .int .i64 0, .int .i64 ((H : Int) - 1)] wx fun e w' => e = .returned (.bool true) ∧ wx = w') := fun wx => c_in_yes y _ _ wx h3 h4
  have HB := hid hb
  have d0 := hb.c0
  have d1 := hb.c1
  have d2 := hb.c2
  have s1 := hs.b
  have s2 := hs.d
  clear hb hs hn hl hA
  go_enter Try.func46, Try.ntmps46
  go_wp2_with fail
  refine HV.out.mono ?_
  rintro e w1 ⟨rfl, hb1⟩
  have hb2 := HB.out.later hb1
  have e0 := hb2.c0
  have e1 := hb2.c1
  have HL := hid hb1
  clear hb1 hb2 d0 d1 d2
  go_wp2_with fail
  refine (I1.out _).mono ?_
  rintro e w' ⟨rfl, rfl⟩
  go_wp2_with fail
  refine (I2.out _).mono ?_
  rintro e w' ⟨rfl, rfl⟩
  go_wp2_with fail
  go_ret
  exact ⟨rfl, HL.out⟩

set_option maxHeartbeats 800000 in
theorem c_SpinAt (W H b off n c : Nat) (l : List Nat) (x y : Int) (w : World) (hi : InB w W H b off n l) (h1 : 0 ≤ x) (h2 : x ≤ (W : Int) - 1) (h3 : 0 ≤ y) (h4 : y ≤ (H : Int) - 1) :
    Calls Try.prog 21 #[.agg #[.int .i64 W, .int .i64 H, .slice (some ⟨b, off, none⟩) n c], .int .i64 x, .int .i64 y] w fun e w' => e = .returned (.tuple #[.float .f32 (bat W H l x y), .bool true]) ∧ Below w.heap.size w w' := by
  have hB0 := basp_of (Blk.new w 26 #[.int .i64 W, .int .i64 H, .slice (some ⟨b, off, none⟩) n c]) (hi.row.alloc _)
  have HH := hid (c_has w.heap.size W H b off n c l x y _ hB0 hi.siz hi.nl hi.len hi.num h1 h2 h3 h4)
  have HA : Hid (∀ wx : World, BasP wx w.heap.size W H b off n c l → Calls Try.prog 34 #[.pointer (some ⟨w.heap.size, 0, none⟩), .int .i64 x, .int .i64 y] wx fun e w' => e = .returned (.float .f32 (bat W H l x y)) ∧ ∃ n, w' = wx.drewN n) :=
    fun wx hb => c_at w.heap.size W H b off n c l x y wx hb hi.siz.a hi.siz.b hi.siz.c hi.siz.d (by rw [hi.nl, hi.len]; exact Nat.le_refl _) (by rw [hi.len]; exact Nat.le_refl _)
  have HB := hid hB0
  clear hi hB0 h1 h2 h3 h4
  go_enter Try.func21, Try.ntmps21
  go_wp2_with fail
  refine HH.out.mono ?_
  rintro e w1 ⟨rfl, hb1⟩
  have HL := hid hb1
  clear hb1
  go_wp2_with fail
  refine (HA.out _ (HB.out.later HL.out)).mono ?_
  rintro e w' ⟨rfl, k, rfl⟩
  go_wp2_with fail
  go_ret2
  obtain ⟨q0, qs, hbel⟩ := blocks1 HL.out
  exact ⟨rfl, below_drewN hbel k⟩
end Go.Proofs.Ytihknapgdkladaa
