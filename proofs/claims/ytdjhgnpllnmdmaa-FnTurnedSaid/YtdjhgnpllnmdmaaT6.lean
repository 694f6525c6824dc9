/- Turned: angles of complex numbers; rows of complex numbers. -/
import Derived.Test.YtdjhgnpllnmdmaaT5
set_option linter.unusedVariables false
set_option linter.unusedSectionVars false
set_option linter.unusedSimpArgs false
namespace Go.Proofs.Ytdjhgnpllnmdmaa
open Go.RowKit
attribute [local go_sem] r_addD r_subD r_mulD r_divD r_addS r_subS r_mulS r_divS r_wide r_narrow w_store r_neg
attribute [local go_sem ↓] Go.wp_at_zero Go.wp_at_succ

theorem c_AngleTurns (y x r : Nat) (h : angleO y x = some r) (w : World) : Calls Try.prog 45 #[.float .f32 y, .float .f32 x] w fun e w' => e = .returned (.float .f32 r) ∧ Below w.heap.size w w' := by
  unfold angleO at h
  cases hf : (finS y && finS x)
  · rw [hf] at h; cases h
  rw [hf, cond_true] at h
  rw [Bool.and_eq_true] at hf
  obtain ⟨ox, hox, h1⟩ := bind_some h
  obtain ⟨oy, hoy, h2⟩ := bind_some h1
  cases hc : (isEq ox && isEq oy)
  · rw [hc, cond_false] at h2
    obtain ⟨wy, hwy, h3⟩ := bind_some h2
    obtain ⟨wx, hwx, h4⟩ := bind_some h3
    unfold angW at h4
    cases hb : (Nat.ble wy 18446744073709551615 && Nat.ble wx 18446744073709551615)
    · rw [hb] at h4; cases h4
    rw [hb, cond_true] at h4
    rw [Bool.and_eq_true] at hb
    simp only [Q.st_eq] at h4
    unfold angA at h4
    obtain ⟨t0, ht0, h5⟩ := bind_some h4
    obtain ⟨og, hog, h6⟩ := bind_some h5
    obtain ⟨t, ht, h7⟩ := bind_some h6
    unfold angM at h7
    obtain ⟨t3, ht3, h8⟩ := bind_some h7
    obtain ⟨u, hu, h9⟩ := bind_some h8
    obtain ⟨p, hp, h10⟩ := bind_some h9
    have b1 := Q.ble_true hb.1
    have b2 := Q.ble_true hb.2
    exact c_angA y x wy wx t0 t t3 u p r ox oy og w hf.1 hf.2 hox hoy hc hwy hwx (by omega) (by omega) ht0 hog ht ht3 hu hp h10
  · rw [hc, cond_true] at h2
    have hr : 0 = r := Option.some.inj h2
    subst hr
    rw [Bool.and_eq_true] at hc
    have hox2 : ox = .eq := by cases ox <;> first | rfl | (cases hc.1)
    have hoy2 : oy = .eq := by cases oy <;> first | rfl | (cases hc.2)
    subst hox2 hoy2
    have HF := hid (c_finite w.heap.size 0 2 2 [y, x] _ (frow_two w y x) rfl (by omega) (finL_two hf.1 hf.2))
    have k1 : FloatKind.f32.format.order x 0 = some .eq := Q.ordS_eq hox
    have k2 : FloatKind.f32.format.order y 0 = some .eq := Q.ordS_eq hoy
    clear hf hox hoy h h1 h2 hc
    go_enter Try.func45, Try.ntmps45
    go_wp2_with fail
    refine HF.out.mono ?_
    rintro e w' ⟨rfl, rfl⟩
    go_wp2_with fail
    go_ret
    exact ⟨rfl, (Below.refl _ _).alloc (Nat.le_refl _) _⟩
theorem c_AngleOf (a b r : Nat) (h : angleO b a = some r) (w : World) : Calls Try.prog 22 #[.complex .f32 a b] w fun e w' => e = .returned (.float .f32 r) ∧ Below w.heap.size w w' := by
  have HA := hid (c_AngleTurns b a r h w)
  clear h
  go_enter Try.func22, Try.ntmps22
  go_wp2_with fail
  refine HA.out.mono ?_
  rintro e w' ⟨rfl, hb⟩
  have HB := hid hb
  clear hb
  go_wp2_with fail
  go_ret
  exact ⟨rfl, HB.out⟩

/-- A ROW OF COMPLEX NUMBERS. -/
def CRow (w : World) (b off : Nat) (l : List (Nat × Nat)) : Prop := b < w.heap.size ∧ ∀ i, i < l.length → w.cell? ⟨b, off + i, none⟩ = some (.complex .f32 (l.getD i (0, 0)).1 (l.getD i (0, 0)).2)
theorem CRow.below {B : Nat} {w w' : World} {b off : Nat} {l : List (Nat × Nat)} (h : CRow w b off l) (hb : Below B w w') (hB : b < B) : CRow w' b off l :=
  ⟨Nat.lt_of_lt_of_le h.1 hb.size, fun i hi => (hb.cell (p := ⟨b, off + i, none⟩) hB).trans (h.2 i hi)⟩
def FinC (l : List (Nat × Nat)) : Prop := ∀ i, i < l.length → finS (l.getD i (0, 0)).1 = true ∧ finS (l.getD i (0, 0)).2 = true
theorem c_finiteAll1 (a b : Nat) (ha : finS a = true) (hb : finS b = true) (w : World) : Calls Try.prog 57 #[.complex .f32 a b] w fun e w' => e = .returned (.bool false) ∧ Below w.heap.size w w' := by
  have HF := hid (c_IsFiniteComplex a b ha hb w)
  go_enter Try.func57, Try.ntmps57
  go_wp2_with fail
  refine HF.out.mono ?_
  rintro e w' ⟨rfl, hb⟩
  have HB := hid hb
  clear hb
  go_wp2_with fail
  go_ret
  exact ⟨rfl, HB.out⟩
set_option maxHeartbeats 1000000 in
theorem c_IndexAll (b off n c : Nat) (l : List (Nat × Nat)) (w : World) (hr : CRow w b off l) (hn : n = l.length) (hm : n ≤ 1000000) (hA : FinC l) :
    Calls Try.prog 65 #[.slice (some ⟨b, off, none⟩) n c, .func (.func 57) #[] #[]] w fun e w' => e = .returned (.int .i64 (-1)) ∧ Below w.heap.size w w' := by
  have HR := hid hr
  have HA := hid hA
  have HN := hid hn
  clear hr hA hn
  go_enter Try.func65, Try.ntmps65
  go_wp2
  go_loopw [8] (fun i wr => ∃ k : Nat, k ≤ n ∧ i = .int .i64 k ∧ Below w.heap.size w wr) (fun i _ => n - (intOf i).toNat)
  case atStart => exact ⟨0, Nat.zero_le _, rfl, Below.refl _ _⟩
  case round =>
    obtain ⟨k, hk, rfl, hb⟩ := hrel
    by_cases hlt : k < n
    · have hcell := (HR.out.below hb HR.out.1).2 k (by have := HN.out; omega)
      have hnum := HA.out k (by have := HN.out; omega)
      generalize l.getD k (0, 0) = v at *
      have HF := hid (c_finiteAll1 v.1 v.2 hnum.1 hnum.2 wr)
      have HB := hid hb
      clear hnum hb
      go_wp2_with fail
      refine HF.out.mono ?_
      rintro e w' ⟨rfl, hb2⟩
      have HB2 := hid hb2
      clear hb2 hcell
      go_wp2_with fail
      go_roundw
      case rel => exact ⟨k + 1, by omega, by go_num, HB.out.trans (HB2.out.mono HB.out.size)⟩
      case measure => simp [intOf]; omega
    · have HB := hid hb
      clear hb
      go_wp2
      go_ret
      exact ⟨rfl, HB.out⟩
theorem c_finiteAll (b off n c : Nat) (l : List (Nat × Nat)) (w : World) (hr : CRow w b off l) (hn : n = l.length) (hm : n ≤ 1000000) (hA : FinC l) :
    Calls Try.prog 44 #[.slice (some ⟨b, off, none⟩) n c] w fun e w' => e = .returned (.bool true) ∧ Below w.heap.size w w' := by
  have H := hid (c_IndexAll b off n c l w hr hn hm hA)
  have HC : Hid (Calls Try.prog 56 #[.slice (some ⟨b, off, none⟩) n c, .func (.func 57) #[] #[]] w fun e w' => e = .returned (.bool false) ∧ Below w.heap.size w w') := by
    clear hr hn hm hA
    go_enter Try.func56, Try.ntmps56
    go_wp2_with fail
    refine H.out.mono ?_
    rintro e w' ⟨rfl, hb⟩
    have HB := hid hb
    clear hb
    go_wp2_with fail
    go_ret
    exact ⟨rfl, HB.out⟩
  clear hr hn hm hA H
  go_enter Try.func44, Try.ntmps44
  go_wp2_with fail
  refine HC.out.mono ?_
  rintro e w' ⟨rfl, hb⟩
  have HB := hid hb
  clear hb
  go_wp2_with fail
  go_ret
  exact ⟨rfl, HB.out⟩
end Go.Proofs.Ytdjhgnpllnmdmaa
