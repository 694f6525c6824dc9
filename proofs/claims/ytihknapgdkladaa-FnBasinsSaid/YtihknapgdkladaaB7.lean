/- Basins: sums. -/
import Derived.Test.YtihknapgdkladaaB6
set_option linter.unusedSimpArgs false
set_option linter.unusedVariables false
set_option linter.unusedSectionVars false
namespace Go.Proofs.Ytihknapgdkladaa
open Go.RowKit Fl
attribute [local go_sem] w_add w_sub w_mul w_store

def sumK (l : List Nat) : Nat → Nat
  | 0 => 0
  | k + 1 => fadd Ieee.single (sumK l k) (l.getD k 0)
def dotK (l l' : List Nat) : Nat → Nat
  | 0 => 0
  | k + 1 => fadd Ieee.single (dotK l l' k) (fmul Ieee.single (l.getD k 0) (l'.getD k 0))
def SumOk (l : List Nat) : Prop := ∀ k, k ≤ l.length → Num Ieee.single (sumK l k)
def DotOk (l l' : List Nat) : Prop := ∀ k, k ≤ l.length → Num Ieee.single (dotK l l' k) ∧ (k < l.length → Num Ieee.single (fmul Ieee.single (l.getD k 0) (l'.getD k 0)))

set_option maxHeartbeats 800000 in
theorem c_sum (b off n c : Nat) (l : List Nat) (w : World) (hr : FRow w b off l) (hn : n = l.length) (hm : n ≤ 1000000) (hA : AllNum l) (hS : SumOk l) :
    Calls Try.prog 37 #[.slice (some ⟨b, off, none⟩) n c] w fun e w' => e = .returned (.float .f32 (sumK l n)) ∧ w = w' := by
  have hc := hr.2
  have hA' : ∀ k, k < n → Num Ieee.single (l.getD k 0) := fun k hk => hA k (by omega)
  have hS' : ∀ k, k ≤ n → Num Ieee.single (sumK l k) := fun k hk => hS k (by omega)
  rw [← hn] at hc
  clear hr hn hA hS
  go_enter Try.func37, Try.ntmps37
  go_wp2
  go_loop [3, 8] (fun s i => ∃ k : Nat, k ≤ n ∧ i = .int .i64 k ∧ s = .float .f32 (sumK l k)) (fun _ i => n - (intOf i).toNat)
  case atStart => exact ⟨0, Nat.zero_le _, rfl, rfl⟩
  case round =>
    obtain ⟨k, hk, rfl, rfl⟩ := hrel
    by_cases hlt : k < n
    · have hcell := hc k hlt
      have hnum := hA' k hlt
      have hs := hS' k hk
      have he : Hid (sumK l (k + 1) = fadd Ieee.single (sumK l k) (l.getD k 0)) := rfl
      generalize l.getD k 0 = v at *
      generalize sumK l k = s at *
      clear hc hA' hS'
      go_wp2
      go_round
      case rel => exact ⟨k + 1, by omega, by go_num, by rw [he.out]⟩
      case measure => simp [intOf]; omega
    · obtain rfl : k = n := by omega
      clear hc hA' hS'
      go_wp2
      go_ret
      exact ⟨rfl, rfl⟩

set_option maxHeartbeats 800000 in
theorem c_dot (b off n c b' off' n' c' : Nat) (l l' : List Nat) (w : World) (hr : FRow w b off l) (hr' : FRow w b' off' l') (hn : n = l.length) (hn' : n' = l'.length) (hnn : n = n') (hm : n ≤ 1000000) (hA : AllNum l) (hA' : AllNum l') (hS : DotOk l l') :
    Calls Try.prog 45 #[.slice (some ⟨b, off, none⟩) n c, .slice (some ⟨b', off', none⟩) n' c'] w fun e w' => e = .returned (.float .f32 (dotK l l' n)) ∧ w = w' := by
  subst hnn
  have hc := hr.2
  have hc' := hr'.2
  have g1 : ∀ k, k < n → Num Ieee.single (l.getD k 0) := fun k hk => hA k (by omega)
  have g2 : ∀ k, k < n → Num Ieee.single (l'.getD k 0) := fun k hk => hA' k (by omega)
  have g3 : ∀ k, k ≤ n → Num Ieee.single (dotK l l' k) := fun k hk => (hS k (by omega)).1
  have g4 : ∀ k, k < n → Num Ieee.single (fmul Ieee.single (l.getD k 0) (l'.getD k 0)) := fun k hk => (hS k (by omega)).2 (by omega)
  rw [← hn] at hc
  rw [← hn'] at hc'
  clear hr hn hA hS hr' hn' hA'
  go_enter Try.func45, Try.ntmps45
  go_wp2
  go_loop [5, 10] (fun s i => ∃ k : Nat, k ≤ n ∧ i = .int .i64 k ∧ s = .float .f32 (dotK l l' k)) (fun _ i => n - (intOf i).toNat)
  case atStart => exact ⟨0, Nat.zero_le _, rfl, rfl⟩
  case round =>
    obtain ⟨k, hk, rfl, rfl⟩ := hrel
    by_cases hlt : k < n
    · have hcell := hc k hlt
      have hcell' := hc' k hlt
      have h1 := g1 k hlt
      have h2 := g2 k hlt
      have h3 := g3 k hk
      have h4 := g4 k hlt
      have he : Hid (dotK l l' (k + 1) = fadd Ieee.single (dotK l l' k) (fmul Ieee.single (l.getD k 0) (l'.getD k 0))) := rfl
      generalize l.getD k 0 = v at *
      generalize l'.getD k 0 = v' at *
      generalize dotK l l' k = s at *
      clear hc hc' g1 g2 g3 g4
      go_wp2
      go_round
      case rel => exact ⟨k + 1, by omega, by go_num, by rw [he.out]⟩
      case measure => simp [intOf]; omega
    · obtain rfl : k = n := by omega
      clear hc hc' g1 g2 g3 g4
      go_wp2
      go_ret
      exact ⟨rfl, rfl⟩

set_option maxHeartbeats 800000 in
theorem c_TotalInBasin (W H b off n c : Nat) (l : List Nat) (w : World) (hi : InB w W H b off n l) (hS : SumOk l) :
    Calls Try.prog 10 #[.agg #[.int .i64 W, .int .i64 H, .slice (some ⟨b, off, none⟩) n c]] w fun e w' => e = .returned (.tuple #[.float .f32 (sumK l n), .bool true]) ∧ Below w.heap.size w w' := by
  have hsz : W * H ≤ 16 * 16 := Nat.mul_le_mul hi.siz.b hi.siz.d
  have hnw := hi.nl
  have hlen := hi.len
  have HV : Hid (∀ wx : World, Below w.heap.size w wx → Calls Try.prog 16 #[.agg #[.int .i64 W, .int .i64 H, .slice (some ⟨b, off, none⟩) n c]] wx fun e w' => e = .returned (.bool true) ∧ Below wx.heap.size wx w') :=
    fun wx hb => c_ValidBasin W H b off n c l _ hi.siz (hi.below hb).row hi.nl hi.len hi.num
  have HS : Hid (∀ wx : World, Below w.heap.size w wx → Calls Try.prog 37 #[.slice (some ⟨b, off, none⟩) n c] wx fun e w' => e = .returned (.float .f32 (sumK l n)) ∧ wx = w') :=
    fun wx hb => c_sum b off n c l wx (hi.below hb).row hi.nl (by omega) hi.num hS
  have HN : Hid (∀ wx : World, Calls Try.prog 36 #[.float .f32 (sumK l n)] wx fun e w' => e = .returned (.tuple #[.float .f32 (sumK l n), .bool true]) ∧ wx = w') :=
    fun wx => c_toldNumber _ wx (by rw [hi.nl]; exact hS _ (Nat.le_refl _))
  clear hi hS hnw hlen hsz
  generalize sumK l n = s at *
  go_enter Try.func10, Try.ntmps10
  go_wp2_with fail
  refine (HV.out _ ((Below.refl _ w).alloc (Nat.le_refl _) _)).mono ?_
  rintro e w1 ⟨rfl, hb1⟩
  obtain ⟨q0, qs, hbel⟩ := blocks1 hb1
  obtain ⟨a0, _⟩ := q0.all
  have HB := hid hbel
  clear hb1 q0 hbel
  go_wp2_with fail
  refine (HS.out _ HB.out).mono ?_
  rintro e w' ⟨rfl, rfl⟩
  go_wp2_with fail
  refine (HN.out _).mono ?_
  rintro e w' ⟨rfl, rfl⟩
  go_wp2_with fail
  go_ret2
  exact ⟨rfl, HB.out⟩

set_option maxHeartbeats 800000 in
theorem c_SquaresInBasin (W H b off n c : Nat) (l : List Nat) (w : World) (hi : InB w W H b off n l) (hS : DotOk l l) :
    Calls Try.prog 19 #[.agg #[.int .i64 W, .int .i64 H, .slice (some ⟨b, off, none⟩) n c]] w fun e w' => e = .returned (.tuple #[.float .f32 (dotK l l n), .bool true]) ∧ Below w.heap.size w w' := by
  have hsz : W * H ≤ 16 * 16 := Nat.mul_le_mul hi.siz.b hi.siz.d
  have hnw := hi.nl
  have hlen := hi.len
  have HV : Hid (∀ wx : World, Below w.heap.size w wx → Calls Try.prog 16 #[.agg #[.int .i64 W, .int .i64 H, .slice (some ⟨b, off, none⟩) n c]] wx fun e w' => e = .returned (.bool true) ∧ Below wx.heap.size wx w') :=
    fun wx hb => c_ValidBasin W H b off n c l _ hi.siz (hi.below hb).row hi.nl hi.len hi.num
  have HS : Hid (∀ wx : World, Below w.heap.size w wx → Calls Try.prog 45 #[.slice (some ⟨b, off, none⟩) n c, .slice (some ⟨b, off, none⟩) n c] wx fun e w' => e = .returned (.float .f32 (dotK l l n)) ∧ wx = w') :=
    fun wx hb => c_dot b off n c b off n c l l wx (hi.below hb).row (hi.below hb).row hi.nl hi.nl rfl (by omega) hi.num hi.num hS
  have HN : Hid (∀ wx : World, Calls Try.prog 36 #[.float .f32 (dotK l l n)] wx fun e w' => e = .returned (.tuple #[.float .f32 (dotK l l n), .bool true]) ∧ wx = w') :=
    fun wx => c_toldNumber _ wx (by rw [hi.nl]; exact (hS _ (Nat.le_refl _)).1)
  clear hi hS hnw hlen hsz
  generalize dotK l l n = s at *
  go_enter Try.func19, Try.ntmps19
  go_wp2_with fail
  refine (HV.out _ ((Below.refl _ w).alloc (Nat.le_refl _) _)).mono ?_
  rintro e w1 ⟨rfl, hb1⟩
  obtain ⟨q0, qs, hbel⟩ := blocks1 hb1
  obtain ⟨a0, _⟩ := q0.all
  have HB := hid hbel
  clear hb1 q0 hbel
  go_wp2_with fail
  refine (HS.out _ HB.out).mono ?_
  rintro e w' ⟨rfl, rfl⟩
  go_wp2_with fail
  refine (HN.out _).mono ?_
  rintro e w' ⟨rfl, rfl⟩
  go_wp2_with fail
  go_ret2
  exact ⟨rfl, HB.out⟩
end Go.Proofs.Ytihknapgdkladaa
