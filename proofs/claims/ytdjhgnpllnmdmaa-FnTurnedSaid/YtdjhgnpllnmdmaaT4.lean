/- Turned: lists of finite numbers; products; small complex functions. -/
import Derived.Test.YtdjhgnpllnmdmaaT3
set_option linter.unusedVariables false
set_option linter.unusedSectionVars false
set_option linter.unusedSimpArgs false
namespace Go.Proofs.Ytdjhgnpllnmdmaa
open Go.RowKit
attribute [local go_sem] r_addD r_subD r_mulD r_divD r_addS r_subS r_mulS r_divS r_wide r_narrow w_store r_neg
attribute [local go_sem ↓] Go.wp_at_zero Go.wp_at_succ

/-- every number of the list is finite -/
def FinL (l : List Nat) : Prop := ∀ i, i < l.length → finS (l.getD i 0) = true

theorem c_finite1 (x : Nat) (w : World) (h : finS x = true) : Calls Try.prog 49 #[.float .f32 x] w fun e w' => e = .returned (.bool false) ∧ w' = w := by
  have HF := hid (c_IsFinite x h w)
  go_enter Try.func49, Try.ntmps49
  go_wp2_with fail
  refine HF.out.mono ?_
  rintro e w' ⟨rfl, rfl⟩
  go_wp2_with fail
  go_ret
  exact ⟨rfl, rfl⟩
set_option maxHeartbeats 400000 in
theorem c_IndexFin (b off n c : Nat) (l : List Nat) (w : World) (hr : FRow w b off l) (hn : n = l.length) (hm : n ≤ 1000000) (hA : FinL l) :
    Calls Try.prog 51 #[.slice (some ⟨b, off, none⟩) n c, .func (.func 49) #[] #[]] w fun e w' => e = .returned (.int .i64 (-1)) ∧ w' = w := by
  have hc := hr.2
  rw [← hn] at hc
  have hA' : ∀ k, k < n → finS (l.getD k 0) = true := fun k hk => hA k (by omega)
  clear hr hn hA
  go_enter Try.func51, Try.ntmps51
  go_wp2
  go_loop [8] (fun i => ∃ k : Nat, k ≤ n ∧ i = .int .i64 k) (fun i => n - (intOf i).toNat)
  case atStart => exact ⟨0, Nat.zero_le _, rfl⟩
  case round =>
    obtain ⟨k, hk, rfl⟩ := hrel
    by_cases hlt : k < n
    · have hcell := hc k hlt
      have hnum := hA' k hlt
      generalize l.getD k 0 = v at *
      have HF : Hid (∀ wx : World, Calls Try.prog 49 #[.float .f32 v] wx fun e w' => e = .returned (.bool false) ∧ w' = wx) := fun wx => c_finite1 v wx hnum
      clear hc hA' hnum
      go_wp2_with (go_at_call 49; refine (HF.out _).mono ?_; rintro e w' ⟨rfl, rfl⟩)
      go_round
      case rel => exact ⟨k + 1, by omega, by go_num⟩
      case measure => simp [intOf]; omega
    · go_wp2
      go_ret
      exact ⟨rfl, rfl⟩
set_option maxHeartbeats 400000 in
theorem c_finite (b off n c : Nat) (l : List Nat) (w : World) (hr : FRow w b off l) (hn : n = l.length) (hm : n ≤ 1000000) (hA : FinL l) :
    Calls Try.prog 35 #[.slice (some ⟨b, off, none⟩) n c] w fun e w' => e = .returned (.bool true) ∧ w' = w := by
  have H := hid (c_IndexFin b off n c l w hr hn hm hA)
  have HC : Hid (Calls Try.prog 37 #[.slice (some ⟨b, off, none⟩) n c, .func (.func 49) #[] #[]] w fun e w' => e = .returned (.bool false) ∧ w' = w) := by
    clear hr hn hm hA
    go_enter Try.func37, Try.ntmps37
    go_wp2_with (go_at_call 51; refine H.out.mono ?_; rintro e w' ⟨rfl, rfl⟩)
    go_ret
    exact ⟨rfl, rfl⟩
  clear hr hn hm hA H
  go_enter Try.func35, Try.ntmps35
  go_wp2_with (go_at_call 37; refine HC.out.mono ?_; rintro e w' ⟨rfl, rfl⟩)
  go_ret
  exact ⟨rfl, rfl⟩

/-- two numbers laid in a new row -/
theorem frow_two (w : World) (x y : Nat) : FRow (w.alloc (.cells #[.float .f32 x, .float .f32 y] 25)) w.heap.size 0 [x, y] := by
  have hb := Blk.new w 25 #[.float .f32 x, .float .f32 y]
  refine ⟨hb.lt, fun i hi => ?_⟩
  have h2 : i = 0 ∨ i = 1 := by simp at hi; omega
  rcases h2 with rfl | rfl
  · exact hb.cell 0
  · exact hb.cell 1
theorem finL_two {x y : Nat} (hx : finS x = true) (hy : finS y = true) : FinL [x, y] := by
  intro i hi
  have h2 : i = 0 ∨ i = 1 := by simp at hi; omega
  rcases h2 with rfl | rfl
  · exact hx
  · exact hy

theorem c_wide (a b wa wb : Nat) (ha : Q.wide a = some wa) (hb : Q.wide b = some wb) (w : World) :
    Calls Try.prog 46 #[.complex .f32 a b] w fun e w' => e = .returned (.tuple #[.float .f64 wa, .float .f64 wb]) ∧ w' = w := by
  go_enter Try.func46, Try.ntmps46
  go_wp2_with fail
  refine bodyPost_ret (v := .tuple #[.float .f64 wa, .float .f64 wb]) (by simp [results, Try.results46, go_sem]) rfl ⟨rfl, rfl⟩

def mulO (a b c d : Nat) : Option (Nat × Nat) :=
  (Q.wide a).bind fun a => (Q.wide b).bind fun b => (Q.wide c).bind fun c => (Q.wide d).bind fun d =>
  (Q.mulD a c).bind fun ac => (Q.mulD b d).bind fun bd => (Q.subD ac bd).bind fun re => (Q.narrow re).bind fun re =>
  (Q.mulD a d).bind fun ad => (Q.mulD b c).bind fun bc => (Q.addD ad bc).bind fun im => (Q.narrow im).bind fun im => some (re, im)
theorem c_MulComplex (a b c d re im : Nat) (h : mulO a b c d = some (re, im)) (w : World) :
    Calls Try.prog 23 #[.complex .f32 a b, .complex .f32 c d] w fun e w' => e = .returned (.complex .f32 re im) ∧ w' = w := by
  unfold mulO at h
  obtain ⟨wa, ha, h⟩ := bind_some h
  obtain ⟨wb, hb, h⟩ := bind_some h
  obtain ⟨wc, hc, h⟩ := bind_some h
  obtain ⟨wd, hd, h⟩ := bind_some h
  obtain ⟨x1, h1, h⟩ := bind_some h
  obtain ⟨x2, h2, h⟩ := bind_some h
  obtain ⟨x3, h3, h⟩ := bind_some h
  obtain ⟨x4, h4, h⟩ := bind_some h
  obtain ⟨x5, h5, h⟩ := bind_some h
  obtain ⟨x6, h6, h⟩ := bind_some h
  obtain ⟨x7, h7, h⟩ := bind_some h
  obtain ⟨x8, h8, h⟩ := bind_some h
  have hp := Option.some.inj h
  have e1 : x4 = re := congrArg Prod.fst hp
  have e2 : x8 = im := congrArg Prod.snd hp
  subst e1 e2
  have H1 := hid (c_wide a b wa wb ha hb w)
  have H2 := hid (c_wide c d wc wd hc hd w)
  clear ha hb hc hd h hp
  go_enter Try.func23, Try.ntmps23
  go_wp2_with fail
  refine H1.out.mono ?_
  rintro e w' ⟨rfl, rfl⟩
  go_wp2_with fail
  refine H2.out.mono ?_
  rintro e w' ⟨rfl, rfl⟩
  go_wp2_with fail
  go_ret
  exact ⟨rfl, rfl⟩
theorem c_ScaleComplex (a b s x y : Nat) (h1 : Q.mulS a s = some x) (h2 : Q.mulS b s = some y) (w : World) :
    Calls Try.prog 18 #[.complex .f32 a b, .float .f32 s] w fun e w' => e = .returned (.complex .f32 x y) ∧ w' = w := by
  go_enter Try.func18, Try.ntmps18
  go_wp2_with fail
  go_ret
  exact ⟨rfl, rfl⟩
def neg32 (r : Nat) : Nat := Op.negFloat .f32 r
theorem c_ConjugateOf (a b : Nat) (w : World) :
    Calls Try.prog 25 #[.complex .f32 a b] w fun e w' => e = .returned (.complex .f32 a (neg32 b)) ∧ w' = w := by
  go_enter Try.func25, Try.ntmps25
  go_wp2_with fail
  go_ret
  exact ⟨rfl, rfl⟩
theorem c_IsFiniteComplex (a b : Nat) (ha : finS a = true) (hb : finS b = true) (w : World) :
    Calls Try.prog 21 #[.complex .f32 a b] w fun e w' => e = .returned (.bool true) ∧ Below w.heap.size w w' := by
  have HF := hid (c_finite w.heap.size 0 2 2 [a, b] _ (frow_two w a b) rfl (by omega) (finL_two ha hb))
  clear ha hb
  go_enter Try.func21, Try.ntmps21
  go_wp2_with fail
  refine HF.out.mono ?_
  rintro e w' ⟨rfl, rfl⟩
  go_wp2_with fail
  go_ret
  exact ⟨rfl, (Below.refl _ _).alloc (Nat.le_refl _) _⟩
theorem c_toldNumber (x : Nat) (h : finS x = true) (w : World) :
    Calls Try.prog 26 #[.float .f32 x] w fun e w' => e = .returned (.tuple #[.float .f32 x, .bool true]) ∧ w' = w := by
  have HF := hid (c_IsFinite x h w)
  clear h
  go_enter Try.func26, Try.ntmps26
  go_wp2_with fail
  refine HF.out.mono ?_
  rintro e w' ⟨rfl, rfl⟩
  go_wp2_with fail
  refine bodyPost_ret (v := .tuple #[.float .f32 x, .bool true]) (by simp [results, Try.results26, go_sem]) rfl ⟨rfl, rfl⟩
end Go.Proofs.Ytdjhgnpllnmdmaa
