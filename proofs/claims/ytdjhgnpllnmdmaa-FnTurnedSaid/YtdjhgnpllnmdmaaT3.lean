/- Turned: phasors, products, small complex functions. -/
import Derived.Test.YtdjhgnpllnmdmaaT2
set_option linter.unusedVariables false
set_option linter.unusedSectionVars false
set_option linter.unusedSimpArgs false
namespace Go.Proofs.Ytdjhgnpllnmdmaa
open Go.RowKit
attribute [local go_sem] r_addD r_subD r_mulD r_divD r_addS r_subS r_mulS r_divS r_wide r_narrow w_store r_neg
attribute [local go_sem ↓] Go.wp_at_zero Go.wp_at_succ

/-- a single that is finite -/
def finS (x : Nat) : Bool := not (Nat.ble 2139095040 (Nat.mod x 2147483648))
theorem finS_num {x : Nat} (h : finS x = true) : Fl.Num Ieee.single x := by
  obtain ⟨k1, k2, k3, k4, k5⟩ := Q.cS
  have hb : Nat.ble 2139095040 (Nat.mod x 2147483648) = false := by simpa [finS] using h
  exact ⟨_, _, _, Q.read_fin Ieee.single x (by rw [k4, k3]; exact Q.not_ble hb)⟩
theorem self_sub {f : Ieee.Format} {x : Nat} (h : Fl.Num f x) : f.sub x x = some 0 := by
  obtain ⟨s, m, e, h⟩ := h
  unfold Ieee.Format.sub
  rw [h]
  have hs : (Ieee.Datum.number s m e).sum (Ieee.Datum.number s m e).opposite = some (.number false 0 e) := by
    show (Ieee.Datum.number s m e).sum (.number (!s) m e) = _
    unfold Ieee.Datum.sum
    simp only [Int.min_self, Int.sub_self, Int.toNat_zero]
    have : Ieee.signed s m 0 + Ieee.signed (!s) m 0 = 0 := by unfold Ieee.signed; cases s <;> simp <;> omega
    rw [this]
    cases s <;> rfl
  rw [hs]
  rfl
theorem r_selfS {P : Program} (w : World) (t : TypeId) (x : Nat) (h : finS x = true) : (binOp .sub t (.float .f32 x) (.float .f32 x)).run P w = .ok (.float .f32 0) w :=
  run_float_arith w .sub t .f32 x x 0 (self_sub (f := Ieee.single) (finS_num h))
theorem ordS_00 : FloatKind.f32.format.order 0 0 = some .eq := by decide +kernel

theorem c_IsFinite (x : Nat) (h : finS x = true) (w : World) : Calls Try.prog 47 #[.float .f32 x] w fun e w' => e = .returned (.bool true) ∧ w' = w := by
  have h1 : ∀ w : World, (binOp .sub 25 (.float .f32 x) (.float .f32 x)).run Try.prog w = .ok (.float .f32 0) w := fun w => r_selfS w 25 x h
  have h2 := ordS_00
  go_enter Try.func47, Try.ntmps47
  go_wp2_with fail
  go_ret
  exact ⟨rfl, rfl⟩

def sineTurnsO (x : Nat) : Option Nat :=
  cond (finS x) ((Q.wide x).bind fun y => (Q.ordD y 4841369599423283200).bind fun o => cond (isLt o) ((sineO y).bind fun s => Q.narrow s) none) none
theorem sineO_lt {t r : Nat} (h : sineO t = some r) : t < 4607182418800017408 := by
  unfold sineO at h
  cases hb : Nat.ble 4607182418800017408 t
  · exact Q.not_ble hb
  · rw [hb] at h; cases h
theorem c_SineTurns (x r : Nat) (h : sineTurnsO x = some r) (w : World) : Calls Try.prog 34 #[.float .f32 x] w fun e w' => e = .returned (.float .f32 r) ∧ w' = w := by
  unfold sineTurnsO at h
  cases hf : finS x
  · rw [hf] at h; cases h
  · rw [hf, cond_true] at h
    obtain ⟨y, hy, h⟩ := bind_some h
    obtain ⟨o, ho, h⟩ := bind_some h
    cases hl : isLt o
    · rw [hl] at h; cases h
    · rw [hl, cond_true] at h
      obtain ⟨s, hs, h⟩ := bind_some h
      have hlt := sineO_lt hs
      have ho' : FloatKind.f64.format.order y 4841369599423283200 = some .lt := by
        have := Q.ordD_eq ho
        cases o
        · exact this
        · cases hl
        · cases hl
      have HF := hid (c_IsFinite x hf w)
      have HA := c_Abs y (by omega) w
      rw [Nat.mod_eq_of_lt (show y < 9223372036854775808 by omega)] at HA
      have HA := hid HA
      have HS := hid (c_sine y s hs w)
      clear hf ho hl hs
      go_enter Try.func34, Try.ntmps34
      go_wp2_with fail
      refine HF.out.mono ?_
      rintro e w' ⟨rfl, rfl⟩
      go_wp2_with fail
      refine HA.out.mono ?_
      rintro e w' ⟨rfl, rfl⟩
      go_wp2_with fail
      refine HS.out.mono ?_
      rintro e w' ⟨rfl, rfl⟩
      go_wp2_with fail
      go_ret
      exact ⟨rfl, rfl⟩

/-! ## phasors -/
def quarters : Nat → Nat → Nat → Option (Nat × Nat)
  | 0, _, _ => none
  | n + 1, f, q => (Q.ordD f 4598175219545276416).bind fun o => cond (isLt o) (some (f, q)) ((Q.subD f 4598175219545276416).bind fun g => quarters n g (Nat.succ q))
def turnsO (q c s : Nat) : Option (Nat × Nat) :=
  match q with
  | 1 => (Q.subD 0 s).bind fun a => some (a, c)
  | 2 => (Q.subD 0 c).bind fun a => (Q.subD 0 s).bind fun b => some (a, b)
  | 3 => (Q.subD 0 c).bind fun b => some (s, b)
  | _ => some (c, s)
def phasorB (f q : Nat) : Option (Nat × Nat) :=
  (Q.subD 4598175219545276416 f).bind fun g => (sineO g).bind fun c => (sineO f).bind fun s => (turnsO q c s).bind fun p => (Q.narrow p.1).bind fun a => (Q.narrow p.2).bind fun b => some (a, b)
def phasorO (t : Nat) : Option (Nat × Nat) :=
  cond (Nat.ble 4607182418800017408 t) none ((Q.ordD t 4841369599423283200).bind fun o => cond (isLt o) ((quarters 5 t 0).bind fun fq => cond (Nat.ble fq.2 3) (phasorB fq.1 fq.2) none) none)

set_option maxHeartbeats 4000000 in
theorem c_PhasorOf (t a b : Nat) (h : phasorO t = some (a, b)) (w : World) : Calls Try.prog 19 #[.float .f64 t] w fun e w' => e = .returned (.complex .f32 a b) ∧ w' = w := by
  unfold phasorO at h
  cases hb : Nat.ble 4607182418800017408 t
  · rw [hb, cond_false] at h
    have ht := Q.not_ble hb
    obtain ⟨o, ho, h⟩ := bind_some h
    cases hl : isLt o
    · rw [hl] at h; cases h
    · rw [hl, cond_true] at h
      have ho' : FloatKind.f64.format.order t 4841369599423283200 = some .lt := by
        have := Q.ordD_eq ho
        cases o
        · exact this
        · cases hl
        · cases hl
      obtain ⟨⟨f, q⟩, hq, h⟩ := bind_some h
      cases hq3 : Nat.ble q 3
      · simp only [hq3] at h; cases h
      simp only [hq3, cond_true] at h
      have hq4 := Q.ble_true hq3
      unfold phasorB at h
      obtain ⟨g, hg, h⟩ := bind_some h
      obtain ⟨c, hc, h⟩ := bind_some h
      obtain ⟨s, hs, h⟩ := bind_some h
      obtain ⟨⟨p1, p2⟩, hp, h⟩ := bind_some h
      obtain ⟨a', ha, h⟩ := bind_some h
      obtain ⟨b', hb', h⟩ := bind_some h
      have hab := Option.some.inj h
      have ha2 : a' = a := congrArg Prod.fst hab
      have hb2 : b' = b := congrArg Prod.snd hab
      subst ha2 hb2
      have hself : ∀ w : World, (binOp .sub 40 (.float .f64 t) (.float .f64 t)).run Try.prog w = .ok (.float .f64 0) w := fun w =>
        run_float_arith w .sub 40 .f64 t t 0 (self_sub (f := Ieee.double) (by
          obtain ⟨k1, k2, k3, k4, k5⟩ := Q.cD
          exact ⟨_, _, _, Q.read_fin Ieee.double t (by rw [k4, k3, Nat.mod_eq_of_lt (by omega)]; omega)⟩))
      have h00 := ordD_self0
      have HA := c_Abs t (by omega) w
      rw [Nat.mod_eq_of_lt (show t < 9223372036854775808 by omega)] at HA
      have HA := hid HA
      have HP := hid (c_partOf t ht w)
      have HC := hid (c_sine g c hc w)
      have HS := hid (c_sine f s hs w)
      have HQ := hid hq
      have HT := hid hp
      clear hc hs hq hb ho hl h hp hq3
      go_enter Try.func19, Try.ntmps19
      go_wp2_with fail
      refine HA.out.mono ?_
      rintro e w' ⟨rfl, rfl⟩
      clear hself
      go_wp2_with fail
      refine HP.out.mono ?_
      rintro e w' ⟨rfl, rfl⟩
      go_wp2_with fail
      go_loop [3, 4] (fun x y => ∃ k f0 q0 : Nat, k + q0 = 5 ∧ y = .int .i64 q0 ∧ x = .float .f64 f0 ∧ quarters k f0 q0 = some (f, q)) (fun _ y => 5 - (intOf y).toNat)
      case atStart => exact ⟨5, t, 0, rfl, rfl, rfl, HQ.out⟩
      case round =>
        obtain ⟨k, f0, q0, hk, rfl, rfl, hl⟩ := hrel
        match k, hk, hl with
        | 0, hk, hl => cases hl
        | n + 1, hk, hl =>
          unfold quarters at hl
          obtain ⟨o1, ho1, hl⟩ := bind_some hl
          have k1 : FloatKind.f64.format.order f0 4598175219545276416 = some o1 := Q.ordD_eq ho1
          have HL := hid hl
          clear hl ho1
          cases o1
          · have hfq := Option.some.inj HL.out
            have e1 : f0 = f := congrArg Prod.fst hfq
            have e2 : q0 = q := congrArg Prod.snd hfq
            subst e1 e2
            clear hfq
            go_wp2_with fail
            refine HC.out.mono ?_
            rintro e w' ⟨rfl, rfl⟩
            go_wp2_with fail
            refine HS.out.mono ?_
            rintro e w' ⟨rfl, rfl⟩
            have hq5 : q0 = 0 ∨ q0 = 1 ∨ q0 = 2 ∨ q0 = 3 := by omega
            have hp := HT.out
            clear HL HC HS
            rcases hq5 with rfl | rfl | rfl | rfl
            · have hpp := Option.some.inj hp
              have e1 : c = p1 := congrArg Prod.fst hpp
              have e2 : s = p2 := congrArg Prod.snd hpp
              subst e1 e2
              clear hpp hp
              go_wp2_with fail
              go_ret
              exact ⟨rfl, rfl⟩
            · obtain ⟨x, hx, hp⟩ := bind_some hp
              have hpp := Option.some.inj hp
              have e1 : x = p1 := congrArg Prod.fst hpp
              have e2 : c = p2 := congrArg Prod.snd hpp
              subst e1 e2
              clear hpp hp
              go_wp2_with fail
              go_ret
              exact ⟨rfl, rfl⟩
            · obtain ⟨x, hx, hp⟩ := bind_some hp
              obtain ⟨y, hy, hp⟩ := bind_some hp
              have hpp := Option.some.inj hp
              have e1 : x = p1 := congrArg Prod.fst hpp
              have e2 : y = p2 := congrArg Prod.snd hpp
              subst e1 e2
              clear hpp hp
              go_wp2_with fail
              go_ret
              exact ⟨rfl, rfl⟩
            · obtain ⟨x, hx, hp⟩ := bind_some hp
              have hpp := Option.some.inj hp
              have e1 : s = p1 := congrArg Prod.fst hpp
              have e2 : x = p2 := congrArg Prod.snd hpp
              subst e1 e2
              clear hpp hp
              go_wp2_with fail
              go_ret
              exact ⟨rfl, rfl⟩
          all_goals
            obtain ⟨g1, hg1, hl⟩ := bind_some HL.out
            have HL2 := hid hl
            clear hl HL
            go_wp2_with fail
            go_round
            case rel => exact ⟨n, g1, q0 + 1, by omega, by go_num, rfl, HL2.out⟩
            case measure => simp [intOf]; omega
  · rw [hb] at h; cases h
end Go.Proofs.Ytdjhgnpllnmdmaa
