/- Turned: how often a sheet goes around a point. -/
import Derived.Test.YtdjhgnpllnmdmaaT11
import Derived.Laws.ComplexArith
set_option linter.unusedVariables false
set_option linter.unusedSectionVars false
set_option linter.unusedSimpArgs false
namespace Go.Proofs.Ytdjhgnpllnmdmaa
open Go.RowKit

theorem r_subC {P : Program} (w : World) (t : TypeId) (a b c d : Nat) (h1 : (Q.subS a c).isSome = true) (h2 : (Q.subS b d).isSome = true) :
    (binOp .sub t (.complex .f32 a b) (.complex .f32 c d)).run P w = .ok (.complex .f32 ((Q.subS a c).getD 0) ((Q.subS b d).getD 0)) w := by
  obtain ⟨r, hr⟩ := Option.isSome_iff_exists.1 h1
  obtain ⟨s, hs⟩ := Option.isSome_iff_exists.1 h2
  rw [hr, hs]
  refine run_complex_sum w .sub (.inr rfl) t .f32 a b c d r s ?_
  have e1 : floatBits .sub .f32 a c = some r := Q.subS_eq hr
  have e2 : floatBits .sub .f32 b d = some s := Q.subS_eq hs
  simp [cSumBits, e1, e2]
theorem r_addC {P : Program} (w : World) (t : TypeId) (a b c d : Nat) (h1 : (Q.addS a c).isSome = true) (h2 : (Q.addS b d).isSome = true) :
    (binOp .add t (.complex .f32 a b) (.complex .f32 c d)).run P w = .ok (.complex .f32 ((Q.addS a c).getD 0) ((Q.addS b d).getD 0)) w := by
  obtain ⟨r, hr⟩ := Option.isSome_iff_exists.1 h1
  obtain ⟨s, hs⟩ := Option.isSome_iff_exists.1 h2
  rw [hr, hs]
  refine run_complex_sum w .add (.inl rfl) t .f32 a b c d r s ?_
  have e1 : floatBits .add .f32 a c = some r := Q.addS_eq hr
  have e2 : floatBits .add .f32 b d = some s := Q.addS_eq hs
  simp [cSumBits, e1, e2]
attribute [local go_sem] r_addD r_subD r_mulD r_divD r_addS r_subS r_mulS r_divS r_wide r_narrow w_store r_neg r_subC r_addC
attribute [local go_sem ↓] Go.wp_at_zero Go.wp_at_succ

/-- what is summed up behind the point p, whose next one is q, seen from (x, y) -/
def aroundStep (x y : Nat) (p q : Nat × Nat) (all : Nat) : Option Nat :=
  (Q.subS q.1 x).bind fun qx => (Q.subS q.2 y).bind fun qy => (Q.subS p.1 x).bind fun px => (Q.subS p.2 y).bind fun py =>
  (mulO qx qy px (neg32 py)).bind fun m => (angleO m.2 m.1).bind fun a => Q.addS all a
def aroundO (x y : Nat) (pl : List (Nat × Nat)) (n : Nat) : Nat → Nat → Option Nat
  | 0, all => some all
  | k + 1, all => (aroundStep x y (pl.getD (n - (k + 1)) (0, 0)) (pl.getD ((n - (k + 1) + 1) % n) (0, 0)) all).bind fun a => aroundO x y pl n k a
theorem aroundO_step (x y : Nat) (pl : List (Nat × Nat)) (n k i all : Nat) (hk : 1 ≤ k) (hi : k + i = n) : aroundO x y pl n k all = (aroundStep x y (pl.getD i (0, 0)) (pl.getD ((i + 1) % n) (0, 0)) all).bind fun a => aroundO x y pl n (k - 1) a := by
  obtain ⟨j, rfl⟩ : ∃ j, k = j + 1 := ⟨k - 1, by omega⟩
  have : n - (j + 1) = i := by omega
  show (aroundStep x y (pl.getD (n - (j + 1)) (0, 0)) (pl.getD ((n - (j + 1) + 1) % n) (0, 0)) all).bind _ = _
  rw [this]
  rfl

set_option maxHeartbeats 4000000 in
theorem c_AroundPoint (pb sb n c c' x y all : Nat) (pl : List (Nat × Nat)) (sl : List Nat) (w : World) (h : Sh w pb sb n pl sl) (hx : finS x = true) (hy : finS y = true)
    (ha : aroundO x y pl n n 0 = some all) (hf : finS all = true) :
    Calls Try.prog 7 #[.agg #[.slice (some ⟨pb, 0, none⟩) n c, .slice (some ⟨sb, 0, none⟩) n c', .bool true], .complex .f32 x y] w fun e w' => e = .returned (.tuple #[.float .f32 all, .bool true]) ∧ Below w.heap.size w w' := by
  have h2 := h.lo
  have h48 := h.hi
  have HN := hid h.np
  have HV := hid (fun (wx : World) (hb : Below w.heap.size w wx) => c_ValidSheet pb sb n c c' true pl sl wx (h.below hb))
  have HF := hid (fun wx => c_IsFiniteComplex x y hx hy wx)
  have HP := hid h.pts
  have HT := hid (fun wx => c_toldNumber all hf wx)
  have HA := hid ha
  have HB0 := hid (below_new w (.cells #[.slice (some ⟨pb, 0, none⟩) n c, .slice (some ⟨sb, 0, none⟩) n c', .bool true] 29))
  have HK := hid (Blk.new w 29 #[.slice (some ⟨pb, 0, none⟩) n c, .slice (some ⟨sb, 0, none⟩) n c', .bool true])
  clear h ha hf hx hy
  go_enter Try.func7, Try.ntmps7
  go_wp2_with fail
  refine (HV.out _ HB0.out).mono ?_
  rintro e w1 ⟨rfl, hb⟩
  have hk := HK.out.below' hb
  have d2 : w1.cell? ⟨w.heap.size, 2, none⟩ = some (.bool true) := hk.cell 2
  have HB1 := hid (HB0.out.trans (hb.mono HB0.out.size))
  have HK1 := hid hk
  clear hb hk HV HB0 HK
  go_wp2_with fail
  refine (HF.out _).mono ?_
  rintro e w2 ⟨rfl, hb⟩
  have hk := HK1.out.below' hb
  have d0 : w2.cell? ⟨w.heap.size, 0, none⟩ = some (.slice (some ⟨pb, 0, none⟩) n c) := hk.cell 0
  have HB2 := hid (HB1.out.trans (hb.mono HB1.out.size))
  have HK2 := hid hk
  clear hb hk d2 HF HB1 HK1
  go_wp2_with fail
  clear d0
  go_loopw [6, 25] (fun a b wr => ∃ k i s : Nat, k + i = n ∧ b = .int .i64 i ∧ a = .float .f32 s ∧ aroundO x y pl n k s = some all ∧ Below w.heap.size w wr ∧ Blk wr w.heap.size 29 #[.slice (some ⟨pb, 0, none⟩) n c, .slice (some ⟨sb, 0, none⟩) n c', .bool true]) (fun _ b _ => n - (intOf b).toNat)
  case atStart => exact ⟨n, 0, 0, rfl, rfl, rfl, HA.out, HB2.out, HK2.out⟩
  case round =>
    clear HA HB2 HK2
    obtain ⟨k, i, s, hk, rfl, rfl, hl, hb, hB⟩ := hrel
    by_cases hk0 : 1 ≤ k
    · rw [aroundO_step _ _ _ _ _ _ _ hk0 hk] at hl
      obtain ⟨s2, hs2, hl2⟩ := bind_some hl
      unfold aroundStep at hs2
      have d0 : wr.cell? ⟨w.heap.size, 0, none⟩ = some (.slice (some ⟨pb, 0, none⟩) n c) := hB.cell 0
      have hrow := HP.out.below hb HP.out.1
      have hcell := hrow.2 i (by have := HN.out; omega)
      rw [Nat.zero_add] at hcell
      have HNX := hid ((c_next w.heap.size pb n c i pl wr d0 hrow HN.out h48 (by omega)))
      have HL := hid hl2
      have HB := hid hb
      have HK := hid hB
      generalize pl.getD i (0, 0) = p at *
      generalize pl.getD ((i + 1) % n) (0, 0) = q at *
      obtain ⟨qx, h1, f1⟩ := bind_some hs2
      obtain ⟨qy, h2', f2⟩ := bind_some f1
      obtain ⟨px, h3, f3⟩ := bind_some f2
      obtain ⟨py, h4, f4⟩ := bind_some f3
      obtain ⟨⟨m1, m2⟩, h5, f5⟩ := bind_some f4
      obtain ⟨ang, h6, h7⟩ := bind_some f5
      have HC := hid (fun wx => c_ConjugateOf px py wx)
      have HM := hid (fun wx => c_MulComplex qx qy px (neg32 py) m1 m2 h5 wx)
      have HG := hid (fun wx => c_AngleOf m1 m2 ang h6 wx)
      have hin : (i : Int) < (n : Int) := by omega
      clear hs2 hl hl2 hrow hb hB f1 f2 f3 f4 f5 h5 h6
      go_wp2_with fail
      refine HNX.out.mono ?_
      rintro e w' ⟨rfl, m, rfl⟩
      go_wp2_with fail
      refine (HC.out _).mono ?_
      rintro e w' ⟨rfl, rfl⟩
      go_wp2_with fail
      refine (HM.out _).mono ?_
      rintro e w' ⟨rfl, rfl⟩
      go_wp2_with fail
      refine (HG.out _).mono ?_
      rintro e w3 ⟨rfl, hb3⟩
      have hb4 : Below wr.heap.size wr w3 := ⟨hb3.os, hb3.tape, hb3.output, hb3.size, hb3.block⟩
      have HB3 := hid hb4
      clear hb3 hb4
      go_wp2_with fail
      go_roundw
      case rel => exact ⟨k - 1, i + 1, s2, by omega, by go_num, rfl, HL.out, HB.out.trans (HB3.out.mono HB.out.size), HK.out.below' HB3.out⟩
      case measure => simp [intOf]; omega
    · obtain rfl : k = 0 := by omega
      obtain rfl : i = n := by omega
      have hs : s = all := Option.some.inj hl
      subst hs
      have HB := hid hb
      clear hl hk0 hk hb hB
      go_wp2_with fail
      refine (HT.out _).mono ?_
      rintro e w' ⟨rfl, rfl⟩
      go_wp2_with fail
      refine bodyPost_ret (v := .tuple #[.float .f32 s, .bool true]) (by simp [results, Try.results7, go_sem]) rfl ⟨rfl, HB.out⟩
end Go.Proofs.Ytdjhgnpllnmdmaa
