/- Turned: the area of a sheet. -/
import Derived.Test.YtdjhgnpllnmdmaaT10
set_option linter.unusedVariables false
set_option linter.unusedSectionVars false
set_option linter.unusedSimpArgs false
namespace Go.Proofs.Ytdjhgnpllnmdmaa
open Go.RowKit
attribute [local go_sem] r_addD r_subD r_mulD r_divD r_addS r_subS r_mulS r_divS r_wide r_narrow w_store r_neg
attribute [local go_sem ↓] Go.wp_at_zero Go.wp_at_succ

def crossO (a b c d : Nat) : Option Nat := (Q.mulS a b).bind fun x => (Q.mulS c d).bind fun y => Q.subS x y
theorem c_crossed (a b c d r : Nat) (h : crossO a b c d = some r) (w : World) : Calls Try.prog 32 #[.float .f32 a, .float .f32 b, .float .f32 c, .float .f32 d] w fun e w' => e = .returned (.float .f32 r) ∧ w' = w := by
  unfold crossO at h
  obtain ⟨x, hx, h1⟩ := bind_some h
  obtain ⟨y, hy, h2⟩ := bind_some h1
  clear h h1
  go_enter Try.func32, Try.ntmps32
  go_wp2_with fail
  go_ret
  exact ⟨rfl, rfl⟩
def areaStep (p q : Nat × Nat) (all : Nat) : Option Nat := (crossO p.1 q.2 p.2 q.1).bind fun x => Q.addS all x
def areaO (pl : List (Nat × Nat)) (n : Nat) : Nat → Nat → Option Nat
  | 0, all => some all
  | k + 1, all => (areaStep (pl.getD (n - (k + 1)) (0, 0)) (pl.getD ((n - (k + 1) + 1) % n) (0, 0)) all).bind fun a => areaO pl n k a
theorem areaO_step (pl : List (Nat × Nat)) (n k i all : Nat) (hk : 1 ≤ k) (hi : k + i = n) : areaO pl n k all = (areaStep (pl.getD i (0, 0)) (pl.getD ((i + 1) % n) (0, 0)) all).bind fun a => areaO pl n (k - 1) a := by
  obtain ⟨j, rfl⟩ : ∃ j, k = j + 1 := ⟨k - 1, by omega⟩
  have : n - (j + 1) = i := by omega
  show (areaStep (pl.getD (n - (j + 1)) (0, 0)) (pl.getD ((n - (j + 1) + 1) % n) (0, 0)) all).bind _ = _
  rw [this]
  rfl

set_option maxHeartbeats 4000000 in
theorem c_SheetArea (pb sb n c c' all r : Nat) (cl : Bool) (pl : List (Nat × Nat)) (sl : List Nat) (w : World) (h : Sh w pb sb n pl sl)
    (ha : areaO pl n n 0 = some all) (hd : Q.divS all 1073741824 = some r) (hf : finS r = true) :
    Calls Try.prog 10 #[.agg #[.slice (some ⟨pb, 0, none⟩) n c, .slice (some ⟨sb, 0, none⟩) n c', .bool cl]] w fun e w' => e = .returned (.tuple #[.float .f32 r, .bool true]) ∧ Below w.heap.size w w' := by
  have h2 := h.lo
  have h48 := h.hi
  have HN := hid h.np
  have HV := hid (fun (wx : World) (hb : Below w.heap.size w wx) => c_ValidSheet pb sb n c c' cl pl sl wx (h.below hb))
  have HP := hid h.pts
  have HT := hid (fun wx => c_toldNumber r hf wx)
  have HA := hid ha
  have HB0 := hid (below_new w (.cells #[.slice (some ⟨pb, 0, none⟩) n c, .slice (some ⟨sb, 0, none⟩) n c', .bool cl] 29))
  have HK := hid (Blk.new w 29 #[.slice (some ⟨pb, 0, none⟩) n c, .slice (some ⟨sb, 0, none⟩) n c', .bool cl])
  clear h ha hf
  go_enter Try.func10, Try.ntmps10
  go_wp2_with fail
  refine (HV.out _ HB0.out).mono ?_
  rintro e w1 ⟨rfl, hb⟩
  have hk := HK.out.below' hb
  have d0 : w1.cell? ⟨w.heap.size, 0, none⟩ = some (.slice (some ⟨pb, 0, none⟩) n c) := hk.cell 0
  have HB1 := hid (HB0.out.trans (hb.mono HB0.out.size))
  have HK1 := hid hk
  clear hb hk HV HB0 HK
  go_wp2_with fail
  clear d0
  go_loopw [4, 14] (fun a b wr => ∃ k i s : Nat, k + i = n ∧ b = .int .i64 i ∧ a = .float .f32 s ∧ areaO pl n k s = some all ∧ Below w.heap.size w wr ∧ Blk wr w.heap.size 29 #[.slice (some ⟨pb, 0, none⟩) n c, .slice (some ⟨sb, 0, none⟩) n c', .bool cl]) (fun _ b _ => n - (intOf b).toNat)
  case atStart => exact ⟨n, 0, 0, rfl, rfl, rfl, HA.out, HB1.out, HK1.out⟩
  case round =>
    clear HA HB1 HK1
    obtain ⟨k, i, s, hk, rfl, rfl, hl, hb, hB⟩ := hrel
    by_cases hk0 : 1 ≤ k
    · rw [areaO_step _ _ _ _ _ hk0 hk] at hl
      obtain ⟨s2, hs2, hl2⟩ := bind_some hl
      unfold areaStep at hs2
      obtain ⟨x, hx, hs3⟩ := bind_some hs2
      have d0 : wr.cell? ⟨w.heap.size, 0, none⟩ = some (.slice (some ⟨pb, 0, none⟩) n c) := hB.cell 0
      have hrow := HP.out.below hb HP.out.1
      have hcell := hrow.2 i (by have := HN.out; omega)
      rw [Nat.zero_add] at hcell
      have HX := hid (fun wx => c_next w.heap.size pb n c i pl wx)
      have HC := hid (fun wx => c_crossed _ _ _ _ x hx wx)
      have HNX := hid ((c_next w.heap.size pb n c i pl wr d0 hrow HN.out h48 (by omega)))
      have HL := hid hl2
      have HB := hid hb
      have HK := hid hB
      generalize pl.getD i (0, 0) = p at *
      generalize pl.getD ((i + 1) % n) (0, 0) = q at *
      have hin : (i : Int) < (n : Int) := by omega
      clear hx hs2 hl hl2 hrow hb hB HX
      go_wp2_with fail
      refine HNX.out.mono ?_
      rintro e w' ⟨rfl, m, rfl⟩
      go_wp2_with fail
      refine (HC.out _).mono ?_
      rintro e w' ⟨rfl, rfl⟩
      go_wp2_with fail
      go_roundw
      case rel => exact ⟨k - 1, i + 1, s2, by omega, by go_num, rfl, HL.out, below_drewN HB.out m, HK.out.drewN m⟩
      case measure => simp [intOf]; omega
    · obtain rfl : k = 0 := by omega
      obtain rfl : i = n := by omega
      have hs : s = all := Option.some.inj hl
      subst hs
      have HB := hid hb
      clear hl hk0 hk hb hB
      go_wp2_with fail
      refine (HT.out _).mono ?_
      rintro e w' ⟨rfl, rfl⟩
      go_wp2_with fail
      refine bodyPost_ret (v := .tuple #[.float .f32 r, .bool true]) (by simp [results, Try.results10, go_sem]) rfl ⟨rfl, HB.out⟩
end Go.Proofs.Ytdjhgnpllnmdmaa
