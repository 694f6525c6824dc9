/- A basin that is drawn. -/
import Derived.Test.YtihknapgdkladaaS2
import Derived.Test.YtihknapgdkladaaF5
set_option linter.unusedVariables false
set_option linter.unusedSectionVars false
set_option linter.unusedSimpArgs false
namespace Go.Proofs.Ytihknapgdkladaa
open Go.RowKit Fl
attribute [local go_sem] w_store
attribute [local go_sem ↓] Go.wp_at_zero Go.wp_at_succ

theorem own_kept {w w' : World} {base g : Nat} {e t : TypeId} {size n : Nat} {v : Value} {xs : List Value} {cs : Array Value} (h : w.ownsRow base e size v n xs) (hg : w.grownBy w' (some g)) (hB : Blk w g t cs) (hne : e ≠ t) : w'.ownsRow base e size v n xs :=
  h.kept hg (.inr (own_blk_ne h hB hne))
theorem own_kept_src {w w' : World} {base g : Nat} {n : Nat} {v : Value} {xs : List Value} {A : Option Addr} {len cap at_ : Nat} (h : w.ownsRow base 32 1 v n xs) (hg : w.grownBy w' (some g)) (hB : Src w g A len cap at_) : w'.ownsRow base 32 1 v n xs := by
  obtain ⟨s, hB⟩ := hB
  exact own_kept h hg hB (by decide)
theorem own_base {w : World} {base base' : Nat} {e : TypeId} {size n : Nat} {v : Value} {xs : List Value} (h : w.ownsRow base e size v n xs) (hb : base' ≤ base) : w.ownsRow base' e size v n xs :=
  ⟨h.1, h.2.imp id (fun ⟨g, cap, cur, a, b, r⟩ => ⟨g, cap, cur, a, Nat.le_trans hb b, r⟩)⟩
theorem only_grown {a w w' : World} {row row' : Option Nat} (h : a.grownBy w row) (k : w.grownBy w' row') (hr : ∀ k, row' = some k → a.heap.size ≤ k) : a.grownBy w' row :=
  ⟨k.os.trans h.os, k.tape.trans h.tape, k.output.trans h.output, Nat.le_trans h.size k.size, fun i hi hn => (k.block i (Nat.lt_of_lt_of_le hi h.size) (fun e => by have := hr i e.symm; omega)).trans (h.block i hi hn)⟩
theorem Src.grown {w w' : World} {g : Nat} {A : Option Addr} {len cap at_ : Nat} {row : Option Nat} (h : Src w g A len cap at_) (hg : w.grownBy w' row) (hne : row ≠ some g) : Src w' g A len cap at_ := by
  obtain ⟨s, h⟩ := h
  exact ⟨s, h.grown hg (fun e => hne e.symm)⟩
theorem vl_snoc (l : List Nat) (b : Nat) : vl (l ++ [b]) = vl l ++ [.float .f32 b] := by simp [vl]
theorem Src.ne_blk {w : World} {g g' : Nat} {A : Option Addr} {len cap at_ : Nat} {t : TypeId} {cs : Array Value} (h : Src w g A len cap at_) (hB : Blk w g' t cs) (hne : 80 ≠ t) : g ≠ g' := by
  obtain ⟨s, h⟩ := h
  exact h.ne_ hB hne
theorem Src.own_ne {w : World} {base g n : Nat} {v : Value} {xs : List Value} {A : Option Addr} {len cap at_ : Nat} (h : Src w g A len cap at_) (ho : w.ownsRow base 32 1 v n xs) : v.ownBlock ≠ some g := by
  obtain ⟨s, h⟩ := h
  exact own_blk_ne ho h (by decide)

theorem wrap8 (k : Nat) (hk : k < 17) : IntKind.i64.wrap ((k : Int) - 8) = (k : Int) - 8 := by
  simp only [IntKind.wrap_i64]
  omega

/-- WHAT A DRAW OF A BASIN TELLS. -/
def DrawnB (j : Int) (w : World) (g W H : Nat) (e : Ending) (w' : World) : Prop :=
  ∃ l gg cap, l.length = W * H ∧ (∀ v, v ∈ l → Gr Ieee.single j 8 v) ∧ e = .returned (.agg #[.int .i64 W, .int .i64 H, .slice (some ⟨gg, 0, none⟩) (W * H) cap]) ∧ FRow w' gg 0 l ∧ w.heap.size ≤ gg ∧ w.grownBy w' (some g)

set_option maxRecDepth 100000 in
set_option maxHeartbeats 4000000 in
theorem c_drawOk (g len cap : Nat) (A : Option Addr) (w : World) (hs : Src w g A len cap 0) (hb : BRow w g A len) (hl : len ≤ 1000) :
    Calls Try.prog 29 #[.pointer (some ⟨g, 0, none⟩)] w fun e w' => ∃ W H, Siz W H ∧ W ≤ 6 ∧ H ≤ 6 ∧ DrawnB (-2) w g W H e w' := by
  obtain ⟨i0, hi0, hz0, hz1, hz2⟩ := info_parts info_f32
  have hglt := hs.lt
  go_enter Try.func29, Try.ntmps29
  have HS := hid (hs.blk (World.grownBy.refl w none))
  have HB := hid hb
  have HB0 := hid hb
  clear hs hb
  go_wp2_with fail
  refine (c_pick 4 g len cap 0 A _ (HS.out.blk (only_alloc (only_refl w _) _)) (HB.out.kept' ((Below.refl _ _).alloc (Nat.le_refl _) _)) (by omega) (by omega) (by omega) (by omega)).mono ?_
  rintro e w1 ⟨k1, hk1, rfl, hs1, hg1⟩
  have hr0 : Blk w1 w.heap.size 26 #[.int .i64 0, .int .i64 0, .slice none 0 0] := (Blk.new w _ _).grown hg1 (by simp; omega)
  have HB1 := hid ((HB.out.kept' ((Below.refl _ _).alloc (Nat.le_refl w.heap.size) _)).kept hg1)
  have HG1 : Hid (w.grownBy w1 (some g)) := only_trans (only_alloc (only_refl w _) _) hg1
  have HS1 := hid hs1
  have HR1 := hid hr0
  clear hs1 hg1 hr0 HB HS
  go_wp2_with fail
  refine (c_pick 4 g len cap 1 A _ HS1.out HB1.out (by omega) (by omega) (by omega) (by omega)).mono ?_
  rintro e w2 ⟨k2, hk2, rfl, hs2, hg2⟩
  have HB2 := hid (HB1.out.kept hg2)
  have HG2 := hid (only_trans HG1.out hg2)
  have HS2 := hid hs2
  have HR2 := hid (HR1.out.grown hg2 (by simp; omega))
  clear hs2 hg2 HB1 HG1 HS1 HR1
  go_wp2_with fail
  obtain ⟨W, hW⟩ : ∃ W : Nat, W = 3 + k1 := ⟨_, rfl⟩
  obtain ⟨H, hH⟩ : ∃ H : Nat, H = 3 + k2 := ⟨_, rfl⟩
  have hW2 : (3 : Int) + (k1 : Int) = (W : Int) := by omega
  have hH2 : (3 : Int) + (k2 : Int) = (H : Int) := by omega
  rw [hW2, hH2]
  have hWH : W * H ≤ 36 := by
    have := Nat.mul_le_mul (show W ≤ 6 by omega) (show H ≤ 6 by omega)
    omega
  have hsz : Siz W H := ⟨by omega, by omega, by omega, by omega⟩
  have hW6 : W ≤ 6 := by omega
  have hH6 : H ≤ 6 := by omega
  clear hW hH hW2 hH2 hk1 hk2
  refine (c_new W H w2).mono ?_
  rintro e w3 ⟨q, rfl, ho3, hb3⟩
  have hg3 := only_of_below hb3 (some g)
  have HB3 := hid (HB2.out.kept hg3)
  have HG3 := hid (only_trans HG2.out hg3)
  have HS3 := hid (HS2.out.blk (only_of_below hb3 none))
  have HR3 := hid (HR2.out.below' hb3)
  have HO3 := hid (own_base ho3 HG2.out.size)
  clear hg3 hb3 ho3 HB2 HG2 HS2 HR2
  go_wp2_with fail
  have HW3 : Hid (w.heap.size ≤ w3.heap.size) := hid HG3.out.size
  have HAB : Hid (w.heap.size ≠ w3.heap.size) := hid (by have := HR3.out.lt; omega)
  go_loopw [5] (fun t wr => ∃ (i : Nat) (v : Value) (l : List Nat), i ≤ W * H ∧ l.length = i ∧ (∀ u, u ∈ l → Gr Ieee.single (-2) 8 u) ∧ t = .int .i64 i ∧ Src wr g A len cap (1 + 1 + i) ∧ Blk wr w.heap.size 26 #[.int .i64 0, .int .i64 0, .slice none 0 0] ∧ Blk wr w3.heap.size 26 (bcs W H v) ∧ wr.ownsRow w.heap.size 32 1 v i (vl l) ∧ w.grownBy wr (some g))
    (fun t _ => W * H - (intOf t).toNat)
  case atStart =>
    refine ⟨0, .slice (some ⟨q, 0, none⟩) 0 0, [], Nat.zero_le _, rfl, ?_, rfl, ?_, ?_, ?_, ?_, ?_⟩
    · intro u hu; cases hu
    · exact HS3.out.blk (only_alloc (only_refl _ _) _)
    · exact HR3.out.alloc _
    · exact Blk.new w3 _ _
    · exact HO3.out.alloc _
    · exact only_alloc HG3.out _
  case round =>
    clear HS3 HB3 HR3 HO3 HG3
    obtain ⟨i, v, l, hi, hll, hgr, rfl, hs, hr, hbk, hown, hbel⟩ := hrel
    have hb := HB0.out.kept hbel
    have d0 : wr.cell? ⟨w3.heap.size, 0, none⟩ = some (.int .i64 W) := hbk.cell 0
    have d1 : wr.cell? ⟨w3.heap.size, 1, none⟩ = some (.int .i64 H) := hbk.cell 1
    have d2 : wr.cell? ⟨w3.heap.size, 2, none⟩ = some v := hbk.cell 2
    have f2 := hbk.frozen 2
    have hmul : (W : Int) * (H : Int) = ((W * H : Nat) : Int) := (Int.natCast_mul W H).symm
    have hm0 : 0 ≤ (W : Int) * (H : Int) := by omega
    have hm2 : (W : Int) * (H : Int) ≤ 256 := by omega
    by_cases hlt : i < W * H
    · have hlt2 : (i : Int) < (W : Int) * (H : Int) := by omega
      have HM9 := hid hmul
      clear hmul
      have HVB := hid (own_blk_ne hown hbk (by decide))
      have HVA := hid (own_blk_ne hown hr (by decide))
      have HVG := hid (hs.own_ne hown)
      have HGB := hid (hs.ne_blk hbk (by decide))
      have HGA := hid (hs.ne_blk hr (by decide))
      have HC : Hid (∀ wx, Src wx g A len cap (1 + 1 + i) → BRow wx g A len → Calls Try.prog 61 #[.pointer (some ⟨g, 0, none⟩), .int .i64 17] wx (Picked 17 g A len cap (1 + 1 + i) wx)) :=
        fun wx h1 h2 => c_pick 17 g len cap _ A wx h1 h2 (by omega) (by omega) (by omega) (by omega)
      have HB := hid hb
      have HK := hid hbk
      have HA := hid hr
      have HW := hid hown
      have HL := hid hbel
      have HSz := hbk.lt
      have HS := hid hs
      clear hb hbk hr hown hbel hs
      have HMX : Hid (i + 1 ≤ maxLen) := hid (Nat.le_trans (show i + 1 ≤ 256 by omega) (by decide))
      have HY : Hid ((i + 1) * 4 ≤ 140737488355328) := hid (by omega)
      go_wp2_with fail
      go_region_law (first
          | (refine step_append_lies _ (by rfl) _ _ _ (by rfl) w.heap.size 32 i0 _ 1 4 Try.underlying24 hi0 hz0 hz1 hz2 rfl Nat.one_pos v i (vl l) (by rfl) (HO1.out.alloc _) ⟨w1.heap.size, 0, none⟩ 1 1 [.float .f32 (quart k)] (by rfl) (by rfl) (World.news_of_block (cs := #[.float .f32 (quart k)]) (t := 32) (fr := (0, 0)) (heap_alloc_new w1 _)) (fun u hu => by rw [List.mem_singleton.1 hu]; rfl) Nat.one_pos HMX.out HY.out hw1 (w1.heap.size + 1) (World.size_alloc _ _) ?_
             intro gg cp w2 hown1 hgrow hat hlt3
             have hB2 : Blk w2 w3.heap.size 26 (bcs W H v) := (HK1.out.alloc _).grown hgrow (fun e => HVB.out e.symm)
             have d4 : w2.cell? ⟨w3.heap.size, 2, none⟩ = some v := hB2.cell 2
             have f4 := hB2.frozen 2
             have HB2 := hid hB2
             have HO2 := hid hown1
             have HG2 := hid hgrow
             have HA2 := hid hat
             clear hB2 hown1 hgrow hat)
          | (go_simp
             refine (HC.out wr.drew (HS.out.blk (only_drewN (only_refl wr _) 1)) (HB.out.kept (only_drewN (only_refl wr _) 1))).mono ?_
             rintro e w1 ⟨k, hk, rfl, hs1, hg1'⟩
             have hg1 : wr.grownBy w1 (some g) := ⟨hg1'.os, hg1'.tape, hg1'.output, hg1'.size, hg1'.block⟩
             have hK1 := HK.out.grown hg1 (fun e => HGB.out (by injection e with e; exact e.symm))
             have d3 : w1.cell? ⟨w3.heap.size, 2, none⟩ = some v := hK1.cell 2
             have hw1 : w.heap.size ≤ (w1.alloc (.cells #[.float .f32 (quart k)] 32)).heap.size := by have := hg1.size; have := HL.out.size; simp; omega
             have hq : ∀ wx : World, (binOp .quo 32 (.float .f32 (floatOfInt .f32 (IntKind.i64.wrap ((k : Int) - 8)))) (.float .f32 1082130432)).run Try.prog wx = .ok (.float .f32 (quart k)) wx := fun wx => by
               rw [wrap8 k hk]
               exact w_div wx _ _ _ _ (quart_gr k hk).1
             have hsz1 : w3.heap.size < w1.heap.size := hK1.lt
             have HK1 := hid hK1
             have HS1 := hid hs1
             have HG1 := hid hg1
             have HO1 := hid (HW.out.kept hg1 (.inr HVG.out))
             clear hs1 hg1 hg1' hK1))
      all_goals
        clear d0 d1 d2 f2 d3 d4 f4 hq
        go_wp2
        go_roundw
        case rel =>
          have hgn : gg ≠ w3.heap.size := by
            rcases HA2.out with h | h
            · intro h'; exact HVB.out (by rw [h, h'])
            · have := HK1.out.lt; omega
          have hgg : gg ≠ g := by
            rcases HA2.out with h | h
            · intro h'; exact HVG.out (by rw [h, h'])
            · have := HS1.out.lt; omega
          refine ⟨i + 1, .slice (some ⟨gg, 0, none⟩) (i + 1) cp, l ++ [quart k], by omega, by simp [hll], ?_, by go_num, ?_, ?_, ?_, ?_, ?_⟩
          · intro u hu
            rcases List.mem_append.1 hu with h | h
            · exact hgr u h
            · rw [List.mem_singleton.1 h]; exact (quart_gr k hk).2
          · exact ((HS1.out.blk (only_alloc (only_refl _ _) _)).grown HG2.out HVG.out).far HGB.out _
          · exact (((HA.out.grown HG1.out (fun e => HGA.out (by injection e with e; exact e.symm))).alloc _).grown HG2.out (fun e => HVA.out e.symm)).far HAB.out _
          · exact HB2.out.set_ 2 _
          · rw [vl_snoc]
            exact own_setCell HO2.out (by intro h; apply hgn; simpa [Value.ownBlock] using h) _
          · refine only_setCell (only_grown (only_alloc (only_trans HL.out HG1.out) _) HG2.out (fun k hk' => (HW.out.lt k hk').1)) (.inr ?_) _
            exact HW3.out
        case measure => simp [intOf]; omega
    · have hlt2 : ¬ (i : Int) < (W : Int) * (H : Int) := by omega
      have HM9 := hid hmul
      clear hmul
      have e0 : wr.cell? ⟨w.heap.size, 0, none⟩ = some (.int .i64 0) := hr.cell 0
      have e1 : wr.cell? ⟨w.heap.size, 1, none⟩ = some (.int .i64 0) := hr.cell 1
      have e2 : wr.cell? ⟨w.heap.size, 2, none⟩ = some (.slice none 0 0) := hr.cell 2
      have g0 := hr.frozen 0
      have g1 := hr.frozen 1
      have g2 := hr.frozen 2
      obtain rfl : i = W * H := by omega
      have hpos : 0 < W * H := Nat.mul_pos (by have := hsz.a; omega) (by have := hsz.c; omega)
      obtain ⟨gg, cp, rfl, hgb, hglt⟩ := hown.form hpos
      have hne : gg ≠ w.heap.size := fun h => own_blk_ne hown hr (by decide) (by rw [h]; rfl)
      have hrow := frow_of_own hown (by rw [hll]) hglt
      clear hr hbk hs hb
      have HR := hid hrow
      have HSZ := hid hsz
      clear hrow hsz
      go_wp2_with fail
      refine bodyPost_ret (v := .agg #[.int .i64 W, .int .i64 H, .slice (some ⟨gg, 0, none⟩) (W * H) cp]) (by simp [results, Try.results29, go_sem, e0, e1, e2]) rfl ?_
      refine ⟨W, H, HSZ.out, hW6, hH6, l, gg, cp, hll, hgr, rfl, ((HR.out.setCell hne _).setCell hne _).setCell hne _, hgb, ?_⟩
      exact only_setCell (only_setCell (only_setCell hbel (.inr (Nat.le_refl _)) _) (.inr (Nat.le_refl _)) _) (.inr (Nat.le_refl _)) _
end Go.Proofs.Ytihknapgdkladaa
