/- Basins: cells, rebuilt. -/
import Derived.Test.YtihknapgdkladaaB2
import Derived.Deep.RegionLaw
set_option linter.unusedSimpArgs false
set_option linter.unusedVariables false
set_option linter.unusedSectionVars false
namespace Go.Proofs.Ytihknapgdkladaa
open Go.RowKit Fl
attribute [local go_sem] w_add w_sub w_mul w_store
attribute [local go_sem ↓] Go.wp_at_zero Go.wp_at_succ

theorem info_f32 : (Try.prog.info? 32).map (fun i => (i.zero, i.size, i.bytes)) = some (some (.float .f32 0), 1, 4) := by kernel_rfl

/-- WHAT A FUNCTION OF A PLACE TELLS: in whatever world has come of w0, the word f x y. -/
def OfAt (g : FuncId) (first cap : Array Value) (w0 : World) (W H : Nat) (f : Nat → Nat → Nat) : Prop :=
  ∀ (w : World) (x y : Nat), Below w0.heap.size w0 w → x < W → y < H →
    Calls Try.prog g (first ++ (#[.int .i64 x, .int .i64 y] ++ cap)) w fun e w' => e = .returned (.float .f32 (f x y)) ∧ Below w.heap.size w w'

/-- what is told of the first k cells, row by row -/
def cl (W : Nat) (f : Nat → Nat → Nat) (k : Nat) : List Nat := (List.range k).map fun i => f (i % W) (i / W)
def vl (l : List Nat) : List Value := l.map (Value.float .f32)
theorem cl_length (W : Nat) (f : Nat → Nat → Nat) (k : Nat) : (cl W f k).length = k := by simp [cl]
theorem cl_succ (W : Nat) (f : Nat → Nat → Nat) (x y : Nat) (h : x < W) : vl (cl W f (y * W + x + 1)) = vl (cl W f (y * W + x)) ++ [.float .f32 (f x y)] := by
  have h1 : (y * W + x) % W = x := by rw [Nat.mul_comm, Nat.mul_add_mod]; exact Nat.mod_eq_of_lt h
  have h2 : (y * W + x) / W = y := by rw [Nat.mul_comm, Nat.mul_add_div (by omega), Nat.div_eq_of_lt h]; rfl
  unfold cl vl
  rw [List.range_succ, List.map_append, List.map_append]
  simp [h1, h2]

/-- THE ANSWER OF A FUNCTION THAT MAKES A BASIN: the words l in a row of its own. -/
def MadeB (w : World) (W H : Nat) (l : List Nat) (e : Ending) (w' : World) : Prop :=
  ∃ gg cap, e = .returned (.agg #[.int .i64 W, .int .i64 H, .slice (some ⟨gg, 0, none⟩) (W * H) cap]) ∧ FRow w' gg 0 l ∧ w.heap.size ≤ gg ∧ Below w.heap.size w w'
def MadeT (w : World) (W H : Nat) (l : List Nat) (e : Ending) (w' : World) : Prop :=
  ∃ gg cap, e = .returned (.tuple #[.agg #[.int .i64 W, .int .i64 H, .slice (some ⟨gg, 0, none⟩) (W * H) cap], .bool true]) ∧ FRow w' gg 0 l ∧ w.heap.size ≤ gg ∧ Below w.heap.size w w'

theorem frow_of_own {w : World} {base n cap gg : Nat} {l : List Nat} (h : w.ownsRow base 32 1 (.slice (some ⟨gg, 0, none⟩) n cap) n (vl l)) (hn : n = l.length) (hlt : gg < w.heap.size) : FRow w gg 0 l := by
  refine ⟨hlt, fun i hi => ?_⟩
  rw [Nat.zero_add, h.cellAt i (by omega)]
  unfold vl
  rw [List.getElem?_map, List.getElem?_eq_getElem hi, List.getD_eq_getElem?_getD, List.getElem?_eq_getElem hi]
  rfl

set_option maxRecDepth 100000 in
set_option maxHeartbeats 4000000 in
theorem c_cells (g : FuncId) (first cap : Array Value) (w : World) (W H : Nat) (f : Nat → Nat → Nat) (hs : Siz W H)
    (eg : ∀ args w, (callFunc g args).run Try.prog w = .ok (.enter g args) w) (hof : OfAt g first cap w W H f) :
    Calls Try.prog 56 #[.int .i64 W, .int .i64 H, .func (.func g) first cap] w (MadeB w W H (cl W f (W * H))) := by
  obtain ⟨i0, hi0, hz0, hz1, hz2⟩ := info_parts info_f32
  have HO := hid hof
  clear hof
  obtain ⟨s1, s2, s3, s4⟩ := hs
  go_enter Try.func56, Try.ntmps56
  go_wp2
  go_loopw [14] (fun t wr => ∃ (y : Nat) (v : Value), y ≤ H ∧ t = .int .i64 y ∧ Blk wr w.heap.size 26 #[.int .i64 0, .int .i64 0, .slice none 0 0] ∧ Blk wr (w.heap.size + 1) 26 (bcs W H v) ∧ wr.ownsRow w.heap.size 32 1 v (y * W) (vl (cl W f (y * W))) ∧ Below w.heap.size w wr)
    (fun t _ => H - (intOf t).toNat)
  case atStart =>
    refine ⟨0, .slice none 0 0, Nat.zero_le _, rfl, ?_, ?_, ?_, ?_⟩
    · exact (Blk.new w _ _).alloc _
    · have := Blk.new (w.alloc (.cells #[.int .i64 0, .int .i64 0, .slice none 0 0] 26)) 26 (bcs W H (.slice none 0 0))
      rw [World.size_alloc] at this
      exact this
    · rw [Nat.zero_mul]; exact World.ownsRow_nil _ _ _ _
    · exact ((Below.refl _ _).alloc (Nat.le_refl _) _).alloc (by simp) _
  case round =>
    obtain ⟨y, v, hy, rfl, hblk0, hblk, hown, hbel⟩ := hrel
    by_cases hlt : y < H
    · go_wp2
      go_loopw [18] (fun t wx => ∃ (x : Nat) (v : Value), x ≤ W ∧ t = .int .i64 x ∧ Blk wx w.heap.size 26 #[.int .i64 0, .int .i64 0, .slice none 0 0] ∧ Blk wx (w.heap.size + 1) 26 (bcs W H v) ∧ wx.ownsRow w.heap.size 32 1 v (y * W + x) (vl (cl W f (y * W + x))) ∧ Below w.heap.size w wx)
        (fun t _ => W - (intOf t).toNat)
      case atStart => exact ⟨0, v, Nat.zero_le _, rfl, hblk0, hblk, hown, hbel⟩
      case round =>
        clear hblk0 hblk hown hbel
        obtain ⟨x, v, hx, rfl, hblk0, hblk, hown, hbel⟩ := hrel
        by_cases hxl : x < W
        · have hsz := hblk.lt
          have d2 : wr.cell? ⟨w.heap.size + 1, 2, none⟩ = some v := hblk.cell 2
          have f2 := hblk.frozen 2
          have HC : Hid (∀ wx : World, Below w.heap.size w wx → Calls Try.prog g (first ++ (#[.int .i64 x, .int .i64 y] ++ cap)) wx fun e w' => e = .returned (.float .f32 (f x y)) ∧ Below wx.heap.size wx w') :=
            fun wx hb => HO.out wx x y hb hxl hlt
          have hk : y * W + x + 1 ≤ 256 := by
            have a1 : y * W + W ≤ H * W := by rw [← Nat.succ_mul]; exact Nat.mul_le_mul_right W hlt
            have a2 : H * W ≤ 16 * 16 := Nat.mul_le_mul s4 s2
            omega
          have HM : Hid (y * W + x + 1 ≤ maxLen) := hid (Nat.le_trans hk (by decide))
          have HY : Hid ((y * W + x + 1) * 4 ≤ 140737488355328) := hid (by omega)
          have hvB : v.ownBlock ≠ some (w.heap.size + 1) := own_blk_ne hown hblk (by decide)
          have hvA : v.ownBlock ≠ some w.heap.size := own_blk_ne hown hblk0 (by decide)
          have HVB := hid hvB
          have HVA := hid hvA
          clear hvA hvB
          have HB := hid hblk
          have HB0 := hid hblk0
          have HW := hid hown
          have HL := hid hbel
          clear hblk hblk0 hown hbel HO
          go_wp2_with fail
          go_region_law (first
              | (refine step_append_lies _ (by rfl) _ _ _ (by rfl) w.heap.size 32 i0 _ 1 4 Try.underlying24 hi0 hz0 hz1 hz2 rfl Nat.one_pos v (y * W + x) (vl (cl W f (y * W + x))) (by rfl) ((own_below HW.out HB1.out).alloc _) ⟨w1.heap.size, 0, none⟩ 1 1 [.float .f32 (f x y)] (by rfl) (by rfl) (World.news_of_block (cs := #[.float .f32 (f x y)]) (t := 32) (fr := (0, 0)) (heap_alloc_new w1 _)) (fun u hu => by rw [List.mem_singleton.1 hu]; rfl) Nat.one_pos HM.out HY.out hw1 (w1.heap.size + 1) (World.size_alloc _ _) ?_
                 intro gg cp w2 hown1 hgrow hat hlt2
                 have hB2 : Blk w2 (w.heap.size + 1) 26 (bcs W H v) := ((HB.out.below' HB1.out).alloc _).grown hgrow (fun e => HVB.out e.symm)
                 have d4 : w2.cell? ⟨w.heap.size + 1, 2, none⟩ = some v := hB2.cell 2
                 have f4 := hB2.frozen 2
                 have HB2 := hid hB2
                 have HO2 := hid hown1
                 have HG2 := hid hgrow
                 have HA2 := hid hat
                 clear hB2 hown1 hgrow hat)
              | (go_simp
                 refine (HC.out wr.drew (by exact ⟨HL.out.os, HL.out.tape, HL.out.output, HL.out.size, HL.out.block⟩)).mono ?_
                 rintro e w1 ⟨rfl, hb1⟩
                 have hb2 : Below wr.heap.size wr w1 := ⟨hb1.os, hb1.tape, hb1.output, hb1.size, hb1.block⟩
                 have d3 : w1.cell? ⟨w.heap.size + 1, 2, none⟩ = some v := (hb2.cell (p := ⟨w.heap.size + 1, 2, none⟩) hsz).trans d2
                 have hw1 : w.heap.size ≤ (w1.alloc (.cells #[.float .f32 (f x y)] 32)).heap.size := by have := hb2.size; simp; omega
                 have hsz1 : w.heap.size + 1 < w1.heap.size := Nat.lt_of_lt_of_le hsz hb2.size
                 have HB1 := hid hb2
                 clear hb1 hb2))
          all_goals
            clear d2 f2 d3 d4 f4 eg
            go_wp2
            go_roundw
            case rel =>
              have hgn : gg ≠ w.heap.size + 1 := by
                rcases HA2.out with h | h
                · intro h'; exact HVB.out (by rw [h, h'])
                · omega
              refine ⟨x + 1, .slice (some ⟨gg, 0, none⟩) (y * W + x + 1) cp, by omega, by go_num, ?_, ?_, ?_, ?_⟩
              · exact (((HB0.out.below' HB1.out).alloc _).grown HG2.out (fun e => HVA.out e.symm)).far (by simp) _
              · exact HB2.out.set_ 2 _
              · rw [← Nat.add_assoc, cl_succ W f x y hxl]
                exact own_setCell HO2.out (by intro h; apply hgn; simpa [Value.ownBlock] using h) _
              · have c1 : Below w.heap.size w w1 := HL.out.trans (HB1.out.mono HL.out.size)
                have c2 : Below w.heap.size w (w1.alloc (.cells #[.float .f32 (f x y)] 32)) := c1.alloc c1.size _
                refine (c2.grown HG2.out hw1 (fun k hk' => ?_)).setCell (by simp) _
                exact (HW.out.lt k hk').1
            case measure => simp [intOf]; omega
        · go_wp2
          go_roundw
          case rel =>
            obtain rfl : x = W := by omega
            exact ⟨y + 1, v, by omega, by go_num, hblk0, hblk, by rw [Nat.succ_mul]; exact hown, hbel⟩
          case measure => simp [intOf]; omega
    · have d0 : wr.cell? ⟨w.heap.size + 1, 0, none⟩ = some (.int .i64 W) := hblk.cell 0
      have d1 : wr.cell? ⟨w.heap.size + 1, 1, none⟩ = some (.int .i64 H) := hblk.cell 1
      have d2 : wr.cell? ⟨w.heap.size + 1, 2, none⟩ = some v := hblk.cell 2
      have e0 : wr.cell? ⟨w.heap.size, 0, none⟩ = some (.int .i64 0) := hblk0.cell 0
      have e1 : wr.cell? ⟨w.heap.size, 1, none⟩ = some (.int .i64 0) := hblk0.cell 1
      have e2 : wr.cell? ⟨w.heap.size, 2, none⟩ = some (.slice none 0 0) := hblk0.cell 2
      have g0 := hblk0.frozen 0
      have g1 := hblk0.frozen 1
      have g2 := hblk0.frozen 2
      obtain rfl : y = H := by omega
      have hpos : 0 < y * W := Nat.mul_pos (by omega) (by omega)
      obtain ⟨gg, cp, rfl, hgb, hglt⟩ := hown.form hpos
      have hne : gg ≠ w.heap.size := fun h => own_blk_ne hown hblk0 (by decide) (by rw [h]; rfl)
      have hrow := frow_of_own hown (by rw [cl_length]) hglt
      clear hblk hblk0
      have HR := hid hrow
      clear hrow
      go_wp2
      refine bodyPost_ret (v := .agg #[.int .i64 W, .int .i64 y, .slice (some ⟨gg, 0, none⟩) (y * W) cp]) (by simp [results, Try.results56, go_sem, e0, e1, e2]) rfl ?_
      refine ⟨gg, cp, ?_, ?_, hgb, ?_⟩
      · rw [Nat.mul_comm]
      · rw [Nat.mul_comm W y]
        exact ((HR.out.setCell hne _).setCell hne _).setCell hne _
      · exact ((hbel.setCell (Nat.le_refl _) _).setCell (Nat.le_refl _) _).setCell (Nat.le_refl _) _
end Go.Proofs.Ytihknapgdkladaa
