/- Basins: alike; sums of two. -/
import Derived.Test.YtihknapgdkladaaB10
set_option linter.unusedVariables false
set_option linter.unusedSectionVars false
set_option linter.unusedSimpArgs false
namespace Go.Proofs.Ytihknapgdkladaa
open Go.RowKit Fl
attribute [local go_sem] w_add w_sub w_mul w_store
attribute [local go_sem ↓] Go.wp_at_zero Go.wp_at_succ

/-- the list of two basins, in a block of its own -/
def two (W H : Nat) (s s' : Value) : Array Value := #[.int .i64 W, .int .i64 H, s, .int .i64 W, .int .i64 H, s']

set_option maxRecDepth 100000 in
set_option maxHeartbeats 2000000 in
theorem c_alike1 (W H b off n c gp gl : Nat) (s s' : Value) (l : List Nat) (w : World) (hi : InB w W H b off n l) (hp : Blk w gp 83 #[.slice (some ⟨gl, 0, none⟩) 2 2]) (hl : Blk w gl 26 (two W H s s')) :
    Calls Try.prog 64 #[.agg #[.int .i64 W, .int .i64 H, .slice (some ⟨b, off, none⟩) n c], .pointer (some ⟨gp, 0, none⟩)] w fun e w' => e = .returned (.bool false) ∧ Below w.heap.size w w' := by
  have HV : Hid (∀ wx : World, Below w.heap.size w wx → Calls Try.prog 16 #[.agg #[.int .i64 W, .int .i64 H, .slice (some ⟨b, off, none⟩) n c]] wx fun e w' => e = .returned (.bool true) ∧ Below wx.heap.size wx w') :=
    fun wx hb => c_ValidBasin W H b off n c l _ hi.siz (hi.below hb).row hi.nl hi.len hi.num
  have p0 : w.cell? ⟨gp, 0, none⟩ = some (.slice (some ⟨gl, 0, none⟩) 2 2) := hp.cell 0
  have l0 : w.cell? ⟨gl, 0, none⟩ = some (.int .i64 W) := hl.cell 0
  have l1 : w.cell? ⟨gl, 1, none⟩ = some (.int .i64 H) := hl.cell 1
  have n1 := World.new_ne w _ p0
  have n2 := World.new_ne w _ l0
  have hgp := hp.lt
  have hgl := hl.lt
  have hWW : ((W : Int) != (W : Int)) = false := by simp
  have hHH : ((H : Int) != (H : Int)) = false := by simp
  have HP := hid hp
  have HL := hid hl
  clear hi hp hl
  go_enter Try.func64, Try.ntmps64
  go_wp2_with fail
  go_region_held3 (fun w' => w'.cell? ⟨w.heap.size, 0, none⟩ = some (.int .i64 W) ∧ w'.cell? ⟨w.heap.size, 1, none⟩ = some (.int .i64 H) ∧ w'.cell? ⟨w.heap.size, 2, none⟩ = some (.slice (some ⟨b, off, none⟩) n c) ∧ w'.cell? ⟨gp, 0, none⟩ = some (.slice (some ⟨gl, 0, none⟩) 2 2) ∧ w'.cell? ⟨gl, 0, none⟩ = some (.int .i64 W) ∧ w'.cell? ⟨gl, 1, none⟩ = some (.int .i64 H)) (go_keep)
    (first | (go_at_call 16; refine (HV.out _ ?_).mono ?_; exact ((Below.refl _ w).alloc (Nat.le_refl _) _).drew; rintro e w2 ⟨rfl, hb2⟩
              have hb1 : Below (w.alloc (.cells #[.int .i64 W, .int .i64 H, .slice (some ⟨b, off, none⟩) n c] 26)).heap.size (w.alloc (.cells #[.int .i64 W, .int .i64 H, .slice (some ⟨b, off, none⟩) n c] 26)) w2 := ⟨hb2.os, hb2.tape, hb2.output, hb2.size, hb2.block⟩
              obtain ⟨q0, qs, hbel⟩ := blocks1 hb1
              have e0 : w2.cell? ⟨w.heap.size, 0, none⟩ = some (.int .i64 W) := q0.cell 0
              have e1 : w2.cell? ⟨w.heap.size, 1, none⟩ = some (.int .i64 H) := q0.cell 1
              have e2 : w2.cell? ⟨w.heap.size, 2, none⟩ = some (.slice (some ⟨b, off, none⟩) n c) := q0.cell 2
              have e3 : w2.cell? ⟨gp, 0, none⟩ = some (.slice (some ⟨gl, 0, none⟩) 2 2) := (HP.out.below' hbel).cell 0
              have e4 : w2.cell? ⟨gl, 0, none⟩ = some (.int .i64 W) := (HL.out.below' hbel).cell 0
              have e5 : w2.cell? ⟨gl, 1, none⟩ = some (.int .i64 H) := (HL.out.below' hbel).cell 1
              have HBel := hid hbel
              clear hb1 hb2 q0 hbel))
  go_wp2_with fail
  go_ret
  exact ⟨rfl, HBel.out⟩

/-- two basins of one size, as they come in -/
structure InTwo (w : World) (W H b off n c b' off' n' c' : Nat) (l l' : List Nat) : Prop where
  a : InB w W H b off n l
  b : InB w W H b' off' n' l'
theorem InTwo.below {w w' : World} {W H b off n c b' off' n' c' : Nat} {l l' : List Nat} (h : InTwo w W H b off n c b' off' n' c' l l') (hb : Below w.heap.size w w') : InTwo w' W H b off n c b' off' n' c' l l' := ⟨h.a.below hb, h.b.below hb⟩

set_option maxRecDepth 100000 in
set_option maxHeartbeats 2000000 in
theorem c_IndexBas (W H b off n c b' off' n' c' gp gl : Nat) (l l' : List Nat) (w : World) (hi : InTwo w W H b off n c b' off' n' c' l l')
    (hp : Blk w gp 83 #[.slice (some ⟨gl, 0, none⟩) 2 2]) (hl : Blk w gl 26 (two W H (.slice (some ⟨b, off, none⟩) n c) (.slice (some ⟨b', off', none⟩) n' c'))) :
    Calls Try.prog 74 #[.slice (some ⟨gl, 0, none⟩) 2 2, .func (.func 64) #[] #[.pointer (some ⟨gp, 0, none⟩)]] w fun e w' => e = .returned (.int .i64 (-1)) ∧ Below w.heap.size w w' := by
  have HI := hid hi
  have HP := hid hp
  have HL := hid hl
  clear hi hp hl
  go_enter Try.func74, Try.ntmps74
  go_wp2
  go_loopw [8] (fun i wr => ∃ k : Nat, k ≤ 2 ∧ i = .int .i64 k ∧ Below w.heap.size w wr) (fun i _ => 2 - (intOf i).toNat)
  case atStart => exact ⟨0, Nat.zero_le _, rfl, Below.refl _ _⟩
  case round =>
    obtain ⟨k, hk, rfl, hbel⟩ := hrel
    have HB := hid hbel
    clear hbel
    have q := HL.out.below' HB.out
    have hcase : k = 0 ∨ k = 1 ∨ k = 2 := by omega
    rcases hcase with rfl | rfl | rfl
    · have d0 := q.cell 0
      have d1 := q.cell 1
      have d2 := q.cell 2
      simp only [two] at d0 d1 d2
      have HF := hid (c_alike1 W H b off n c gp gl (.slice (some ⟨b, off, none⟩) n c) (.slice (some ⟨b', off', none⟩) n' c') l wr (HI.out.below HB.out).a (HP.out.below' HB.out) q)
      clear q
      go_wp2_with (go_at_call 64; refine HF.out.mono ?_; rintro e w' ⟨rfl, hb⟩)
      go_roundw
      case rel => exact ⟨1, by omega, rfl, HB.out.trans (hb.mono HB.out.size)⟩
      case measure => simp [intOf]
    · have d0 := q.cell 3
      have d1 := q.cell 4
      have d2 := q.cell 5
      simp only [two] at d0 d1 d2
      have HF := hid (c_alike1 W H b' off' n' c' gp gl (.slice (some ⟨b, off, none⟩) n c) (.slice (some ⟨b', off', none⟩) n' c') l' wr (HI.out.below HB.out).b (HP.out.below' HB.out) q)
      clear q
      go_wp2_with (go_at_call 64; refine HF.out.mono ?_; rintro e w' ⟨rfl, hb⟩)
      go_roundw
      case rel => exact ⟨2, by omega, rfl, HB.out.trans (hb.mono HB.out.size)⟩
      case measure => simp [intOf]
    · clear q
      go_wp2
      go_ret
      exact ⟨rfl, HB.out⟩

set_option maxHeartbeats 400000 in
theorem c_ContainsBas (W H b off n c b' off' n' c' gp gl : Nat) (l l' : List Nat) (w : World) (hi : InTwo w W H b off n c b' off' n' c' l l')
    (hp : Blk w gp 83 #[.slice (some ⟨gl, 0, none⟩) 2 2]) (hl : Blk w gl 26 (two W H (.slice (some ⟨b, off, none⟩) n c) (.slice (some ⟨b', off', none⟩) n' c'))) :
    Calls Try.prog 63 #[.slice (some ⟨gl, 0, none⟩) 2 2, .func (.func 64) #[] #[.pointer (some ⟨gp, 0, none⟩)]] w fun e w' => e = .returned (.bool false) ∧ Below w.heap.size w w' := by
  have H := hid (c_IndexBas W H b off n c b' off' n' c' gp gl l l' w hi hp hl)
  clear hi hp hl
  go_enter Try.func63, Try.ntmps63
  go_wp2_with (go_at_call 74; refine H.out.mono ?_; rintro e w' ⟨rfl, hb⟩)
  go_ret
  exact ⟨rfl, hb⟩

set_option maxHeartbeats 400000 in
theorem c_alike (W H b off n c b' off' n' c' gl : Nat) (l l' : List Nat) (w : World) (hi : InTwo w W H b off n c b' off' n' c' l l')
    (hl : Blk w gl 26 (two W H (.slice (some ⟨b, off, none⟩) n c) (.slice (some ⟨b', off', none⟩) n' c'))) :
    Calls Try.prog 31 #[.slice (some ⟨gl, 0, none⟩) 2 2] w fun e w' => e = .returned (.bool true) ∧ Below w.heap.size w w' := by
  have hb0 := (Below.refl w.heap.size w).alloc (Nat.le_refl _) (.cells #[.slice (some ⟨gl, 0, none⟩) 2 2] 83)
  have H := hid (c_ContainsBas W H b off n c b' off' n' c' w.heap.size gl l l' _ (hi.below hb0) (Blk.new w _ _) (hl.alloc _))
  have HB := hid hb0
  clear hi hl hb0
  go_enter Try.func31, Try.ntmps31
  go_wp2_with (go_at_call 63; refine H.out.mono ?_; rintro e w' ⟨rfl, hb⟩)
  go_ret
  exact ⟨rfl, HB.out.trans (hb.mono HB.out.size)⟩

set_option maxHeartbeats 1000000 in
theorem c_AddBasins (W H b off n c b' off' n' c' : Nat) (l l' : List Nat) (w : World) (hi : InTwo w W H b off n c b' off' n' c' l l') (hnum : AllNum (cl W (fun x y => fadd Ieee.single (bat W H l x y) (bat W H l' x y)) (W * H))) :
    Calls Try.prog 8 #[.agg #[.int .i64 W, .int .i64 H, .slice (some ⟨b, off, none⟩) n c], .agg #[.int .i64 W, .int .i64 H, .slice (some ⟨b', off', none⟩) n' c']] w (MadeT w W H (cl W (fun x y => fadd Ieee.single (bat W H l x y) (bat W H l' x y)) (W * H))) := by
  have HR : Hid (∀ wx : World, Below w.heap.size w wx → Blk wx w.heap.size 26 #[.int .i64 W, .int .i64 H, .slice (some ⟨b, off, none⟩) n c] → Blk wx (w.heap.size + 1) 26 #[.int .i64 W, .int .i64 H, .slice (some ⟨b', off', none⟩) n' c'] →
      Calls Try.prog 32 #[.agg #[.int .i64 W, .int .i64 H, .slice (some ⟨b, off, none⟩) n c], .func (.func 33) #[] #[.pointer (some ⟨w.heap.size, 0, none⟩), .pointer (some ⟨w.heap.size + 1, 0, none⟩)]] wx (MadeT wx W H (cl W (fun x y => fadd Ieee.single (bat W H l x y) (bat W H l' x y)) (W * H)))) :=
    fun wx hb hB hU => c_rebuilt W H b off n c l wx (hi.below hb).a _ _ _ _ (enters_fn Try.func33 (by kernel_rfl) rfl) (of_add (basp_of hB (hi.below hb).a.row) (basp_of hU (hi.below hb).b.row) hi.a.siz (by rw [hi.a.nl, hi.a.len]; exact Nat.le_refl _) (by rw [hi.a.len]; exact Nat.le_refl _) hi.a.num (by rw [hi.b.nl, hi.b.len]; exact Nat.le_refl _) (by rw [hi.b.len]; exact Nat.le_refl _) hi.b.num) hnum
  have HA : Hid (∀ (wx : World) (gl : Nat), Below w.heap.size w wx → Blk wx gl 26 (two W H (.slice (some ⟨b, off, none⟩) n c) (.slice (some ⟨b', off', none⟩) n' c')) → Calls Try.prog 31 #[.slice (some ⟨gl, 0, none⟩) 2 2] wx fun e w' => e = .returned (.bool true) ∧ Below wx.heap.size wx w') :=
    fun wx gl hb hB => c_alike W H b off n c b' off' n' c' gl l l' wx (hi.below hb) hB
  clear hi hnum
  generalize cl W (fun x y => fadd Ieee.single (bat W H l x y) (bat W H l' x y)) (W * H) = lr at *
  go_enter Try.func8, Try.ntmps8
  go_wp2_with fail
  refine (HA.out _ (w.heap.size + 3) ?_ ?_).mono ?_
  · exact (((((Below.refl _ w).alloc (Nat.le_refl _) _).alloc (by simp) _).alloc (by simp; omega) _).alloc (by simp; omega) _)
  · have h := Blk.new (((w.alloc (.cells #[.int .i64 W, .int .i64 H, .slice (some ⟨b, off, none⟩) n c] 26)).alloc (.cells #[.int .i64 W, .int .i64 H, .slice (some ⟨b', off', none⟩) n' c'] 26)).alloc (.cells #[.int .i64 0, .int .i64 0, .slice none 0 0] 26)) 26 (two W H (.slice (some ⟨b, off, none⟩) n c) (.slice (some ⟨b', off', none⟩) n' c'))
    simpa [World.size_alloc, Nat.add_assoc, two] using h
  rintro e w1 ⟨rfl, hb1⟩
  obtain ⟨q0, q1, q2, q3, qs, hbel⟩ := blocks4 hb1
  have d0 := q0.all.1
  have HQ0 := hid q0
  have HQ1 := hid q1
  have HQ2 := hid q2
  have HBel := hid hbel
  clear hb1 q0 q1 q2 q3 hbel
  go_wp2_with fail
  refine (HR.out _ HBel.out HQ0.out HQ1.out).mono ?_
  rintro e w2 ⟨gg, cp, rfl, hrow, hge, hb2⟩
  obtain ⟨a1, f1⟩ := (HQ2.out.below' hb2).all
  have HRow := hid hrow
  have HB2 := hid (HBel.out.trans (hb2.mono HBel.out.size))
  clear hb2 hrow d0
  go_wp2_with fail
  refine bodyPost_ret (v := .tuple #[.agg #[.int .i64 W, .int .i64 H, .slice (some ⟨gg, 0, none⟩) (W * H) cp], .bool true]) (by simp [results, Try.results8, go_sem, a1]) rfl ⟨gg, cp, rfl, ?_, by omega, ?_⟩
  · exact ((HRow.out.setCell (by simp; omega) _).setCell (by simp; omega) _).setCell (by simp; omega) _
  · exact ((HB2.out.setCell (by simp <;> omega) _).setCell (by simp <;> omega) _).setCell (by simp <;> omega) _
end Go.Proofs.Ytihknapgdkladaa
