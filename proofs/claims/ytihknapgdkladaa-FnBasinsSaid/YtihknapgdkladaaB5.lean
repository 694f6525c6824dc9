/- Basins: those that are rebuilt by a function of a place. -/
import Derived.Test.YtihknapgdkladaaB4
set_option linter.unusedSimpArgs false
set_option linter.unusedVariables false
set_option linter.unusedSectionVars false
namespace Go.Proofs.Ytihknapgdkladaa
open Go.RowKit Fl
attribute [local go_sem] w_add w_sub w_mul w_store

/-! ## the functions of a place -/
/-- what laplace asks of the numbers -/
def LapOk (W H : Nat) (l : List Nat) : Prop := ∀ x y : Nat, x < W → y < H →
  Num Ieee.single (fadd Ieee.single (bat W H l ((x : Int) - 1) y) (bat W H l ((x : Int) + 1) y)) ∧ Num Ieee.single (fadd Ieee.single (bat W H l x ((y : Int) - 1)) (bat W H l x ((y : Int) + 1))) ∧
  Num Ieee.single (aroundB W H l x y) ∧ Num Ieee.single (fmul Ieee.single 1082130432 (bat W H l x y))

theorem BasP.later {w w' : World} {g W H b off n c : Nat} {l : List Nat} (h : BasP w g W H b off n c l) (hb : Below w.heap.size w w') : BasP w' g W H b off n c l := h.below hb h.lt h.row.1
theorem below_of_drewN {w w' : World} (h : ∃ n, w' = w.drewN n) : Below w.heap.size w w' := by obtain ⟨n, rfl⟩ := h; exact below_drewN (Below.refl _ _) n

theorem of_laplace {w : World} {g W H b off n c : Nat} {l : List Nat} (h : BasP w g W H b off n c l) (hs : Siz W H) (hn : W * H ≤ n) (hl : W * H ≤ l.length) (hA : AllNum l) (hL : LapOk W H l) :
    OfAt 35 #[.pointer (some ⟨g, 0, none⟩)] #[] w W H (fun x y => laplaceB W H l x y) := by
  intro wx x y hb hx hy
  obtain ⟨l1, l2, l3, l4⟩ := hL x y hx hy
  have s1 := hs.b
  have s2 := hs.d
  exact (c_laplace g W H b off n c l x y wx (h.later hb) hs hn hl hA (by omega) (by omega) (by omega) (by omega) l1 l2 l3 l4).mono fun _ _ ⟨he, hw⟩ => ⟨he, below_of_drewN hw⟩

set_option maxHeartbeats 400000 in
theorem c_add1 (g g' W H b off n c b' off' n' c' : Nat) (l l' : List Nat) (x y : Int) (w : World) (hb : BasP w g W H b off n c l) (hb' : BasP w g' W H b' off' n' c' l')
    (hs : Siz W H) (hn : W * H ≤ n) (hl : W * H ≤ l.length) (hA : AllNum l) (hn' : W * H ≤ n') (hl' : W * H ≤ l'.length) (hA' : AllNum l') :
    Calls Try.prog 33 #[.int .i64 x, .int .i64 y, .pointer (some ⟨g, 0, none⟩), .pointer (some ⟨g', 0, none⟩)] w fun e w' => e = .returned (.float .f32 (fadd Ieee.single (bat W H l x y) (bat W H l' x y))) ∧ ∃ n, w' = w.drewN n := by
  have n1 := bat_num hA hs.a hs.c hl x y
  have n2 := bat_num hA' hs.a hs.c hl' x y
  have H1 := hid (c_at g W H b off n c l x y w hb hs.a hs.b hs.c hs.d hn hl)
  have H2 := hid (fun k => c_at g' W H b' off' n' c' l' x y (w.drewN k) (hb'.drewN k) hs.a hs.b hs.c hs.d hn' hl')
  clear hb hb' hs hn hl hA hn' hl' hA'
  generalize bat W H l x y = f at *
  generalize bat W H l' x y = f' at *
  go_enter Try.func33, Try.ntmps33
  go_wp2_with fail
  refine H1.out.mono ?_
  rintro e w' ⟨rfl, k, rfl⟩
  go_wp2_with fail
  refine (H2.out _).mono ?_
  rintro e w' ⟨rfl, k', rfl⟩
  go_wp2_with fail
  go_ret
  exact ⟨rfl, _, rfl⟩

theorem of_add {w : World} {g g' W H b off n c b' off' n' c' : Nat} {l l' : List Nat} (h : BasP w g W H b off n c l) (h' : BasP w g' W H b' off' n' c' l') (hs : Siz W H) (hn : W * H ≤ n) (hl : W * H ≤ l.length) (hA : AllNum l)
    (hn' : W * H ≤ n') (hl' : W * H ≤ l'.length) (hA' : AllNum l') :
    OfAt 33 #[] #[.pointer (some ⟨g, 0, none⟩), .pointer (some ⟨g', 0, none⟩)] w W H (fun x y => fadd Ieee.single (bat W H l x y) (bat W H l' x y)) :=
  fun wx x y hb _ _ => (c_add1 g g' W H b off n c b' off' n' c' l l' x y wx (h.later hb) (h'.later hb) hs hn hl hA hn' hl' hA').mono fun _ _ ⟨he, hw⟩ => ⟨he, below_of_drewN hw⟩

set_option maxHeartbeats 400000 in
theorem c_roll1 (g gx gy W H b off n c : Nat) (l : List Nat) (x y u v : Int) (w : World) (hb : BasP w g W H b off n c l) (hu : w.cell? ⟨gx, 0, none⟩ = some (.int .i64 u)) (hv : w.cell? ⟨gy, 0, none⟩ = some (.int .i64 v))
    (hs : Siz W H) (hn : W * H ≤ n) (hl : W * H ≤ l.length) (b1 : -100 ≤ x) (b2 : x ≤ 100) (b3 : -100 ≤ y) (b4 : y ≤ 100) (b5 : -100 ≤ u) (b6 : u ≤ 100) (b7 : -100 ≤ v) (b8 : v ≤ 100) :
    Calls Try.prog 39 #[.int .i64 x, .int .i64 y, .pointer (some ⟨g, 0, none⟩), .pointer (some ⟨gx, 0, none⟩), .pointer (some ⟨gy, 0, none⟩)] w fun e w' => e = .returned (.float .f32 (bat W H l (x - u) (y - v))) ∧ ∃ n, w' = w.drewN n := by
  have H1 := hid (c_at g W H b off n c l (x - u) (y - v) w hb hs.a hs.b hs.c hs.d hn hl)
  clear hb hs hn hl
  go_enter Try.func39, Try.ntmps39
  go_wp2_with fail
  refine H1.out.mono ?_
  rintro e w' ⟨rfl, k, rfl⟩
  go_wp2_with fail
  go_ret
  exact ⟨rfl, _, rfl⟩

theorem of_roll {w : World} {g gx gy W H b off n c : Nat} {l : List Nat} {u v : Int} (h : BasP w g W H b off n c l) (hu : w.cell? ⟨gx, 0, none⟩ = some (.int .i64 u)) (hv : w.cell? ⟨gy, 0, none⟩ = some (.int .i64 v)) (hgx : gx < w.heap.size) (hgy : gy < w.heap.size)
    (hs : Siz W H) (hn : W * H ≤ n) (hl : W * H ≤ l.length) (b5 : -100 ≤ u) (b6 : u ≤ 100) (b7 : -100 ≤ v) (b8 : v ≤ 100) :
    OfAt 39 #[] #[.pointer (some ⟨g, 0, none⟩), .pointer (some ⟨gx, 0, none⟩), .pointer (some ⟨gy, 0, none⟩)] w W H (fun x y => bat W H l ((x : Int) - u) ((y : Int) - v)) :=
  fun wx x y hb hx hy => by
    have s1 := hs.b
    have s2 := hs.d
    exact (c_roll1 g gx gy W H b off n c l x y u v wx (h.later hb) ((hb.cell (p := ⟨gx, 0, none⟩) hgx).trans hu) ((hb.cell (p := ⟨gy, 0, none⟩) hgy).trans hv) hs hn hl (by omega) (by omega) (by omega) (by omega) b5 b6 b7 b8).mono
      fun _ _ ⟨he, hw⟩ => ⟨he, below_of_drewN hw⟩

set_option maxHeartbeats 400000 in
theorem c_mirror1 (g W H b off n c : Nat) (l : List Nat) (x y : Int) (w : World) (hb : BasP w g W H b off n c l)
    (hs : Siz W H) (hn : W * H ≤ n) (hl : W * H ≤ l.length) (b1 : -100 ≤ x) (b2 : x ≤ 100) :
    Calls Try.prog 40 #[.int .i64 x, .int .i64 y, .pointer (some ⟨g, 0, none⟩)] w fun e w' => e = .returned (.float .f32 (Op.negFloat .f32 (bat W H l ((W : Int) - 1 - x) y))) ∧ ∃ n, w' = w.drewN n := by
  have H1 := hid (c_at g W H b off n c l ((W : Int) - 1 - x) y w hb hs.a hs.b hs.c hs.d hn hl)
  have h0 := hb.c0
  have s1 := hs.b
  have hneg : ∀ (z : Nat) (wx : World), (Op.unary .neg (.float .f32 z)).run Try.prog wx = .ok (.float .f32 (Op.negFloat .f32 z)) wx := fun _ _ => rfl
  clear hb hs hn hl
  generalize bat W H l = f at *
  go_enter Try.func40, Try.ntmps40
  go_wp2_with fail
  refine H1.out.mono ?_
  rintro e w' ⟨rfl, k, rfl⟩
  go_wp2_with fail
  go_ret
  exact ⟨rfl, _, rfl⟩

theorem of_mirror {w : World} {g W H b off n c : Nat} {l : List Nat} (h : BasP w g W H b off n c l) (hs : Siz W H) (hn : W * H ≤ n) (hl : W * H ≤ l.length) :
    OfAt 40 #[] #[.pointer (some ⟨g, 0, none⟩)] w W H (fun x y => Op.negFloat .f32 (bat W H l ((W : Int) - 1 - x) y)) :=
  fun wx x y hb hx hy => by
    have s1 := hs.b
    exact (c_mirror1 g W H b off n c l x y wx (h.later hb) hs hn hl (by omega) (by omega)).mono fun _ _ ⟨he, hw⟩ => ⟨he, below_of_drewN hw⟩

set_option maxHeartbeats 400000 in
theorem c_even1 (g gm W H b off n c m : Nat) (l : List Nat) (x y : Int) (w : World) (hb : BasP w g W H b off n c l) (hm : w.cell? ⟨gm, 0, none⟩ = some (.float .f32 m)) (hM : Num Ieee.single m)
    (hs : Siz W H) (hn : W * H ≤ n) (hl : W * H ≤ l.length) (hA : AllNum l) :
    Calls Try.prog 44 #[.int .i64 x, .int .i64 y, .pointer (some ⟨g, 0, none⟩), .pointer (some ⟨gm, 0, none⟩)] w fun e w' => e = .returned (.float .f32 (fsub Ieee.single (bat W H l x y) m)) ∧ ∃ n, w' = w.drewN n := by
  have n1 := bat_num hA hs.a hs.c hl x y
  have H2 := hid (fun k => c_at g W H b off n c l x y (w.drewN k) (hb.drewN k) hs.a hs.b hs.c hs.d hn hl)
  clear hb hs hn hl hA
  generalize bat W H l x y = f at *
  go_enter Try.func44, Try.ntmps44
  go_wp2_with fail
  go_quiet ((go_at_call 34; exact Calls.quiet_of (H2.out _)))
  go_wp2_with fail
  go_ret
  exact ⟨rfl, _, rfl⟩

theorem of_even {w : World} {g gm W H b off n c m : Nat} {l : List Nat} (h : BasP w g W H b off n c l) (hm : w.cell? ⟨gm, 0, none⟩ = some (.float .f32 m)) (hg : gm < w.heap.size) (hM : Num Ieee.single m) (hs : Siz W H) (hn : W * H ≤ n) (hl : W * H ≤ l.length) (hA : AllNum l) :
    OfAt 44 #[] #[.pointer (some ⟨g, 0, none⟩), .pointer (some ⟨gm, 0, none⟩)] w W H (fun x y => fsub Ieee.single (bat W H l x y) m) :=
  fun wx x y hb _ _ => (c_even1 g gm W H b off n c m l x y wx (h.later hb) ((hb.cell (p := ⟨gm, 0, none⟩) hg).trans hm) hM hs hn hl hA).mono fun _ _ ⟨he, hw⟩ => ⟨he, below_of_drewN hw⟩

set_option maxHeartbeats 400000 in
theorem c_scale1 (g gm W H b off n c m : Nat) (l : List Nat) (x y : Int) (w : World) (hb : BasP w g W H b off n c l) (hm : w.cell? ⟨gm, 0, none⟩ = some (.float .f32 m)) (hM : Num Ieee.single m)
    (hs : Siz W H) (hn : W * H ≤ n) (hl : W * H ≤ l.length) (hA : AllNum l) :
    Calls Try.prog 51 #[.int .i64 x, .int .i64 y, .pointer (some ⟨g, 0, none⟩), .pointer (some ⟨gm, 0, none⟩)] w fun e w' => e = .returned (.float .f32 (fmul Ieee.single (bat W H l x y) m)) ∧ ∃ n, w' = w.drewN n := by
  have n1 := bat_num hA hs.a hs.c hl x y
  have H2 := hid (fun k => c_at g W H b off n c l x y (w.drewN k) (hb.drewN k) hs.a hs.b hs.c hs.d hn hl)
  clear hb hs hn hl hA
  generalize bat W H l x y = f at *
  go_enter Try.func51, Try.ntmps51
  go_wp2_with fail
  go_quiet ((go_at_call 34; exact Calls.quiet_of (H2.out _)))
  go_wp2_with fail
  go_ret
  exact ⟨rfl, _, rfl⟩

theorem of_scale {w : World} {g gm W H b off n c m : Nat} {l : List Nat} (h : BasP w g W H b off n c l) (hm : w.cell? ⟨gm, 0, none⟩ = some (.float .f32 m)) (hg : gm < w.heap.size) (hM : Num Ieee.single m) (hs : Siz W H) (hn : W * H ≤ n) (hl : W * H ≤ l.length) (hA : AllNum l) :
    OfAt 51 #[] #[.pointer (some ⟨g, 0, none⟩), .pointer (some ⟨gm, 0, none⟩)] w W H (fun x y => fmul Ieee.single (bat W H l x y) m) :=
  fun wx x y hb _ _ => (c_scale1 g gm W H b off n c m l x y wx (h.later hb) ((hb.cell (p := ⟨gm, 0, none⟩) hg).trans hm) hM hs hn hl hA).mono fun _ _ ⟨he, hw⟩ => ⟨he, below_of_drewN hw⟩
end Go.Proofs.Ytihknapgdkladaa
