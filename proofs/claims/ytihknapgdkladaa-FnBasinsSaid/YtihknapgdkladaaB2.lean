/- Basins: around, laplace; lists of floats. -/
import Derived.Test.YtihknapgdkladaaB1
set_option linter.unusedSimpArgs false
set_option linter.unusedVariables false
set_option linter.unusedSectionVars false
namespace Go.Proofs.Ytihknapgdkladaa
open Go.RowKit Fl
attribute [local go_sem] w_add w_sub w_mul w_store

def aroundB (W H : Nat) (l : List Nat) (x y : Int) : Nat :=
  fadd Ieee.single (fadd Ieee.single (bat W H l (x - 1) y) (bat W H l (x + 1) y)) (fadd Ieee.single (bat W H l x (y - 1)) (bat W H l x (y + 1)))
def laplaceB (W H : Nat) (l : List Nat) (x y : Int) : Nat :=
  fsub Ieee.single (aroundB W H l x y) (fmul Ieee.single 1082130432 (bat W H l x y))
/-- every word of the list is a number -/
def AllNum (l : List Nat) : Prop := ∀ i, i < l.length → Num Ieee.single (l.getD i 0)
theorem bat_num {W H : Nat} {l : List Nat} (h : AllNum l) (hW : 3 ≤ W) (hH : 3 ≤ H) (hl : W * H ≤ l.length) (x y : Int) : Num Ieee.single (bat W H l x y) := by
  obtain ⟨_, p⟩ := plc_cast W H x y hW hH
  exact h _ (by omega)

/-- the sizes of a basin -/
structure Siz (W H : Nat) : Prop where
  a : 3 ≤ W
  b : W ≤ 16
  c : 3 ≤ H
  d : H ≤ 16

set_option maxHeartbeats 800000 in
theorem c_around (g : Nat) (W H b off n c : Nat) (l : List Nat) (x y : Int) (w : World) (hb : BasP w g W H b off n c l)
    (hs : Siz W H) (hn : W * H ≤ n) (hl : W * H ≤ l.length) (hA : AllNum l) (hx : -100 ≤ x) (hx' : x ≤ 100) (hy : -100 ≤ y) (hy' : y ≤ 100)
    (h1 : Num Ieee.single (fadd Ieee.single (bat W H l (x - 1) y) (bat W H l (x + 1) y))) (h2 : Num Ieee.single (fadd Ieee.single (bat W H l x (y - 1)) (bat W H l x (y + 1)))) :
    Calls Try.prog 58 #[.pointer (some ⟨g, 0, none⟩), .int .i64 x, .int .i64 y] w fun e w' => e = .returned (.float .f32 (aroundB W H l x y)) ∧ ∃ n, w' = w.drewN n := by
  unfold aroundB
  have n1 := bat_num hA hs.a hs.c hl (x - 1) y
  have n2 := bat_num hA hs.a hs.c hl (x + 1) y
  have n3 := bat_num hA hs.a hs.c hl x (y - 1)
  have n4 := bat_num hA hs.a hs.c hl x (y + 1)
  have HP : Hid (∀ (k : Nat) (u v : Int), Calls Try.prog 34 #[.pointer (some ⟨g, 0, none⟩), .int .i64 u, .int .i64 v] (w.drewN k) fun e w' => e = .returned (.float .f32 (bat W H l u v)) ∧ ∃ n, w' = (w.drewN k).drewN n) :=
    fun k u v => c_at g W H b off n c l u v _ (hb.drewN k) hs.a hs.b hs.c hs.d hn hl
  have HP0 : Hid (∀ (u v : Int), Calls Try.prog 34 #[.pointer (some ⟨g, 0, none⟩), .int .i64 u, .int .i64 v] w fun e w' => e = .returned (.float .f32 (bat W H l u v)) ∧ ∃ n, w' = w.drewN n) :=
    fun u v => c_at g W H b off n c l u v _ hb hs.a hs.b hs.c hs.d hn hl
  clear hb hs hn hl hA
  generalize bat W H l = f at *
  go_enter Try.func58, Try.ntmps58
  go_wp2_with (go_at_call 34; (first | (refine (HP0.out _ _).mono ?_) | (refine (HP.out _ _ _).mono ?_)); rintro e w' ⟨rfl, k, rfl⟩)
  go_ret
  exact ⟨rfl, _, rfl⟩

set_option maxHeartbeats 800000 in
theorem c_laplace (g : Nat) (W H b off n c : Nat) (l : List Nat) (x y : Int) (w : World) (hb : BasP w g W H b off n c l)
    (hs : Siz W H) (hn : W * H ≤ n) (hl : W * H ≤ l.length) (hA : AllNum l) (hx : -100 ≤ x) (hx' : x ≤ 100) (hy : -100 ≤ y) (hy' : y ≤ 100)
    (h1 : Num Ieee.single (fadd Ieee.single (bat W H l (x - 1) y) (bat W H l (x + 1) y))) (h2 : Num Ieee.single (fadd Ieee.single (bat W H l x (y - 1)) (bat W H l x (y + 1))))
    (h3 : Num Ieee.single (aroundB W H l x y)) (h4 : Num Ieee.single (fmul Ieee.single 1082130432 (bat W H l x y))) :
    Calls Try.prog 35 #[.pointer (some ⟨g, 0, none⟩), .int .i64 x, .int .i64 y] w fun e w' => e = .returned (.float .f32 (laplaceB W H l x y)) ∧ ∃ n, w' = w.drewN n := by
  unfold laplaceB
  have n1 := bat_num hA hs.a hs.c hl x y
  have n4 : Num Ieee.single 1082130432 := ⟨false, 8388608, -21, by decide⟩
  have HP : Hid (∀ (k : Nat), Calls Try.prog 34 #[.pointer (some ⟨g, 0, none⟩), .int .i64 x, .int .i64 y] (w.drewN k) fun e w' => e = .returned (.float .f32 (bat W H l x y)) ∧ ∃ n, w' = (w.drewN k).drewN n) :=
    fun k => c_at g W H b off n c l x y _ (hb.drewN k) hs.a hs.b hs.c hs.d hn hl
  have HP0 : Hid (Calls Try.prog 58 #[.pointer (some ⟨g, 0, none⟩), .int .i64 x, .int .i64 y] w fun e w' => e = .returned (.float .f32 (aroundB W H l x y)) ∧ ∃ n, w' = w.drewN n) :=
    c_around g W H b off n c l x y w hb hs hn hl hA hx hx' hy hy' h1 h2
  clear hb hs hn hl hA h1 h2
  generalize bat W H l x y = f at *
  generalize aroundB W H l x y = f' at *
  go_enter Try.func35, Try.ntmps35
  go_wp2_with (first | (go_at_call 58; refine HP0.out.mono ?_; rintro e w' ⟨rfl, k, rfl⟩) | (go_at_call 34; refine (HP.out _).mono ?_; rintro e w' ⟨rfl, k, rfl⟩))
  go_ret
  exact ⟨rfl, _, rfl⟩

/-! ## lists -/
set_option maxHeartbeats 800000 in
theorem c_IndexFin (b off n c : Nat) (l : List Nat) (w : World) (hr : FRow w b off l) (hn : n = l.length) (hm : n ≤ 1000000) (hA : AllNum l) :
    Calls Try.prog 76 #[.slice (some ⟨b, off, none⟩) n c, .func (.func 68) #[] #[]] w fun e w' => e = .returned (.int .i64 (-1)) ∧ w = w' := by
  have hc := hr.2
  rw [← hn] at hc
  have hA' : ∀ k, k < n → Num Ieee.single (l.getD k 0) := fun k hk => hA k (by omega)
  clear hr hn hA
  go_enter Try.func76, Try.ntmps76
  go_wp2
  go_loop [8] (fun i => ∃ k : Nat, k ≤ n ∧ i = .int .i64 k) (fun i => n - (intOf i).toNat)
  case atStart => exact ⟨0, Nat.zero_le _, rfl⟩
  case round =>
    obtain ⟨k, hk, rfl⟩ := hrel
    by_cases hlt : k < n
    · have hcell := hc k hlt
      have hnum := hA' k hlt
      generalize l.getD k 0 = v at *
      have HF : Hid (∀ wx : World, Calls Try.prog 68 #[.float .f32 v] wx fun e w' => e = .returned (.bool false) ∧ wx = w') := fun wx => c_finite1 v wx hnum
      clear hc hA' hnum
      go_wp2_with (go_at_call 68; refine (HF.out _).mono ?_; rintro e w' ⟨rfl, rfl⟩)
      go_round
      case rel => exact ⟨k + 1, by omega, by go_num⟩
      case measure => simp [intOf]; omega
    · go_wp2
      go_ret
      exact ⟨rfl, rfl⟩

set_option maxHeartbeats 400000 in
theorem c_ContainsFin (b off n c : Nat) (l : List Nat) (w : World) (hr : FRow w b off l) (hn : n = l.length) (hm : n ≤ 1000000) (hA : AllNum l) :
    Calls Try.prog 67 #[.slice (some ⟨b, off, none⟩) n c, .func (.func 68) #[] #[]] w fun e w' => e = .returned (.bool false) ∧ w = w' := by
  have H := hid (c_IndexFin b off n c l w hr hn hm hA)
  clear hr hn hm hA
  go_enter Try.func67, Try.ntmps67
  go_wp2_with (go_at_call 76; refine H.out.mono ?_; rintro e w' ⟨rfl, rfl⟩)
  go_ret
  exact ⟨rfl, rfl⟩

set_option maxHeartbeats 400000 in
theorem c_finite (b off n c : Nat) (l : List Nat) (w : World) (hr : FRow w b off l) (hn : n = l.length) (hm : n ≤ 1000000) (hA : AllNum l) :
    Calls Try.prog 43 #[.slice (some ⟨b, off, none⟩) n c] w fun e w' => e = .returned (.bool true) ∧ w = w' := by
  have H := hid (c_ContainsFin b off n c l w hr hn hm hA)
  clear hr hn hm hA
  go_enter Try.func43, Try.ntmps43
  go_wp2_with (go_at_call 67; refine H.out.mono ?_; rintro e w' ⟨rfl, rfl⟩)
  go_ret
  exact ⟨rfl, rfl⟩

/-- a basin as a value -/
def bv (W H b off n c : Nat) : Value := .agg #[.int .i64 W, .int .i64 H, .slice (some ⟨b, off, none⟩) n c]

set_option maxHeartbeats 800000 in
theorem c_ValidBasin (W H b off n c : Nat) (l : List Nat) (w : World) (hs : Siz W H) (hr : FRow w b off l) (hn : n = l.length) (hl : l.length = W * H) (hA : AllNum l) :
    Calls Try.prog 16 #[.agg #[.int .i64 W, .int .i64 H, .slice (some ⟨b, off, none⟩) n c]] w fun e w' => e = .returned (.bool true) ∧ Below w.heap.size w w' := by
  have hWH : W * H ≤ 256 := Nat.mul_le_mul hs.b hs.d
  have hE : ((n : Int) == (W : Int) * (H : Int)) = true := beq_iff_eq.2 (by rw [hn, hl, Int.natCast_mul])
  have hb1 : (0 : Int) ≤ (W : Int) * (H : Int) := by omega
  have hb2 : (W : Int) * (H : Int) ≤ 256 := by have := Int.natCast_mul W H; omega
  have HF : Hid (∀ o : Obj, Calls Try.prog 43 #[.slice (some ⟨b, off, none⟩) n c] (w.alloc o) fun e w' => e = .returned (.bool true) ∧ w.alloc o = w') :=
    fun o => c_finite b off n c l _ (hr.alloc o) hn (by omega) hA
  have s1 : (3 : Int) ≤ W := by have := hs.a; omega
  have s2 : (W : Int) ≤ 16 := by have := hs.b; omega
  have s3 : (3 : Int) ≤ H := by have := hs.c; omega
  have s4 : (H : Int) ≤ 16 := by have := hs.d; omega
  have S1 : Hid (∀ wx : World, Calls Try.prog 42 #[.int .i64 (W : Int)] wx fun e w' => e = .returned (.bool true) ∧ wx = w') := fun wx => c_sideOk _ wx s1 s2
  have S2 : Hid (∀ wx : World, Calls Try.prog 42 #[.int .i64 (H : Int)] wx fun e w' => e = .returned (.bool true) ∧ wx = w') := fun wx => c_sideOk _ wx s3 s4
  clear hs hr hn hl hA hWH
  go_enter Try.func16, Try.ntmps16
  go_wp2_with (first | (go_at_call 42; (first | (with_reducible refine (S1.out _).mono ?_) | (with_reducible refine (S2.out _).mono ?_)); rintro e w' ⟨rfl, rfl⟩) | (go_at_call 43; refine (HF.out _).mono ?_; rintro e w' ⟨rfl, rfl⟩))
  go_ret
  exact ⟨rfl, (Below.refl _ _).alloc (Nat.le_refl _) _⟩
end Go.Proofs.Ytihknapgdkladaa
