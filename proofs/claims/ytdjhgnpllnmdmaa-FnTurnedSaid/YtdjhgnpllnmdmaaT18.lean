/- Turned: lists that are turned around. -/
import Derived.Test.YtdjhgnpllnmdmaaT17
set_option linter.unusedVariables false
set_option linter.unusedSectionVars false
set_option linter.unusedSimpArgs false
namespace Go.Proofs.Ytdjhgnpllnmdmaa
open Go.RowKit
theorem w_storeC {P : Program} (w : World) (a : Addr) (m : Mode) (k : FloatKind) (x y : Nat) : (store a (.complex k x y) m).run P w = stored P w a (.complex k x y) m := run_store P w a _ m rfl
attribute [local go_sem] w_storeC r_addD r_subD r_mulD r_divD r_addS r_subS r_mulS r_divS r_wide r_narrow w_store r_neg r_subC r_addC
attribute [local go_sem ↓] Go.wp_at_zero Go.wp_at_succ

def swp {α : Type} (d : α) (l : List α) (i j : Nat) : List α := (l.set i (l.getD j d)).set j (l.getD i d)
/-- the last j swaps of a list of n -/
def revF {α : Type} (d : α) (n : Nat) : Nat → List α → List α
  | 0, l => l
  | j + 1, l => revF d n j (swp d l (n / 2 - (j + 1)) (n - 1 - (n / 2 - (j + 1))))
theorem revF_step {α : Type} (d : α) (n j k : Nat) (l : List α) (hj : 1 ≤ j) (hk : j + k = n / 2) : revF d n j l = revF d n (j - 1) (swp d l k (n - 1 - k)) := by
  obtain ⟨i, rfl⟩ : ∃ i, j = i + 1 := ⟨j - 1, by omega⟩
  have : n / 2 - (i + 1) = k := by omega
  show revF d n i (swp d l (n / 2 - (i + 1)) (n - 1 - (n / 2 - (i + 1)))) = _
  rw [this]
  rfl
theorem swp_length {α : Type} (d : α) (l : List α) (i j : Nat) : (swp d l i j).length = l.length := by simp [swp]
theorem vl_set (l : List Nat) (i x : Nat) : (vl l).set i (.float .f32 x) = vl (l.set i x) := by simp [vl, List.map_set]
theorem cvl_set (l : List (Nat × Nat)) (i : Nat) (x : Nat × Nat) : (cvl l).set i (.complex .f32 x.1 x.2) = cvl (l.set i x) := by simp [cvl, List.map_set]
theorem vl_cell {w : World} {base g n cap : Nat} {l : List Nat} (h : w.ownsRow base 25 1 (.slice (some ⟨g, 0, none⟩) n cap) n (vl l)) (i : Nat) (hi : i < n) : w.cell? ⟨g, i, none⟩ = some (.float .f32 (l.getD i 0)) := by
  have hl : l.length = n := by have := h.1; simpa [vl] using this
  rw [h.cellAt i (by omega)]
  unfold vl
  rw [List.getElem?_map, List.getElem?_eq_getElem (by omega), List.getD_eq_getElem?_getD, List.getElem?_eq_getElem (by omega)]
  rfl
theorem cvl_cell {w : World} {base g n cap : Nat} {l : List (Nat × Nat)} (h : w.ownsRow base 34 1 (.slice (some ⟨g, 0, none⟩) n cap) n (cvl l)) (i : Nat) (hi : i < n) : w.cell? ⟨g, i, none⟩ = some (.complex .f32 (l.getD i (0, 0)).1 (l.getD i (0, 0)).2) := by
  have hl : l.length = n := by have := h.1; simpa [cvl] using this
  rw [h.cellAt i (by omega)]
  unfold cvl
  rw [List.getElem?_map, List.getElem?_eq_getElem (by omega), List.getD_eq_getElem?_getD, List.getElem?_eq_getElem (by omega)]
  rfl

set_option maxHeartbeats 4000000 in
theorem c_ReverseC (base g n cap : Nat) (l : List (Nat × Nat)) (w : World) (hn : n ≤ 48) (h2 : 2 ≤ n) (ho : w.ownsRow base 34 1 (.slice (some ⟨g, 0, none⟩) n cap) n (cvl l)) :
    Calls Try.prog 30 #[.slice (some ⟨g, 0, none⟩) n cap] w fun e w' => e = .returned (.tuple #[]) ∧ w'.ownsRow base 34 1 (.slice (some ⟨g, 0, none⟩) n cap) n (cvl (revF (0, 0) n (n / 2) l)) ∧ w.grownBy w' (some g) := by
  have HO := hid ho
  clear ho
  go_enter Try.func30, Try.ntmps30
  go_wp2_with fail
  go_loopw [2, 3] (fun a b wr => ∃ (k m j : Nat) (lk : List (Nat × Nat)), k + m + 1 = n ∧ j + k = n / 2 ∧ a = .int .i64 k ∧ b = .int .i64 m ∧ revF (0, 0) n j lk = revF (0, 0) n (n / 2) l ∧ wr.ownsRow base 34 1 (.slice (some ⟨g, 0, none⟩) n cap) n (cvl lk) ∧ w.grownBy wr (some g)) (fun a _ _ => n - (intOf a).toNat)
  case atStart => exact ⟨0, n - 1, n / 2, l, by omega, by omega, rfl, by congr 1; omega, rfl, HO.out, only_refl _ _⟩
  case round =>
    clear HO
    obtain ⟨k, m, j, lk, hkm, hjk, rfl, rfl, hr, hown, hg⟩ := hrel
    by_cases hj : 1 ≤ j
    · have hkm2 : k < m := by omega
      have d0 := cvl_cell hown k (by omega)
      have d1 := cvl_cell hown m (by omega)
      have f0 := hown.frozenAt k
      have f1 := hown.frozenAt m
      have hne : k ≠ m := by omega
      have hm1 : m = n - 1 - k := by omega
      have HR : Hid (revF (0, 0) n (j - 1) (swp (0, 0) lk k m) = revF (0, 0) n (n / 2) l) := hid (by rw [← hr, revF_step (0, 0) n j k lk hj hjk, hm1])
      have HOW := hid ((hown.stored k (.complex .f32 (lk.getD m (0, 0)).1 (lk.getD m (0, 0)).2)).1.stored m (.complex .f32 (lk.getD k (0, 0)).1 (lk.getD k (0, 0)).2)).1
      have HG := hid (only_setCell (only_setCell (only_drewN hg 1) (p := ⟨g, k, none⟩) (.inl rfl) (.complex .f32 (lk.getD m (0, 0)).1 (lk.getD m (0, 0)).2)) (p := ⟨g, m, none⟩) (.inl rfl) (.complex .f32 (lk.getD k (0, 0)).1 (lk.getD k (0, 0)).2))
      have HS : Hid ((swp (0, 0) lk k m) = (lk.set k (lk.getD m (0, 0))).set m (lk.getD k (0, 0))) := hid rfl
      clear hr hown hg hm1
      generalize lk.getD k (0, 0) = x at *
      generalize lk.getD m (0, 0) = y at *
      have hk48 : (k : Int) < (n : Int) := by omega
      have hm48 : (m : Int) < (n : Int) := by omega
      have hk0 : (0 : Int) ≤ (k : Int) := by omega
      have hm0 : (0 : Int) ≤ (m : Int) := by omega
      go_wp2_with fail
      go_region_law (fail)
      all_goals
        clear d0 d1 f0 f1 hk48 hm48 hk0 hm0
        go_wp2
        go_roundw
        case rel =>
          refine ⟨k + 1, m - 1, j - 1, swp (0, 0) lk k m, by omega, by omega, by go_num, ?_, HR.out, ?_, HG.out⟩
          · congr 1; omega
          · rw [HS.out, ← cvl_set, ← cvl_set]
            exact HOW.out
        case measure => simp [intOf]; omega
    · obtain rfl : j = 0 := by omega
      have HOW := hid hown
      have HG := hid hg
      have HR : Hid (lk = revF (0, 0) n (n / 2) l) := hid hr
      clear hr hown hg
      go_wp2_with fail
      go_end0
      refine ⟨rfl, ?_, HG.out⟩
      rw [← HR.out]
      exact HOW.out

set_option maxHeartbeats 4000000 in
theorem c_ReverseF (base g n cap : Nat) (l : List Nat) (w : World) (hn : n ≤ 48) (h2 : 2 ≤ n) (ho : w.ownsRow base 25 1 (.slice (some ⟨g, 0, none⟩) n cap) n (vl l)) :
    Calls Try.prog 31 #[.slice (some ⟨g, 0, none⟩) n cap] w fun e w' => e = .returned (.tuple #[]) ∧ w'.ownsRow base 25 1 (.slice (some ⟨g, 0, none⟩) n cap) n (vl (revF 0 n (n / 2) l)) ∧ w.grownBy w' (some g) := by
  have HO := hid ho
  clear ho
  go_enter Try.func31, Try.ntmps31
  go_wp2_with fail
  go_loopw [2, 3] (fun a b wr => ∃ (k m j : Nat) (lk : List Nat), k + m + 1 = n ∧ j + k = n / 2 ∧ a = .int .i64 k ∧ b = .int .i64 m ∧ revF 0 n j lk = revF 0 n (n / 2) l ∧ wr.ownsRow base 25 1 (.slice (some ⟨g, 0, none⟩) n cap) n (vl lk) ∧ w.grownBy wr (some g)) (fun a _ _ => n - (intOf a).toNat)
  case atStart => exact ⟨0, n - 1, n / 2, l, by omega, by omega, rfl, by congr 1; omega, rfl, HO.out, only_refl _ _⟩
  case round =>
    clear HO
    obtain ⟨k, m, j, lk, hkm, hjk, rfl, rfl, hr, hown, hg⟩ := hrel
    by_cases hj : 1 ≤ j
    · have hkm2 : k < m := by omega
      have d0 := vl_cell hown k (by omega)
      have d1 := vl_cell hown m (by omega)
      have f0 := hown.frozenAt k
      have f1 := hown.frozenAt m
      have hne : k ≠ m := by omega
      have hm1 : m = n - 1 - k := by omega
      have HR : Hid (revF 0 n (j - 1) (swp 0 lk k m) = revF 0 n (n / 2) l) := hid (by rw [← hr, revF_step 0 n j k lk hj hjk, hm1])
      have HOW := hid ((hown.stored k (.float .f32 (lk.getD m 0))).1.stored m (.float .f32 (lk.getD k 0))).1
      have HG := hid (only_setCell (only_setCell (only_drewN hg 1) (p := ⟨g, k, none⟩) (.inl rfl) (.float .f32 (lk.getD m 0))) (p := ⟨g, m, none⟩) (.inl rfl) (.float .f32 (lk.getD k 0)))
      have HS : Hid ((swp 0 lk k m) = (lk.set k (lk.getD m 0)).set m (lk.getD k 0)) := hid rfl
      clear hr hown hg hm1
      generalize lk.getD k 0 = x at *
      generalize lk.getD m 0 = y at *
      have hk48 : (k : Int) < (n : Int) := by omega
      have hm48 : (m : Int) < (n : Int) := by omega
      have hk0 : (0 : Int) ≤ (k : Int) := by omega
      have hm0 : (0 : Int) ≤ (m : Int) := by omega
      go_wp2_with fail
      go_region_law (fail)
      all_goals
        clear d0 d1 f0 f1 hk48 hm48 hk0 hm0
        go_wp2
        go_roundw
        case rel =>
          refine ⟨k + 1, m - 1, j - 1, swp 0 lk k m, by omega, by omega, by go_num, ?_, HR.out, ?_, HG.out⟩
          · congr 1; omega
          · rw [HS.out, ← vl_set, ← vl_set]
            exact HOW.out
        case measure => simp [intOf]; omega
    · obtain rfl : j = 0 := by omega
      have HOW := hid hown
      have HG := hid hg
      have HR : Hid (lk = revF 0 n (n / 2) l) := hid hr
      clear hr hown hg
      go_wp2_with fail
      go_end0
      refine ⟨rfl, ?_, HG.out⟩
      rw [← HR.out]
      exact HOW.out
end Go.Proofs.Ytdjhgnpllnmdmaa
