/- Basins: a clone; a spin that is put. -/
import Derived.Test.YtihknapgdkladaaB9
import Derived.Lib.SliceRun
import Derived.Deep.DeepCutAuto
import Derived.Deep.RegionLaw
set_option linter.unusedVariables false
set_option linter.unusedSectionVars false
set_option linter.unusedSimpArgs false
namespace Go.Proofs.Ytihknapgdkladaa
open Go.RowKit Fl
attribute [local go_sem] w_add w_sub w_mul w_store
attribute [local go_sem ↓] Go.wp_at_zero Go.wp_at_succ

/-- a row of the call's own -/
def OwnF (w : World) (base g n cap : Nat) (l : List Nat) : Prop := w.ownsRow base 32 1 (.slice (some ⟨g, 0, none⟩) n cap) n (vl l) ∧ g < w.heap.size ∧ base ≤ g

set_option maxRecDepth 100000 in
set_option maxHeartbeats 1000000 in
theorem c_Clone (b off n c : Nat) (l : List Nat) (w : World) (hr : FRow w b off l) (hn : n = l.length) (h0 : 0 < n) (hm : n ≤ 1000000) :
    Calls Try.prog 47 #[.slice (some ⟨b, off, none⟩) n c] w fun e w' => ∃ g cap, e = .returned (.slice (some ⟨g, 0, none⟩) n cap) ∧ OwnF w' w.heap.size g n cap l ∧ Below w.heap.size w w' := by
  obtain ⟨i0, hi0, hz0, hz1, hz2⟩ := info_parts info_f32
  have he : ∀ wx : World, (binOp .eql 24 (.slice (some ⟨b, off, none⟩) n c) (.slice none 0 0)).run Try.prog wx = .ok (.bool false) wx := fun wx => Lib.run_eql_slice_nil wx _ _ _ _ _ _ _ Try.underlying24
  have hl1 : Hid ((vl l).length = n * 1) := by unfold vl; rw [List.length_map, Nat.mul_one]; exact hn.symm
  have hnews : Hid (∀ (o : Obj) (j : Nat) (u : Value), (vl l)[j]? = some u → (w.alloc o).cell? ((⟨b, off, none⟩ : Addr).add j) = some u) := by
    intro o j u hu
    have hj : j < l.length := by
      have := (List.getElem?_eq_some_iff.1 hu).1
      unfold vl at this; simpa using this
    have h2 := (hr.alloc o).2 j hj
    have hadd : (⟨b, off, none⟩ : Addr).add j = ⟨b, off + j, none⟩ := by unfold Addr.add; split <;> simp_all
    rw [hadd, h2]
    unfold vl at hu
    rw [List.getElem?_map, List.getElem?_eq_getElem hj] at hu
    rw [List.getD_eq_getElem?_getD, List.getElem?_eq_getElem hj]
    exact hu
  have h1 : Hid (∀ u ∈ vl l, u.oneCell' = true) := by
    intro u hu
    unfold vl at hu
    obtain ⟨x, _, rfl⟩ := List.mem_map.1 hu
    rfl
  have hmx : Hid (0 + n ≤ maxLen) := hid (Nat.le_trans (by omega : 0 + n ≤ 1000000) (by decide))
  have hby : Hid ((0 + n) * 4 ≤ 140737488355328) := hid (by omega)
  clear hr hn
  go_enter Try.func47, Try.ntmps47
  go_wp2_with (at_builtin; refine wpList_append_lies _ rfl (.tmp 5) (.tmp 6) _ rfl w.heap.size 32 i0 _ 1 4 Try.underlying24 hi0 hz0 hz1 hz2 rfl Nat.one_pos _ 0 [] (by rfl) (World.ownsRow_lit w #[] 0 (Nat.le_refl _) (Nat.zero_le _) rfl) ⟨b, off, none⟩ n c (vl l) (by rfl) hl1.out (hnews.out _) h1.out h0 hmx.out hby.out (by simp) (w.heap.size + 1) (World.size_alloc _ _) ?_; intro g cap w1 hown hgrow hat hlt)
  rw [Nat.zero_add, List.nil_append] at hown
  go_ret
  refine ⟨g, cap, rfl, ⟨hown, hlt, (hown.lt g rfl).1⟩, ?_⟩
  refine ((Below.refl _ w).alloc (Nat.le_refl _) _).grown hgrow (by simp) (fun k hk => ?_)
  simp [Value.ownBlock] at hk
  omega

theorem OwnF.row {w : World} {base g n cap : Nat} {l : List Nat} (h : OwnF w base g n cap l) (hn : n = l.length) : FRow w g 0 l := frow_of_own h.1 hn h.2.1
theorem OwnF.below {w w' : World} {base g n cap : Nat} {l : List Nat} (h : OwnF w base g n cap l) (hb : Below w.heap.size w w') : OwnF w' base g n cap l := ⟨own_below h.1 hb, Nat.lt_of_lt_of_le h.2.1 hb.size, h.2.2⟩
theorem OwnF.alloc {w : World} {base g n cap : Nat} {l : List Nat} (h : OwnF w base g n cap l) (o : Obj) : OwnF (w.alloc o) base g n cap l := ⟨h.1.alloc o, by have := h.2.1; simp; omega, h.2.2⟩
theorem OwnF.setCell {w : World} {base g n cap : Nat} {l : List Nat} (h : OwnF w base g n cap l) {p : Addr} (hp : g ≠ p.block) (u : Value) : OwnF (w.setCell p u) base g n cap l :=
  ⟨own_setCell h.1 (by intro e; apply hp; simpa [Value.ownBlock] using e) u, by have := h.2.1; simpa [World.setCell] using this, h.2.2⟩
theorem OwnF.frozen {w : World} {base g n cap : Nat} {l : List Nat} (h : OwnF w base g n cap l) (j : Nat) : w.frozen? ⟨g, j, none⟩ = false := h.1.frozenAt j
theorem FRow.set {w : World} {g : Nat} {l : List Nat} (h : FRow w g 0 l) (i : Nat) (_ : i < l.length) (v : Nat) : FRow (w.setCell ⟨g, i, none⟩ (.float .f32 v)) g 0 (l.set i v) := by
  refine ⟨by have := h.1; simpa [World.setCell] using this, fun j hj => ?_⟩
  rw [List.length_set] at hj
  have hc := h.2 j hj
  rw [Nat.zero_add] at hc ⊢
  by_cases hij : i = j
  · subst hij
    rw [World.cell?_setCell_same w _ _ hc]
    rw [List.getD_eq_getElem?_getD, List.getElem?_set_self hj]
    rfl
  · rw [World.cell?_setCell_other w _ _ _ (by intro e; injection e with _ e2; exact hij e2), hc, List.getD_eq_getElem?_getD, List.getD_eq_getElem?_getD, List.getElem?_set_ne hij]

set_option maxRecDepth 100000 in
set_option maxHeartbeats 2000000 in
theorem c_PutSpin (W H b off n c : Nat) (l : List Nat) (x y : Int) (v : Nat) (w : World) (hi : InB w W H b off n l) (h1 : 0 ≤ x) (h2 : x ≤ (W : Int) - 1) (h3 : 0 ≤ y) (h4 : y ≤ (H : Int) - 1) (hv : Num Ieee.single v) :
    Calls Try.prog 20 #[.agg #[.int .i64 W, .int .i64 H, .slice (some ⟨b, off, none⟩) n c], .int .i64 x, .int .i64 y, .float .f32 v] w (MadeT w W H (l.set (plc W H x y) v)) := by
  have hsz : W * H ≤ 16 * 16 := Nat.mul_le_mul hi.siz.b hi.siz.d
  have hsz9 : 3 * 3 ≤ W * H := Nat.mul_le_mul hi.siz.a hi.siz.c
  have hnw := hi.nl
  have hlen := hi.len
  have hplc := (plc_cast W H x y hi.siz.a hi.siz.c).2
  have hnum' : AllNum (l.set (plc W H x y) v) := by
    intro i hi'
    rw [List.length_set] at hi'
    rw [List.getD_eq_getElem?_getD]
    by_cases he : plc W H x y = i
    · subst he; rw [List.getElem?_set_self hi']; exact hv
    · rw [List.getElem?_set_ne he, ← List.getD_eq_getElem?_getD]; exact hi.num i hi'
  have HH : Hid (∀ o : Obj, Calls Try.prog 46 #[.pointer (some ⟨w.heap.size, 0, none⟩), .int .i64 x, .int .i64 y] ((w.alloc (.cells #[.int .i64 W, .int .i64 H, .slice (some ⟨b, off, none⟩) n c] 26)).alloc o) fun e w' => e = .returned (.bool true) ∧ Below ((w.alloc (.cells #[.int .i64 W, .int .i64 H, .slice (some ⟨b, off, none⟩) n c] 26)).alloc o).heap.size ((w.alloc (.cells #[.int .i64 W, .int .i64 H, .slice (some ⟨b, off, none⟩) n c] 26)).alloc o) w') :=
    fun o => c_has w.heap.size W H b off n c l x y _ (basp_of ((Blk.new w 26 #[.int .i64 W, .int .i64 H, .slice (some ⟨b, off, none⟩) n c]).alloc o) ((hi.row.alloc _).alloc o)) hi.siz hi.nl hi.len hi.num h1 h2 h3 h4
  have HC : Hid (∀ wx : World, Below w.heap.size w wx → Calls Try.prog 47 #[.slice (some ⟨b, off, none⟩) n c] wx fun e w' => ∃ g cap, e = .returned (.slice (some ⟨g, 0, none⟩) n cap) ∧ OwnF w' wx.heap.size g n cap l ∧ Below wx.heap.size wx w') :=
    fun wx hb => c_Clone b off n c l wx (hi.below hb).row hi.nl (by omega) (by omega)
  have HP : Hid (∀ wx : World, wx.cell? ⟨w.heap.size, 0, none⟩ = some (.int .i64 W) → wx.cell? ⟨w.heap.size, 1, none⟩ = some (.int .i64 H) → Calls Try.prog 48 #[.pointer (some ⟨w.heap.size, 0, none⟩), .int .i64 x, .int .i64 y] wx fun e w' => e = .returned (.int .i64 (plc W H x y)) ∧ ∃ n, w' = wx.drewN n) :=
    fun wx q0 q1 => c_place w.heap.size W H x y wx q0 q1 hi.siz.a hi.siz.b hi.siz.c hi.siz.d
  have HT : Hid (∀ (wx : World) (gg cp : Nat), FRow wx gg 0 (l.set (plc W H x y) v) → Calls Try.prog 49 #[.agg #[.int .i64 W, .int .i64 H, .slice (some ⟨gg, 0, none⟩) n cp]] wx fun e w' =>
      e = .returned (.tuple #[.agg #[.int .i64 W, .int .i64 H, .slice (some ⟨gg, 0, none⟩) n cp], .bool true]) ∧ Below wx.heap.size wx w') :=
    fun wx gg cp hr => c_toldBasin W H gg 0 n cp _ wx hi.siz hr (by rw [List.length_set]; exact hi.nl) (by rw [List.length_set]; exact hi.len) hnum'
  have hidx : (plc W H x y : Int) < n := by omega
  have hidx0 : (0 : Int) ≤ plc W H x y := by omega
  have hpl2 : plc W H x y < l.length := by omega
  have Hnl := hid hi.nl
  have Hnl2 : Hid (n = W * H) := hid (by omega)
  clear hi hnum' h1 h2 h3 h4 hv hsz hsz9 hnw hlen hplc
  generalize plc W H x y = i at *
  go_enter Try.func20, Try.ntmps20
  go_wp2_with fail
  refine (HH.out _).mono ?_
  rintro e w1 ⟨rfl, hb1⟩
  obtain ⟨q0, q1, qs, hbel⟩ := blocks2 hb1
  have d0 : w1.cell? ⟨w.heap.size, 0, none⟩ = some (.int .i64 W) := q0.cell 0
  have d1 : w1.cell? ⟨w.heap.size, 1, none⟩ = some (.int .i64 H) := q0.cell 1
  have d2 : w1.cell? ⟨w.heap.size, 2, none⟩ = some (.slice (some ⟨b, off, none⟩) n c) := q0.cell 2
  have HQ0 := hid q0
  have HQ1 := hid q1
  have HB := hid hbel
  have nn : w1.heap.size ≠ w.heap.size := by omega
  clear hb1 q0 q1 hbel
  go_upto_region 3 with fail
  go_cut [10] (fun s wx => ∃ gb g cap : Nat, s = .pointer (some ⟨gb, 0, none⟩) ∧ Blk wx gb 26 #[.int .i64 W, .int .i64 H, .slice (some ⟨g, 0, none⟩) n cap] ∧ (∃ bs, w.heap.size + 2 ≤ bs ∧ OwnF wx bs g n cap l) ∧ gb ≠ g ∧ w.heap.size + 1 < gb ∧
    Blk wx w.heap.size 26 #[.int .i64 W, .int .i64 H, .slice (some ⟨b, off, none⟩) n c] ∧ Blk wx (w.heap.size + 1) 26 #[.int .i64 0, .int .i64 0, .slice none 0 0] ∧ Below w.heap.size w wx)
  case first =>
    go_region_held3 (fun w' => w'.cell? ⟨w.heap.size, 0, none⟩ = some (.int .i64 W) ∧ w'.cell? ⟨w.heap.size, 1, none⟩ = some (.int .i64 H) ∧ w'.cell? ⟨w.heap.size, 2, none⟩ = some (.slice (some ⟨b, off, none⟩) n c)) (go_keep)
      (first | (go_at_call 47; refine (HC.out _ ?_).mono ?_; (first | exact HB.out.drew | exact (HB.out.alloc HB.out.size _).drew); rintro e w2 ⟨g, cap, rfl, hown, hb2⟩
                have hq : Blk w2 w.heap.size 26 #[.int .i64 W, .int .i64 H, .slice (some ⟨b, off, none⟩) n c] := by first | exact HQ0.out.drew.below' hb2 | exact (HQ0.out.alloc _).drew.below' hb2
                have e0 : w2.cell? ⟨w.heap.size, 0, none⟩ = some (.int .i64 W) := hq.cell 0
                have e1 : w2.cell? ⟨w.heap.size, 1, none⟩ = some (.int .i64 H) := hq.cell 1
                have e2 : w2.cell? ⟨w.heap.size, 2, none⟩ = some (.slice (some ⟨b, off, none⟩) n c) := hq.cell 2
                have HQ := hid hq
                have HOwn := hid hown
                have HB2 := hid hb2
                have hsz1 : w1.heap.size ≤ w2.heap.size := by first | exact hb2.size | exact Nat.le_trans (by simp) hb2.size
                have hsz2 : w.heap.size + 1 < w2.heap.size := by omega
                (first | (have hz : Blk w2 w1.heap.size 26 #[.int .i64 0, .int .i64 0, .slice none 0 0] := (Blk.new w1 26 _).drew.below' hb2
                          obtain ⟨z0, fz⟩ := hz.all
                          have HZ := hid hz
                          clear hz) | skip)
                have nn2 : w2.heap.size ≠ w.heap.size := by omega
                clear hq hown hb2))
    · go_wp2_with fail
      go_meet
      have o1 := HOwn.out
      have o2 : g < w2.heap.size := o1.2.1
      have o3 : w1.heap.size ≤ g := o1.2.2
      refine ⟨w2.heap.size, g, cap, rfl, ?_, ⟨_, ?_, o1.alloc _⟩, by omega, by omega, HQ.out.alloc _, (HQ1.out.drew.below' HB2.out).alloc _, ?_⟩
      · exact Blk.new w2 _ _
      · exact qs
      · exact (HB.out.drew.trans (HB2.out.mono HB.out.size)).alloc (Nat.le_trans HB.out.size hsz1) _
    · go_wp2_with fail
      go_meet
      have o1 := HOwn.out
      have o3 : w1.heap.size + 1 ≤ g := by have h := o1.2.2; rw [show (w1.alloc (.cells #[.int .i64 0, .int .i64 0, .slice none 0 0] 26)).drew.heap.size = w1.heap.size + 1 from World.size_alloc _ _] at h; exact h
      have hBA := (HB.out.alloc HB.out.size (.cells #[.int .i64 0, .int .i64 0, .slice none 0 0] 26)).drew
      refine ⟨w1.heap.size, g, cap, rfl, ?_, ⟨_, ?_, ((o1.setCell (by simp; omega) _).setCell (by simp; omega) _).setCell (by simp; omega) _⟩, by omega, qs, ?_, ?_, ?_⟩
      · exact ((HZ.out.set_ 0 _).set_ 1 _).set_ 2 _
      · rw [show (w1.alloc (.cells #[.int .i64 0, .int .i64 0, .slice none 0 0] 26)).drew.heap.size = w1.heap.size + 1 from World.size_alloc _ _]; omega
      · exact ((HQ.out.far (by simp; omega) _).far (by simp; omega) _).far (by simp; omega) _
      · exact ((((HQ1.out.alloc _).drew.below' HB2.out).far (by simp; omega) _).far (by simp; omega) _).far (by simp; omega) _
      · exact (((hBA.trans (HB2.out.mono hBA.size)).setCell (by simp; omega) _).setCell (by simp; omega) _).setCell (by simp; omega) _
  case rest =>
    obtain ⟨gb, g, cap, rfl, hB, ⟨bs, hbs, hO⟩, hne, hgb, hQ, hQ1, hBel⟩ := hcut
    have c2 : wc.cell? ⟨gb, 2, none⟩ = some (.slice (some ⟨g, 0, none⟩) n cap) := hB.cell 2
    have q0 : wc.cell? ⟨w.heap.size, 0, none⟩ = some (.int .i64 W) := hQ.cell 0
    have q1 : wc.cell? ⟨w.heap.size, 1, none⟩ = some (.int .i64 H) := hQ.cell 1
    have hR0 := hO.row Hnl.out
    have hci : wc.cell? ⟨g, i, none⟩ = some (.float .f32 (l.getD i 0)) := by have h := hR0.2 i hpl2; rwa [Nat.zero_add] at h
    have hfi : wc.frozen? ⟨g, i, none⟩ = false := hO.frozen i
    have hgl : gb < wc.heap.size := hB.lt
    have HR0 := hid hR0
    have HO := hid hO
    have HB' := hid hB
    have HQ' := hid hQ
    have HQ1' := hid hQ1
    have HBel := hid hBel
    clear hR0 hO hB hQ hQ1 hBel HH HC d0 d1 d2 HQ0 HQ1
    go_wp2_with fail
    go_region_held3 (fun w' => w'.cell? ⟨gb, 2, none⟩ = some (.slice (some ⟨g, 0, none⟩) n cap)) (first | go_keep | (rw [World.cell?_setCell_other _ _ _ _ (fun e => hne (congrArg Addr.block e).symm)]; exact c2) | (rw [World.cell?_setCell_other _ _ _ _ (fun e => hne (congrArg Addr.block e))]; exact c2))
      (first | (go_at_call 48; refine (HP.out _ ?_ ?_).mono ?_; exact q0; exact q1; rintro e w' ⟨rfl, k, rfl⟩))
    have g3 : w.heap.size + 1 < g := by have h1 := HO.out.2.2; omega
    have hB2 : Blk ((wc.drewN (1 + k)).setCell ⟨g, i, none⟩ (.float .f32 v)) gb 26 #[.int .i64 W, .int .i64 H, .slice (some ⟨g, 0, none⟩) n cap] := (HB'.out.drewN (1 + k)).far hne _
    have hQ2 : Blk ((wc.drewN (1 + k)).setCell ⟨g, i, none⟩ (.float .f32 v)) (w.heap.size + 1) 26 #[.int .i64 0, .int .i64 0, .slice none 0 0] := (HQ1'.out.drewN (1 + k)).far (by simp; omega) _
    have hb3 : Below w.heap.size w ((wc.drewN (1 + k)).setCell ⟨g, i, none⟩ (.float .f32 v)) := (below_drewN HBel.out (1 + k)).setCell (by simp; omega) _
    have hR3 := (HR0.out.drewN (1 + k)).set i hpl2 v
    have e0 := hB2.cell 0
    have e1 := hB2.cell 1
    have e2 := hB2.cell 2
    have HB3 := hid hb3
    have HQ3 := hid hQ2
    have HR3 := hid hR3
    clear hB2 hQ2 hb3 hR3 c2 q0 q1 hci hfi
    obtain ⟨wd, hwd⟩ : ∃ wd, (wc.drewN (1 + k)).setCell ⟨g, i, none⟩ (.float .f32 v) = wd := ⟨_, rfl⟩
    rw [hwd] at e0 e1 e2 HB3 HQ3 HR3 ⊢
    clear hwd
    go_wp2_with fail
    refine (HT.out _ _ _ HR3.out).mono ?_
    rintro e w3 ⟨rfl, hb4⟩
    obtain ⟨z1, y1⟩ := (HQ3.out.below' hb4).all
    have HB4 := hid hb4
    clear hb4
    go_wp2_with fail
    refine bodyPost_ret (v := .tuple #[.agg #[.int .i64 W, .int .i64 H, .slice (some ⟨g, 0, none⟩) n cap], .bool true]) (by simp [results, Try.results20, go_sem, z1]) rfl ⟨g, cap, by rw [Hnl2.out], ?_, by omega, ?_⟩
    · have h4 := HR3.out.below HB4.out HR3.out.1
      exact ((h4.setCell (by simp; omega) _).setCell (by simp; omega) _).setCell (by simp; omega) _
    · have h4 := HB3.out.trans (HB4.out.mono HB3.out.size)
      exact ((h4.setCell (by simp) _).setCell (by simp) _).setCell (by simp) _

end Go.Proofs.Ytihknapgdkladaa
