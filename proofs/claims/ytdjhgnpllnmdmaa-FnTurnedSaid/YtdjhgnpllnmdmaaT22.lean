/- Turned: what is reckoned of one ring. -/
import Derived.Test.YtdjhgnpllnmdmaaT21
set_option linter.unusedVariables false
set_option linter.unusedSectionVars false
set_option linter.unusedSimpArgs false
namespace Go.Proofs.Ytdjhgnpllnmdmaa
open Go.RowKit

def eqO (o : Option Nat) (a : Nat) : Bool := match o with | some b => Nat.beq b a | none => false
def eqP (o : Option (Nat × Nat)) (p : Nat × Nat) : Bool := match o with | some q => and (Nat.beq q.1 p.1) (Nat.beq q.2 p.2) | none => false
def eqL : List (Nat × Nat) → List (Nat × Nat) → Bool
  | [], [] => true
  | p :: l, q :: m => and (and (Nat.beq p.1 q.1) (Nat.beq p.2 q.2)) (eqL l m)
  | _, _ => false
def eqS (o : Option (List (Nat × Nat))) (l : List (Nat × Nat)) : Bool := match o with | some m => eqL m l | none => false
def ltB (o : Option Ordering) : Bool := match o with | some .lt => true | _ => false
def gtB (o : Option Ordering) : Bool := match o with | some .gt => true | _ => false
def finCB : List (Nat × Nat) → Bool
  | [] => true
  | p :: l => and (and (finS p.1) (finS p.2)) (finCB l)
def finLB : List Nat → Bool
  | [] => true
  | p :: l => and (finS p) (finLB l)

theorem beq_eq {a b : Nat} (h : Nat.beq a b = true) : a = b := Nat.eq_of_beq_eq_true h
theorem eqO_eq {o : Option Nat} {a : Nat} (h : eqO o a = true) : o = some a := by
  unfold eqO at h
  split at h
  · rw [beq_eq h]
  · cases h
theorem eqP_eq {o : Option (Nat × Nat)} {p : Nat × Nat} (h : eqP o p = true) : o = some p := by
  unfold eqP at h
  split at h
  · rw [Bool.and_eq_true] at h
    exact congrArg some (Prod.ext (beq_eq h.1) (beq_eq h.2))
  · cases h
theorem eqL_eq : ∀ {l m : List (Nat × Nat)}, eqL l m = true → l = m
  | [], [], _ => rfl
  | p :: l, q :: m, h => by
    unfold eqL at h
    rw [Bool.and_eq_true, Bool.and_eq_true] at h
    rw [show p = q from Prod.ext (beq_eq h.1.1) (beq_eq h.1.2), eqL_eq h.2]
  | [], _ :: _, h => by cases h
  | _ :: _, [], h => by cases h
theorem eqS_eq {o : Option (List (Nat × Nat))} {l : List (Nat × Nat)} (h : eqS o l = true) : o = some l := by
  unfold eqS at h
  split at h
  · rw [eqL_eq h]
  · cases h
theorem ltB_eq {o : Option Ordering} (h : ltB o = true) : o = some .lt := by
  unfold ltB at h
  split at h
  · rfl
  · cases h
theorem gtB_eq {o : Option Ordering} (h : gtB o = true) : o = some .gt := by
  unfold gtB at h
  split at h
  · rfl
  · cases h
theorem finCB_eq : ∀ {l : List (Nat × Nat)}, finCB l = true → FinC l
  | [], _ => fun i hi => absurd hi (Nat.not_lt_zero i)
  | p :: l, h => by
    unfold finCB at h
    rw [Bool.and_eq_true, Bool.and_eq_true] at h
    intro i hi
    cases i with
    | zero => exact h.1
    | succ i => exact finCB_eq h.2 i (by simpa using hi)
theorem finLB_eq : ∀ {l : List Nat}, finLB l = true → FinL l
  | [], _ => fun i hi => absurd hi (Nat.not_lt_zero i)
  | p :: l, h => by
    unfold finLB at h
    rw [Bool.and_eq_true] at h
    intro i hi
    cases i with
    | zero => exact h.1
    | succ i => exact finLB_eq h.2 i (by simpa using hi)

/-- a double is nearer to c than t -/
def nearD (x c t : Nat) : Bool := match gapO x c with | some g => ltB (Q.ordD g t) | none => false
theorem nearD_eq {x c t : Nat} (h : nearD x c t = true) : ∃ g, gapO x c = some g ∧ Q.ordD g t = some .lt := by
  unfold nearD at h
  split at h
  · exact ⟨_, by assumption, ltB_eq h⟩
  · cases h
def nearS (a c t : Nat) : Bool := match Q.wide a with | some x => Q.st x fun x => nearD x c t | none => false
theorem nearS_eq {a c t : Nat} (h : nearS a c t = true) : ∃ x g, Q.wide a = some x ∧ gapO x c = some g ∧ Q.ordD g t = some .lt := by
  unfold nearS at h
  split at h
  · rw [Q.st_eq] at h
    obtain ⟨g, h1, h2⟩ := nearD_eq h
    exact ⟨_, g, by assumption, h1, h2⟩
  · cases h

/-- a round of the law's loop -/
def lawStep (n b : Nat) (p t : Nat × Nat) (s : Nat) : Option Nat :=
  (Q.wide b).bind fun wb => (Q.addD s wb).bind fun s' => (Q.mulD wb (Q.ofNatD n)).bind fun m =>
  cond (nearD m 4607182418800017408 4576918229304087675) ((apartO p.1 p.2 t.1 t.2).bind fun d => cond (ltB (Q.ordD d 4562254508917369340)) (some s') none) none
theorem lawStep_some {n b s s' : Nat} {p t : Nat × Nat} (h : lawStep n b p t s = some s') : ∃ wb m g d, Q.wide b = some wb ∧ Q.addD s wb = some s' ∧ Q.mulD wb (Q.ofNatD n) = some m ∧ gapO m 4607182418800017408 = some g ∧ Q.ordD g 4576918229304087675 = some .lt ∧
    apartO p.1 p.2 t.1 t.2 = some d ∧ Q.ordD d 4562254508917369340 = some .lt := by
  unfold lawStep at h
  obtain ⟨wb, h1, h⟩ := bind_some h
  obtain ⟨s2, h2, h⟩ := bind_some h
  obtain ⟨m, h3, h⟩ := bind_some h
  cases hn : nearD m 4607182418800017408 4576918229304087675
  · rw [hn] at h; cases h
  rw [hn, cond_true] at h
  obtain ⟨d, h4, h⟩ := bind_some h
  cases hl : ltB (Q.ordD d 4562254508917369340)
  · rw [hl] at h; cases h
  rw [hl, cond_true] at h
  obtain rfl : s2 = s' := Option.some.inj h
  obtain ⟨g, g1, g2⟩ := nearD_eq hn
  exact ⟨wb, m, g, d, h1, h2, h3, g1, g2, h4, ltB_eq hl⟩
def lawF (n : Nat) (B : List Nat) (W T : List (Nat × Nat)) : Nat → Nat → Option Nat
  | 0, s => some s
  | j + 1, s => (lawStep n (B.getD (n - (j + 1)) 0) (W.getD (n - (j + 1)) (0, 0)) (T.getD (n - (j + 1)) (0, 0)) s).bind fun s' => Q.st s' fun s' => lawF n B W T j s'
theorem lawF_step (n j i s : Nat) (B : List Nat) (W T : List (Nat × Nat)) (hj : 1 ≤ j) (hi : j + i = n) : lawF n B W T j s = (lawStep n (B.getD i 0) (W.getD i (0, 0)) (T.getD i (0, 0)) s).bind fun s' => lawF n B W T (j - 1) s' := by
  obtain ⟨k, rfl⟩ : ∃ k, j = k + 1 := ⟨j - 1, by omega⟩
  have : n - (k + 1) = i := by omega
  show (lawStep n (B.getD (n - (k + 1)) 0) (W.getD (n - (k + 1)) (0, 0)) (T.getD (n - (k + 1)) (0, 0)) s).bind _ = _
  rw [this]
  simp only [Q.st_eq]
  rfl
def lawB (n : Nat) (B : List Nat) (W T : List (Nat × Nat)) : Bool := match lawF n B W T n 0 with | some s => Q.st s fun s => nearD s 4607182418800017408 4562254508917369340 | none => false
theorem lawB_eq {n : Nat} {B : List Nat} {W T : List (Nat × Nat)} (h : lawB n B W T = true) : ∃ s g, lawF n B W T n 0 = some s ∧ gapO s 4607182418800017408 = some g ∧ Q.ordD g 4562254508917369340 = some .lt := by
  unfold lawB at h
  split at h
  · rw [Q.st_eq] at h
    obtain ⟨g, h1, h2⟩ := nearD_eq h
    exact ⟨_, g, by assumption, h1, h2⟩
  · cases h

def ringB (n r : Nat) : Nat → List (Nat × Nat) → Bool
  | _, [] => true
  | k, p :: l => and (eqP (ringPt n r k) p) (ringB n r (k + 1) l)
theorem ringB_eq (n r : Nat) : ∀ (k : Nat) (l : List (Nat × Nat)), ringB n r k l = true → ∀ j, j < l.length → ringPt n r (k + j) = some (l.getD j (0, 0))
  | _, [], _ => fun j hj => absurd hj (Nat.not_lt_zero j)
  | k, p :: l, h => by
    unfold ringB at h
    rw [Bool.and_eq_true] at h
    intro j hj
    cases j with
    | zero => exact eqP_eq h.1
    | succ j =>
      have h2 := ringB_eq n r (k + 1) l h.2 j (by simpa using hj)
      rw [show k + 1 + j = k + (j + 1) by omega] at h2
      exact h2
def bendB (n : Nat) (T : List (Nat × Nat)) : Nat → List Nat → Bool
  | _, [] => true
  | k, p :: l => and (eqO (bendO (T.getD k (0, 0)) (T.getD (Nat.mod (k + 1) n) (0, 0)) (T.getD (Nat.mod (k + n - 1) n) (0, 0))) p) (bendB n T (k + 1) l)
theorem bendB_eq (n : Nat) (T : List (Nat × Nat)) : ∀ (k : Nat) (l : List Nat), bendB n T k l = true → ∀ j, j < l.length → bendO (T.getD (k + j) (0, 0)) (T.getD ((k + j + 1) % n) (0, 0)) (T.getD ((k + j + n - 1) % n) (0, 0)) = some (l.getD j 0)
  | _, [], _ => fun j hj => absurd hj (Nat.not_lt_zero j)
  | k, p :: l, h => by
    unfold bendB at h
    rw [Bool.and_eq_true] at h
    intro j hj
    cases j with
    | zero => exact eqO_eq h.1
    | succ j =>
      have h2 := bendB_eq n T (k + 1) l h.2 j (by simpa using hj)
      rw [show k + 1 + j = k + (j + 1) by omega] at h2
      exact h2

def caseB (n q r : Nat) (T : List (Nat × Nat)) (B : List Nat) (K W : List (Nat × Nat)) (a0 a1 a2 al ar x2 xo : Nat) : Bool :=
  and (and (and (eqO (Q.divS (Q.ofNatS q) 1082130432) r) (and (finS r) (gtB (Q.ordS r 0)))) (and (Nat.beq T.length n) (and (ringB n r 0 T) (finCB T))))
  (and (and (and (eqO (aroundO 0 0 T n n 0) a0) (and (finS a0) (nearS a0 4607182418800017408 4562254508917369340)))
    (and (and (eqO (Q.mulS 1073741824 r) x2) (and (eqO (Q.addS x2 1065353216) xo) (finS xo))) (and (eqO (aroundO xo 1040187392 T n n 0) a1) (and (finS a1) (nearS a1 0 4562254508917369340)))))
  (and (and (and (bendB n T 0 B) (and (Nat.beq B.length n) (finLB B))) (and (and (eqL (revF (0, 0) n (Nat.div n 2) T) K) (and (finCB K) (finLB (revF 0 n (Nat.div n 2) (List.replicate n 1065353216)))))
    (and (eqO (aroundO 0 0 K n n 0) a2) (and (finS a2) (nearS a2 13830554455654793216 4562254508917369340)))))
  (and (and (and (eqO (areaO T n n 0) al) (eqO (Q.divS al 1073741824) ar)) (and (finS ar) (gtB (Q.ordS ar 0))))
    (and (and (eqS (waveF 1065353216 0 n n T) W) (finCB W)) (lawB n B W T)))))

/-- WHAT IS RECKONED of the ring of n points whose radius is q quarters. -/
structure CaseF (n q r : Nat) (T : List (Nat × Nat)) (B : List Nat) (K W : List (Nat × Nat)) (a0 a1 a2 al ar x2 xo : Nat) : Prop where
  hr : Q.divS (Q.ofNatS q) 1082130432 = some r
  fr : finS r = true
  go : Q.ordS r 0 = some .gt
  lT : T.length = n
  pT : ∀ k, k < n → ringPt n r k = some (T.getD k (0, 0))
  fT : FinC T
  i0 : aroundO 0 0 T n n 0 = some a0
  f0 : finS a0 = true
  n0 : ∃ x g, Q.wide a0 = some x ∧ gapO x 4607182418800017408 = some g ∧ Q.ordD g 4562254508917369340 = some .lt
  h2 : Q.mulS 1073741824 r = some x2
  ho : Q.addS x2 1065353216 = some xo
  fo : finS xo = true
  i1 : aroundO xo 1040187392 T n n 0 = some a1
  f1 : finS a1 = true
  n1 : ∃ x g, Q.wide a1 = some x ∧ gapO x 0 = some g ∧ Q.ordD g 4562254508917369340 = some .lt
  bB : ∀ i, i < n → bendO (T.getD i (0, 0)) (T.getD ((i + 1) % n) (0, 0)) (T.getD ((i + n - 1) % n) (0, 0)) = some (B.getD i 0)
  lB : B.length = n
  fB : FinL B
  kT : revF (0, 0) n (n / 2) T = K
  fK : FinC K
  fS : FinL (revF 0 n (n / 2) (List.replicate n 1065353216))
  i2 : aroundO 0 0 K n n 0 = some a2
  f2 : finS a2 = true
  n2 : ∃ x g, Q.wide a2 = some x ∧ gapO x 13830554455654793216 = some g ∧ Q.ordD g 4562254508917369340 = some .lt
  ia : areaO T n n 0 = some al
  da : Q.divS al 1073741824 = some ar
  fa : finS ar = true
  oa : Q.ordS ar 0 = some .gt
  wv : waveF 1065353216 0 n n T = some W
  fW : FinC W
  lw : ∃ s g, lawF n B W T n 0 = some s ∧ gapO s 4607182418800017408 = some g ∧ Q.ordD g 4562254508917369340 = some .lt

theorem caseB_eq {n q r : Nat} {T : List (Nat × Nat)} {B : List Nat} {K W : List (Nat × Nat)} {a0 a1 a2 al ar x2 xo : Nat} (h : caseB n q r T B K W a0 a1 a2 al ar x2 xo = true) : CaseF n q r T B K W a0 a1 a2 al ar x2 xo := by
  unfold caseB at h
  simp only [Bool.and_eq_true] at h
  obtain ⟨⟨⟨r1, r2, r3⟩, t1, t2, t3⟩, ⟨⟨p1, p2, p3⟩, ⟨x1, x2', x3⟩, o1, o2, o3⟩, ⟨⟨b1, b2, b3⟩, ⟨k1, k2, k3⟩, c1, c2, c3⟩, ⟨⟨e1, e2⟩, e3, e4⟩, ⟨v1, v2⟩, v3⟩ := h
  have hl := beq_eq t1
  have hb := beq_eq b2
  refine ⟨eqO_eq r1, r2, gtB_eq r3, hl, fun k hk => ?_, finCB_eq t3, eqO_eq p1, p2, nearS_eq p3, eqO_eq x1, eqO_eq x2', x3, eqO_eq o1, o2, nearS_eq o3, fun i hi => ?_, hb, finLB_eq b3, eqL_eq k1, finCB_eq k2, finLB_eq k3, eqO_eq c1, c2, nearS_eq c3, eqO_eq e1, eqO_eq e2, e3, gtB_eq e4, eqS_eq v1, finCB_eq v2, lawB_eq v3⟩
  · have := ringB_eq n r 0 T t2 k (by omega)
    rwa [Nat.zero_add] at this
  · have := bendB_eq n T 0 B b1 i (by omega)
    rwa [Nat.zero_add] at this
def Case (n q : Nat) : Prop := ∃ r T B K W a0 a1 a2 al ar x2 xo, CaseF n q r T B K W a0 a1 a2 al ar x2 xo
end Go.Proofs.Ytdjhgnpllnmdmaa
