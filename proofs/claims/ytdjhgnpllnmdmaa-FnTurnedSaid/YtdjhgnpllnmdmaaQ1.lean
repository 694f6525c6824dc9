/- Fast words: the operations of Ieee at numbers, by naturals alone, for the kernel to reckon with. -/
import GoSem.Core.Float
set_option linter.unusedVariables false
set_option linter.unusedSectionVars false
set_option linter.unusedSimpArgs false
namespace Q
open Ieee

/-- strict in the number -/
@[reducible] def st {α : Type} (n : Nat) (f : Nat → α) : α := Nat.rec (f 0) (fun k _ => f (Nat.succ k)) n
theorem st_eq {α : Type} (n : Nat) (f : Nat → α) : st n f = f n := by cases n <;> rfl

/-- the logarithm, by halves -/
def lg1 (n a : Nat) : Nat := cond (Nat.ble 2 n) (Nat.succ a) a
def lg2 (n a : Nat) : Nat := cond (Nat.ble 4 n) (lg1 (Nat.shiftRight n 2) (Nat.add a 2)) (lg1 n a)
def lg3 (n a : Nat) : Nat := cond (Nat.ble 16 n) (lg2 (Nat.shiftRight n 4) (Nat.add a 4)) (lg2 n a)
def lg4 (n a : Nat) : Nat := cond (Nat.ble 256 n) (lg3 (Nat.shiftRight n 8) (Nat.add a 8)) (lg3 n a)
def lg5 (n a : Nat) : Nat := cond (Nat.ble 65536 n) (lg4 (Nat.shiftRight n 16) (Nat.add a 16)) (lg4 n a)
def lg6 (n a : Nat) : Nat := cond (Nat.ble 4294967296 n) (lg5 (Nat.shiftRight n 32) (Nat.add a 32)) (lg5 n a)
def lg7 (n a : Nat) : Nat := cond (Nat.ble 18446744073709551616 n) (lg6 (Nat.shiftRight n 64) (Nat.add a 64)) (lg6 n a)
def lg8 (n a : Nat) : Nat := cond (Nat.ble 340282366920938463463374607431768211456 n) (lg7 (Nat.shiftRight n 128) (Nat.add a 128)) (lg7 n a)
def lg9 (n a : Nat) : Nat := cond (Nat.ble 115792089237316195423570985008687907853269984665640564039457584007913129639936 n) (lg8 (Nat.shiftRight n 256) (Nat.add a 256)) (lg8 n a)
def lg10 (n a : Nat) : Nat := cond (Nat.ble 13407807929942597099574024998205846127479365820592393377723561443721764030073546976801874298166903427690031858186486050853753882811946569946433649006084096 n) (lg9 (Nat.shiftRight n 512) (Nat.add a 512)) (lg9 n a)
def lg11 (n a : Nat) : Nat := cond (Nat.ble 179769313486231590772930519078902473361797697894230657273430081157732675805500963132708477322407536021120113879871393357658789768814416622492847430639474124377767893424865485276302219601246094119453082952085005768838150682342462881473913110540827237163350510684586298239947245938479716304835356329624224137216 n) (lg10 (Nat.shiftRight n 1024) (Nat.add a 1024)) (lg10 n a)
def lgBig (n : Nat) : Nat := cond (Nat.ble 32317006071311007300714876688669951960444102669715484032130345427524655138867890893197201411522913463688717960921898019494119559150490921095088152386448283120630877367300996091750197750389652106796057638384067568276792218642619756161838094338476170470581645852036305042887575891541065808607552399123930385521914333389668342420684974786564569494856176035326322058077805659331026192708460314150258592864177116725943603718461857357598351152301645904403697613233287231227125684710820209725157101726931323469678542580656697935045997268352998638215525166389437335543602135433229604645318478604952148193555853611059596230656 n) (Nat.log2 n) (lg11 n 0)
def lg (n : Nat) : Nat := cond (Nat.ble 340282366920938463463374607431768211456 n) (lgBig n) (lg7 n 0)

theorem log2_shift (n k : Nat) (h : 2 ^ k ≤ n) : Nat.log2 n = Nat.log2 (Nat.shiftRight n k) + k := by
  have hp : 0 < 2 ^ k := Nat.two_pow_pos k
  have hn : n ≠ 0 := by omega
  have e : Nat.shiftRight n k = n / 2 ^ k := Nat.shiftRight_eq_div_pow n k
  rw [e]
  have hd : 0 < n / 2 ^ k := Nat.div_pos h hp
  have h1 := Nat.log2_self_le (n := n / 2 ^ k) (by omega)
  have h2 := Nat.lt_log2_self (n := n / 2 ^ k)
  refine (Nat.log2_eq_iff hn).2 ⟨?_, ?_⟩
  · rw [Nat.pow_add]
    exact Nat.le_trans (Nat.mul_le_mul_right _ h1) (Nat.div_mul_le_self n (2 ^ k))
  · rw [show Nat.log2 (n / 2 ^ k) + k + 1 = Nat.log2 (n / 2 ^ k) + 1 + k by omega, Nat.pow_add]
    have := Nat.lt_mul_div_succ n hp
    have h3 : n / 2 ^ k + 1 ≤ 2 ^ (Nat.log2 (n / 2 ^ k) + 1) := h2
    have h4 := Nat.mul_le_mul_left (2 ^ k) h3
    rw [Nat.mul_comm (2 ^ (Nat.log2 (n / 2 ^ k) + 1))]
    exact Nat.lt_of_lt_of_le this h4

theorem lg_step {k : Nat} (hi lo : Nat → Nat → Nat) (n a : Nat) (hlo : ∀ n a, n < 2 ^ k → lo n a = a + Nat.log2 n) (h : n < 2 ^ (k + k)) :
    cond (Nat.ble (2 ^ k) n) (lo (Nat.shiftRight n k) (Nat.add a k)) (lo n a) = a + Nat.log2 n := by
  by_cases hb : 2 ^ k ≤ n
  · rw [Nat.ble_eq_true_of_le hb, cond_true, hlo, log2_shift n k hb]
    · show a + k + _ = _
      omega
    · have e : Nat.shiftRight n k = n / 2 ^ k := Nat.shiftRight_eq_div_pow n k
      rw [e, Nat.div_lt_iff_lt_mul (Nat.two_pow_pos k), ← Nat.pow_add]
      exact h
  · rw [show Nat.ble (2 ^ k) n = false by
      cases hq : Nat.ble (2 ^ k) n
      · rfl
      · exact absurd (Nat.le_of_ble_eq_true hq) hb, cond_false, hlo n a (by omega)]
theorem lg1_eq (n a : Nat) (h : n < 2 ^ 2) : lg1 n a = a + Nat.log2 n := by
  have h' : n < 4 := h
  match n, h' with
  | 0, _ => rfl
  | 1, _ => rfl
  | 2, _ => simp [lg1]; rfl
  | 3, _ => simp [lg1]; rfl
theorem lg2_eq (n a : Nat) (h : n < 2 ^ 4) : lg2 n a = a + Nat.log2 n := lg_step (k := 2) lg1 lg1 n a lg1_eq h
theorem lg3_eq (n a : Nat) (h : n < 2 ^ 8) : lg3 n a = a + Nat.log2 n := lg_step (k := 4) lg2 lg2 n a lg2_eq h
theorem lg4_eq (n a : Nat) (h : n < 2 ^ 16) : lg4 n a = a + Nat.log2 n := lg_step (k := 8) lg3 lg3 n a lg3_eq h
theorem lg5_eq (n a : Nat) (h : n < 2 ^ 32) : lg5 n a = a + Nat.log2 n := lg_step (k := 16) lg4 lg4 n a lg4_eq h
theorem lg6_eq (n a : Nat) (h : n < 2 ^ 64) : lg6 n a = a + Nat.log2 n := lg_step (k := 32) lg5 lg5 n a lg5_eq h
theorem lg7_eq (n a : Nat) (h : n < 2 ^ 128) : lg7 n a = a + Nat.log2 n := lg_step (k := 64) lg6 lg6 n a lg6_eq h
theorem lg_step2 {k c d : Nat} (hc : c = 2 ^ k) (hd : d = 2 ^ (k + k)) (lo : Nat → Nat → Nat) (n a : Nat) (hlo : ∀ n a, n < c → lo n a = a + Nat.log2 n) (h : n < d) :
    cond (Nat.ble c n) (lo (Nat.shiftRight n k) (Nat.add a k)) (lo n a) = a + Nat.log2 n := by
  subst hc hd
  exact lg_step lo lo n a hlo h
theorem lg8_eq (n a : Nat) (h : n < 115792089237316195423570985008687907853269984665640564039457584007913129639936) : lg8 n a = a + Nat.log2 n := lg_step2 (k := 128) (by decide +kernel) (by decide +kernel) lg7 n a lg7_eq h
theorem lg9_eq (n a : Nat) (h : n < 13407807929942597099574024998205846127479365820592393377723561443721764030073546976801874298166903427690031858186486050853753882811946569946433649006084096) : lg9 n a = a + Nat.log2 n := lg_step2 (k := 256) (by decide +kernel) (by decide +kernel) lg8 n a lg8_eq h
theorem lg10_eq (n a : Nat) (h : n < 179769313486231590772930519078902473361797697894230657273430081157732675805500963132708477322407536021120113879871393357658789768814416622492847430639474124377767893424865485276302219601246094119453082952085005768838150682342462881473913110540827237163350510684586298239947245938479716304835356329624224137216) : lg10 n a = a + Nat.log2 n := lg_step2 (k := 512) (by decide +kernel) (by decide +kernel) lg9 n a lg9_eq h
theorem lg11_eq (n a : Nat) (h : n < 32317006071311007300714876688669951960444102669715484032130345427524655138867890893197201411522913463688717960921898019494119559150490921095088152386448283120630877367300996091750197750389652106796057638384067568276792218642619756161838094338476170470581645852036305042887575891541065808607552399123930385521914333389668342420684974786564569494856176035326322058077805659331026192708460314150258592864177116725943603718461857357598351152301645904403697613233287231227125684710820209725157101726931323469678542580656697935045997268352998638215525166389437335543602135433229604645318478604952148193555853611059596230656) : lg11 n a = a + Nat.log2 n := lg_step2 (k := 1024) (by decide +kernel) (by decide +kernel) lg10 n a lg10_eq h
theorem not_ble_lt {c n : Nat} (hb : Nat.ble c n = false) : n < c := by
  apply Nat.lt_of_not_le
  intro hle
  have : Nat.ble c n = true := Nat.ble_eq_true_of_le hle
  rw [this] at hb
  cases hb
theorem lgBig_eq (n : Nat) : lgBig n = Nat.log2 n := by
  unfold lgBig
  cases hb : Nat.ble 32317006071311007300714876688669951960444102669715484032130345427524655138867890893197201411522913463688717960921898019494119559150490921095088152386448283120630877367300996091750197750389652106796057638384067568276792218642619756161838094338476170470581645852036305042887575891541065808607552399123930385521914333389668342420684974786564569494856176035326322058077805659331026192708460314150258592864177116725943603718461857357598351152301645904403697613233287231227125684710820209725157101726931323469678542580656697935045997268352998638215525166389437335543602135433229604645318478604952148193555853611059596230656 n
  · rw [cond_false, lg11_eq n 0 (not_ble_lt hb)]
    omega
  · rfl
theorem lg_eq (n : Nat) : lg n = Nat.log2 n := by
  unfold lg
  cases hb : Nat.ble 340282366920938463463374607431768211456 n
  · rw [cond_false, lg7_eq n 0 (not_ble_lt hb)]
    omega
  · rw [cond_true, lgBig_eq]

/-! ## rounding -/
/-- n with its last d digits dropped, to the even -/
def cut (n d : Nat) : Nat := Nat.shiftRight (Nat.add (Nat.add n (Nat.pred (Nat.shiftLeft 1 (Nat.pred d)))) (Nat.mod (Nat.shiftRight n d) 2)) d
theorem cut_eq (neg : Bool) (n d : Nat) (hd : 0 < d) : Toward.even.cut neg n d = cut n d := by
  obtain ⟨e, rfl⟩ : ∃ e, d = e + 1 := ⟨d - 1, by omega⟩
  have h1 : cut n (e + 1) = (n + (2 ^ e - 1) + n / 2 ^ (e + 1) % 2) / 2 ^ (e + 1) := by
    unfold cut
    show Nat.shiftRight (n + ((1 <<< e) - 1) + (Nat.shiftRight n (e + 1)) % 2) (e + 1) = _
    rw [show Nat.shiftRight n (e + 1) = n / 2 ^ (e + 1) from Nat.shiftRight_eq_div_pow n (e + 1), Nat.one_shiftLeft]
    exact Nat.shiftRight_eq_div_pow _ _
  rw [h1]
  clear h1
  have hp : 0 < 2 ^ e := Nat.two_pow_pos e
  have hpe : 2 ^ (e + 1) = 2 * 2 ^ e := by rw [Nat.pow_succ]; omega
  -- how the number is cut at d digits
  have key : ∀ q r, r < 2 * 2 ^ e → (q * (2 * 2 ^ e) + r + (2 ^ e - 1) + q % 2) / (2 * 2 ^ e) = q + (decide (2 * 2 ^ e < 2 * r) || (2 * 2 ^ e == 2 * r && q % 2 == 1)).toNat := by
    intro q r hr
    have hq2 : q % 2 = 0 ∨ q % 2 = 1 := by omega
    have hs : q * (2 * 2 ^ e) + r + (2 ^ e - 1) + q % 2 = (r + (2 ^ e - 1) + q % 2) + q * (2 * 2 ^ e) := by omega
    rw [hs, Nat.add_mul_div_right _ _ (by omega), Nat.add_comm]
    congr 1
    generalize 2 ^ e = h at *
    rcases hq2 with hq | hq
    · rw [hq]
      by_cases hb : h < r
      · rw [show (decide (2 * h < 2 * r) || (2 * h == 2 * r && (0 : Nat) == 1)) = true by simp [hb]]
        exact Nat.div_eq_of_lt_le (by simp; omega) (by simp; omega)
      · rw [show (decide (2 * h < 2 * r) || (2 * h == 2 * r && (0 : Nat) == 1)) = false by simp; omega]
        exact Nat.div_eq_of_lt (by omega)
    · rw [hq]
      by_cases hb : h ≤ r
      · rw [show (decide (2 * h < 2 * r) || (2 * h == 2 * r && (1 : Nat) == 1)) = true by simp; omega]
        exact Nat.div_eq_of_lt_le (by simp; omega) (by simp; omega)
      · rw [show (decide (2 * h < 2 * r) || (2 * h == 2 * r && (1 : Nat) == 1)) = false by simp; omega]
        exact Nat.div_eq_of_lt (by omega)
  have hcut : ∀ g, n / g * g + n % g = n := fun g => by rw [Nat.mul_comm]; exact Nat.div_add_mod n g
  unfold Toward.cut
  simp only [Nat.one_shiftLeft]
  by_cases hle : e + 1 ≤ n.log2 + 2
  · rw [Nat.min_eq_left hle, hpe]
    have := key (n / (2 * 2 ^ e)) (n % (2 * 2 ^ e)) (Nat.mod_lt _ (by omega))
    rw [hcut] at this
    exact this.symm
  · rw [Nat.min_eq_right (by omega), hpe]
    have hlt : n < 2 ^ (n.log2 + 1) := Nat.lt_log2_self
    have hle2 : 2 ^ (n.log2 + 2) ≤ 2 ^ e := Nat.pow_le_pow_right (by decide) (by omega)
    have hs : 2 ^ (n.log2 + 2) = 2 * 2 ^ (n.log2 + 1) := by rw [Nat.pow_succ 2 (n.log2 + 1)]; omega
    rw [Nat.div_eq_of_lt (show n < 2 ^ (n.log2 + 2) by omega), Nat.mod_eq_of_lt (show n < 2 ^ (n.log2 + 2) by omega), Nat.div_eq_of_lt (show n < 2 * 2 ^ e by omega)]
    rw [show (decide (2 ^ (n.log2 + 2) < 2 * n) || (2 ^ (n.log2 + 2) == 2 * n && (0 : Nat) % 2 == 1)) = false by simp; omega]
    rw [Nat.div_eq_of_lt (by omega)]
    rfl
theorem cut_zero (neg : Bool) (n : Nat) : Toward.even.cut neg n 0 = n := by
  unfold Toward.cut
  simp [Nat.mod_one]

def mx (a b : Nat) : Nat := cond (Nat.ble a b) b a
theorem mx_eq (a b : Nat) : mx a b = max a b := by
  unfold mx
  cases h : Nat.ble a b
  · have : ¬ a ≤ b := fun hc => by rw [Nat.ble_eq_true_of_le hc] at h; cases h
    simp; omega
  · have := Nat.le_of_ble_eq_true h
    simp; omega
/-- the rung, not above infinity's -/
def fin (sg inf rung : Nat) : Nat := Nat.add sg (cond (Nat.ble rung inf) rung inf)
theorem fin_eq (sg inf rung : Nat) : fin sg inf rung = sg + min rung inf := by
  unfold fin
  cases h : Nat.ble rung inf
  · have : ¬ rung ≤ inf := fun hc => by rw [Nat.ble_eq_true_of_le hc] at h; cases h
    show sg + inf = _
    omega
  · have := Nat.le_of_ble_eq_true h
    show sg + rung = _
    omega
def nearB (lb bn inf sg mag E last : Nat) : Nat :=
  fin sg inf (Nat.add (Nat.mul (Nat.sub last lb) bn) (cond (Nat.ble last E) (Nat.shiftLeft mag (Nat.sub E last)) (cut mag (Nat.sub last E))))
/-- THE NEAREST WORD of 'mag * 2 ^ (E - b)': lb: the biased place of the last digit -/
def near (fb lb bn inf sg mag E : Nat) : Nat :=
  cond (Nat.beq mag 0) sg (st (mx (Nat.sub (Nat.add E (lg mag)) fb) lb) (nearB lb bn inf sg mag E))

theorem near_eq (f : Format) (b : Nat) (lb : Nat) (neg : Bool) (mag E : Nat) (place : Int) (hp : place = (E : Int) - b) (hl : f.leastPlace + b = (lb : Int)) :
    f.nearest neg mag place = near f.fractionBits lb f.binade f.infRung (if neg then f.signWeight else 0) mag E := by
  unfold near Format.nearest Format.word
  by_cases h0 : mag = 0
  · subst h0
    rw [if_pos rfl]
    cases neg <;> simp
  · have hb : Nat.beq mag 0 = false := by
      cases h : Nat.beq mag 0
      · rfl
      · exact absurd (Nat.eq_of_beq_eq_true h) h0
    rw [if_neg h0, hb, cond_false, st_eq, mx_eq, lg_eq]
    show _ = nearB lb f.binade f.infRung _ mag E (max (E + mag.log2 - f.fractionBits) lb)
    generalize hlast : max (E + mag.log2 - f.fractionBits) lb = last
    have hL : max (place + mag.log2 - f.fractionBits) f.leastPlace = (last : Int) - b := by omega
    have hll : lb ≤ last := by omega
    simp only [hL]
    unfold nearB
    rw [fin_eq]
    have e1 : ((last : Int) - b - f.leastPlace).toNat = last - lb := by omega
    have e2 : (place - ((last : Int) - b)).toNat = E - last := by omega
    have e3 : ((last : Int) - b - place).toNat = last - E := by omega
    rw [e1, e2, e3]
    have hk : Toward.even.cut neg (mag <<< (E - last)) (last - E) = cond (Nat.ble last E) (Nat.shiftLeft mag (Nat.sub E last)) (cut mag (Nat.sub last E)) := by
      by_cases hle : last ≤ E
      · rw [Nat.ble_eq_true_of_le hle, cond_true, show last - E = 0 by omega, cut_zero]
        rfl
      · have : Nat.ble last E = false := by
          cases h : Nat.ble last E
          · rfl
          · exact absurd (Nat.le_of_ble_eq_true h) hle
        rw [this, cond_false, show E - last = 0 by omega, Nat.shiftLeft_zero, cut_eq _ _ _ (by omega)]
        rfl
    rw [hk]
    show _ = _ + min ((last - lb) * f.binade + _) f.infRung
    cases neg
    · simp
    · rfl
end Q
