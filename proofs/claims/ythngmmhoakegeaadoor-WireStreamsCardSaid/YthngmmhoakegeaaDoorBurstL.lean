/- The sum of a frame is linear: up to 32 bits in a row that are turned change it otherwise than its own four bytes. -/
import Derived.Test.YthngmmhoakegeaaDoorEncode
set_option linter.unusedSimpArgs false
set_option linter.unusedVariables false
namespace Go.Proofs.YthngmmhoakegeaaDoor

theorem xorPull (a b c d : Nat) : (a ^^^ b) ^^^ (c ^^^ d) = (a ^^^ c) ^^^ (b ^^^ d) := by
  rw [Nat.xor_assoc, ← Nat.xor_assoc b c d, Nat.xor_comm b c, Nat.xor_assoc c b d, ← Nat.xor_assoc]
theorem xor_mod_two (a b : Nat) : (a ^^^ b) % 2 = (a % 2) ^^^ (b % 2) := by
  have := Nat.xor_mod_two_pow (a := a) (b := b) (n := 1)
  simpa using this
theorem xor_div_two (a b : Nat) : (a ^^^ b) / 2 = (a / 2) ^^^ (b / 2) := by
  have := Nat.xor_div_two_pow (a := a) (b := b) (n := 1)
  simpa using this
/-- One step of the sum goes with exclusive or. -/
theorem crcBit_xor (a b : Nat) : crcBit (a ^^^ b) = crcBit a ^^^ crcBit b := by
  unfold crcBit
  rw [xor_div_two, xor_mod_two, xorPull]
  congr 1
  have ha : a % 2 = 0 ∨ a % 2 = 1 := by omega
  have hb : b % 2 = 0 ∨ b % 2 = 1 := by omega
  rcases ha with ha | ha <;> rcases hb with hb | hb <;> simp [ha, hb]
theorem crcBits_xor : ∀ (n a b : Nat), crcBits n (a ^^^ b) = crcBits n a ^^^ crcBits n b
  | 0, _, _ => rfl
  | n + 1, a, b => by
    show crcBits n (crcBit (a ^^^ b)) = _
    rw [crcBit_xor, crcBits_xor n]; rfl
theorem crcBits_add : ∀ (m n c : Nat), crcBits (m + n) c = crcBits n (crcBits m c)
  | 0, n, c => by rw [Nat.zero_add]; rfl
  | m + 1, n, c => by
    rw [show m + 1 + n = (m + n) + 1 by omega]
    exact crcBits_add m n (crcBit c)
theorem crcBit_two (x : Nat) : crcBit (x * 2) = x := by
  unfold crcBit
  rw [Nat.mul_mod_left, Nat.mul_zero, Nat.xor_zero, Nat.mul_div_cancel _ (by decide)]
theorem crcBits_shift : ∀ (n x : Nat), crcBits n (x * 2 ^ n) = x
  | 0, x => by show x * 1 = x; omega
  | n + 1, x => by
    show crcBits n (crcBit (x * 2 ^ (n + 1))) = x
    rw [Nat.pow_succ, ← Nat.mul_assoc, crcBit_two, crcBits_shift n]
theorem xor_zero {a b : Nat} (h : a ^^^ b = 0) : a = b := by
  have e : a ^^^ (b ^^^ b) = a := by rw [Nat.xor_self, Nat.xor_zero]
  rw [← e, ← Nat.xor_assoc, h, Nat.zero_xor]
/-- Nothing but zero is led to zero. -/
theorem crcBit_zero {c : Nat} (hc : c < 4294967296) (h : crcBit c = 0) : c = 0 := by
  unfold crcBit at h
  have h2 := xor_zero h
  have : c % 2 = 0 ∨ c % 2 = 1 := by omega
  rcases this with e | e <;> rw [e] at h2 <;> omega
theorem crcBits_zero : ∀ (n : Nat) {c : Nat}, c < 4294967296 → crcBits n c = 0 → c = 0
  | 0, _, _, h => h
  | n + 1, c, hc, h => crcBit_zero hc (crcBits_zero n (crcBit_lt c hc) h)

/-- The number of a text, its first byte the lowest. -/
def leN : List UInt8 → Nat
  | [] => 0
  | b :: l => b.toNat + 256 * leN l
theorem leN_lt : ∀ l : List UInt8, leN l < 2 ^ (8 * l.length)
  | [] => by decide
  | b :: l => by
    have h := leN_lt l
    have hb := b.toNat_lt
    show b.toNat + 256 * leN l < 2 ^ (8 * (l.length + 1))
    rw [show 8 * (l.length + 1) = 8 * l.length + 8 by omega, Nat.pow_add, show (2 : Nat) ^ 8 = 256 by decide]
    omega
theorem low_xor (b x c : Nat) (hb : b < 256) : c ^^^ (b + 256 * x) = (c ^^^ b) ^^^ (x * 2 ^ 8) := by
  rw [Nat.xor_assoc]
  congr 1
  have h : b + 256 * x = 2 ^ 8 * x ||| b := by rw [← Nat.two_pow_add_eq_or_of_lt (i := 8) (by simpa using hb) x]; omega
  have h2 : b ^^^ x * 2 ^ 8 = 2 ^ 8 * x ||| b := by
    apply Nat.eq_of_testBit_eq
    intro i
    rw [Nat.testBit_xor, Nat.testBit_or, Nat.mul_comm x, Nat.testBit_two_pow_mul]
    by_cases hi : i < 8
    · simp [show ¬ 8 ≤ i by omega]
    · rw [Nat.testBit_lt_two_pow (x := b) (i := i) (Nat.lt_of_lt_of_le (by simpa using hb) (Nat.pow_le_pow_right (by decide) (show 8 ≤ i by omega)))]
      simp
  rw [h, h2]
/-- What the sum makes of a text is what its steps make of the text's number. -/
theorem crcFold_num : ∀ (l : List UInt8) (c : Nat), crcFold l c = crcBits (8 * l.length) (c ^^^ leN l) := by
  have main : ∀ (l : List UInt8) (c x : Nat), crcBits (8 * l.length) (c ^^^ (leN l + 2 ^ (8 * l.length) * x)) = crcFold l c ^^^ x := by
    intro l
    induction l with
    | nil => intro c x; show c ^^^ (0 + 1 * x) = c ^^^ x; simp
    | cons b l ih =>
      intro c x
      have e : leN (b :: l) + 2 ^ (8 * (b :: l).length) * x = b.toNat + 256 * (leN l + 2 ^ (8 * l.length) * x) := by
        show b.toNat + 256 * leN l + 2 ^ (8 * (l.length + 1)) * x = _
        rw [show 8 * (l.length + 1) = 8 * l.length + 8 by omega, Nat.pow_add, show (2 : Nat) ^ 8 = 256 by decide, Nat.mul_add, Nat.mul_comm (2 ^ (8 * l.length)) 256, Nat.mul_assoc, Nat.add_assoc]
      rw [e, low_xor _ _ _ b.toNat_lt, show 8 * (b :: l).length = 8 + 8 * l.length by simp; omega, crcBits_add, crcBits_xor, crcBits_shift]
      exact ih (crcStep c b) x
  intro l c
  have h := main l c 0
  rw [Nat.mul_zero, Nat.add_zero, Nat.xor_zero] at h
  exact h.symm
theorem leN_append : ∀ (l q : List UInt8), leN (l ++ q) = leN l + 2 ^ (8 * l.length) * leN q
  | [], q => by show leN q = 0 + 1 * leN q; omega
  | b :: l, q => by
    show b.toNat + 256 * leN (l ++ q) = (b.toNat + 256 * leN l) + 2 ^ (8 * (l.length + 1)) * leN q
    rw [leN_append l q, show 8 * (l.length + 1) = 8 * l.length + 8 by omega, Nat.pow_add, show (2 : Nat) ^ 8 = 256 by decide, Nat.mul_add, Nat.mul_comm (2 ^ (8 * l.length)) 256, Nat.mul_assoc, Nat.add_assoc]
/-- A text with its own sum behind it leads to one number, whatever the text is. -/
theorem frame_sum {l q : List UInt8} (hq : q.length = 4) (h : leN q = crc l) : crcBits (8 * (l ++ q).length) (4294967295 ^^^ leN (l ++ q)) = crcBits 32 4294967295 := by
  rw [← crcFold_num, crcFold, List.foldl_append]
  show crcFold q (crcFold l 4294967295) = _
  rw [crcFold_num, hq, h, crc]
  congr 1
  rw [Nat.xor_comm 4294967295, ← Nat.xor_assoc, Nat.xor_self, Nat.zero_xor]
/-- Up to 32 bits in a row that are turned are seen. -/
theorem burst_seen {l q l' q' : List UInt8} (hl : l.length = 26) (hq : q.length = 4) (hl' : l'.length = 26) (hq' : q'.length = 4) (h : leN q = crc l) {B at' : Nat} (hB : B < 4294967296) (hat : at' < 240)
    (hN : leN (l' ++ q') = leN (l ++ q) ^^^ ((B * 2 ^ at') % 2 ^ 240)) (h0 : (B * 2 ^ at') % 2 ^ 240 ≠ 0) : leN q' ≠ crc l' := fun hc => by
  have h1 := frame_sum hq h
  have h2 := frame_sum hq' hc
  rw [List.length_append, hl, hq] at h1
  rw [List.length_append, hl', hq', hN, ← Nat.xor_assoc, crcBits_xor, h1] at h2
  have h3 : crcBits 240 ((B * 2 ^ at') % 2 ^ 240) = 0 := by
    have e : crcBits 32 4294967295 ^^^ (crcBits 32 4294967295 ^^^ crcBits (8 * (26 + 4)) (B * 2 ^ at' % 2 ^ 240)) = crcBits 32 4294967295 ^^^ crcBits 32 4294967295 := by rw [h2]
    rw [← Nat.xor_assoc, Nat.xor_self, Nat.zero_xor] at e
    exact e
  have h4 : (B * 2 ^ at') % 2 ^ 240 = (B % 2 ^ (240 - at')) * 2 ^ at' := by
    rw [show (2 : Nat) ^ 240 = 2 ^ (240 - at') * 2 ^ at' by rw [← Nat.pow_add]; congr 1; omega, Nat.mul_mod_mul_right]
  rw [h4] at h3 h0
  rw [show crcBits 240 (B % 2 ^ (240 - at') * 2 ^ at') = crcBits (at' + (240 - at')) (B % 2 ^ (240 - at') * 2 ^ at') by congr 1; omega, crcBits_add, crcBits_shift] at h3
  have h5 := crcBits_zero _ (Nat.lt_of_le_of_lt (Nat.mod_le _ _) hB) h3
  rw [h5, Nat.zero_mul] at h0
  exact h0 rfl
theorem leN_set : ∀ (l : List UInt8) (j : Nat) (x : UInt8) (hj : j < l.length), leN (l.set j (l[j] ^^^ x)) = leN l ^^^ (x.toNat * 2 ^ (8 * j))
  | b :: l, 0, x, _ => by
    show (b ^^^ x).toNat + 256 * leN l = (b.toNat + 256 * leN l) ^^^ (x.toNat * 1)
    rw [Nat.mul_one, Nat.xor_comm _ x.toNat, low_xor _ _ _ b.toNat_lt, UInt8.toNat_xor, Nat.xor_comm x.toNat]
    have h := low_xor (b.toNat ^^^ x.toNat) (leN l) 0 (Nat.xor_lt_two_pow (n := 8) b.toNat_lt x.toNat_lt)
    rw [Nat.zero_xor, Nat.zero_xor] at h
    exact h
  | b :: l, j + 1, x, hj => by
    have hj' : j < l.length := by simpa using hj
    have ih := leN_set l j x hj'
    show b.toNat + 256 * leN (l.set j (l[j] ^^^ x)) = (b.toNat + 256 * leN l) ^^^ (x.toNat * 2 ^ (8 * (j + 1)))
    have h1 := low_xor b.toNat (leN (l.set j (l[j] ^^^ x))) 0 b.toNat_lt
    have h2 := low_xor b.toNat (leN l) 0 b.toNat_lt
    rw [Nat.zero_xor, Nat.zero_xor] at h1 h2
    rw [h1, h2, ih, show 8 * (j + 1) = 8 * j + 8 by omega, Nat.pow_add, ← Nat.mul_assoc]
    have h3 : ∀ a c : Nat, (a ^^^ c) * 2 ^ 8 = a * 2 ^ 8 ^^^ c * 2 ^ 8 := fun a c => by
      apply Nat.eq_of_testBit_eq
      intro i
      simp only [Nat.testBit_xor, Nat.testBit_mul_two_pow]
      cases decide (8 ≤ i) <;> simp
    rw [h3, Nat.xor_assoc]
/-- The bits that are turned so far. -/
def burstN (B at' i : Nat) : Nat := (B % 2 ^ i * 2 ^ at') % 2 ^ 240
theorem burstN_step (B at' i : Nat) : burstN B at' (i + 1) = if B / 2 ^ i % 2 = 1 ∧ at' + i < 240 then burstN B at' i ^^^ 2 ^ (at' + i) else burstN B at' i := by
  have hb : ∀ k j, (burstN B at' k).testBit j = (decide (j < 240) && (decide (at' ≤ j) && (decide (j - at' < k) && B.testBit (j - at')))) := fun k j => by
    unfold burstN
    rw [Nat.testBit_mod_two_pow, Nat.testBit_mul_two_pow, Nat.testBit_mod_two_pow]
  have hi : B.testBit i = decide (B / 2 ^ i % 2 = 1) := Nat.testBit_eq_decide_div_mod_eq
  split
  · rename_i h
    apply Nat.eq_of_testBit_eq
    intro j
    rw [Nat.testBit_xor, hb, hb, Nat.testBit_two_pow]
    by_cases e : at' + i = j
    · subst e
      rw [show at' + i - at' = i by omega, hi, decide_eq_true h.1]
      simp [h.2]
    · rw [decide_eq_false e, Bool.xor_false]
      by_cases h2 : at' ≤ j
      · have : (j - at' < i + 1) = (j - at' < i) := by apply propext; omega
        rw [decide_eq_true h2]
        simp only [this]
      · rw [decide_eq_false h2]; simp
  · rename_i h
    apply Nat.eq_of_testBit_eq
    intro j
    rw [hb, hb]
    by_cases e : at' + i = j
    · subst e
      rw [show at' + i - at' = i by omega, hi]
      by_cases h1 : B / 2 ^ i % 2 = 1
      · have : ¬ at' + i < 240 := fun h2 => h ⟨h1, h2⟩
        simp [this]
      · simp [h1]
    · by_cases h2 : at' ≤ j
      · have : (j - at' < i + 1) = (j - at' < i) := by apply propext; omega
        simp only [this]
      · simp [h2]
theorem burstN_zero (B at' : Nat) : burstN B at' 0 = 0 := by simp [burstN, Nat.mod_one]
theorem burstN_all {B : Nat} (at' : Nat) (h : B < 4294967296) : burstN B at' 32 = (B * 2 ^ at') % 2 ^ 240 := by
  unfold burstN; rw [Nat.mod_eq_of_lt (show B < 2 ^ 32 from h)]
/-- One bit of a text is turned. -/
def flipAt (l : List UInt8) (k : Nat) : List UInt8 := if h : k / 8 < l.length then l.set (k / 8) (l[k / 8] ^^^ UInt8.ofNat (2 ^ (k % 8))) else l
theorem flipAt_len (l : List UInt8) (k : Nat) : (flipAt l k).length = l.length := by
  unfold flipAt; split
  · simp
  · rfl
theorem flipAt_num (l : List UInt8) {k : Nat} (h : k < 8 * l.length) : leN (flipAt l k) = leN l ^^^ 2 ^ k := by
  unfold flipAt
  rw [dif_pos (by omega), leN_set]
  congr 1
  have hk : 2 ^ (k % 8) < 256 := Nat.lt_of_lt_of_le (Nat.pow_lt_pow_right (by decide) (show k % 8 < 8 by omega)) (by decide)
  rw [UInt8.toNat_ofNat_of_lt' hk, ← Nat.pow_add]
  congr 1
  omega
end Go.Proofs.YthngmmhoakegeaaDoor
