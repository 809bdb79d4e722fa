import Derived.Test.YtpogffdbencfnaaGreatDoorDgPlainB
set_option linter.unusedVariables false
namespace Go.Proofs.YtpogffdbencfnaaGreatDoor
open Go Go.RowKit

/-! equal digests of short texts, of texts that differ in one block -/
theorem toNat_small (n : Nat) (h : n < 18446744073709551616) : (BitVec.ofNat 64 n).toNat = n := by
  rw [BitVec.toNat_ofNat]; exact Nat.mod_eq_of_lt (by simpa using h)
theorem ofNat_inj {n m : Nat} (hn : n < 18446744073709551616) (hm : m < 18446744073709551616) (h : BitVec.ofNat 64 n = BitVec.ofNat 64 m) : n = m := by
  have := congrArg BitVec.toNat h
  rwa [toNat_small n hn, toNat_small m hm] at this
theorem xor_left_inj {a b c : BitVec 64} (h : a ^^^ b = a ^^^ c) : b = c := by
  have := congrArg (a ^^^ ·) h
  simpa [← BitVec.xor_assoc] using this
theorem xor_right_inj {a b c : BitVec 64} (h : b ^^^ a = c ^^^ a) : b = c := by
  rw [BitVec.xor_comm b, BitVec.xor_comm c] at h
  exact xor_left_inj h

theorem byteAt_ge {t : List UInt8} {i : Nat} (h : t.length ≤ i) : byteAt t i = 0 := by
  unfold byteAt; rw [List.getElem?_eq_none h]; rfl
theorem ext_byteAt {t u : List UInt8} (hl : t.length = u.length) (h : ∀ i, i < t.length → byteAt t i = byteAt u i) : t = u := by
  apply List.ext_getElem hl
  intro i h1 h2
  have := h i h1
  unfold byteAt at this
  rw [List.getElem?_eq_getElem h1, List.getElem?_eq_getElem h2] at this
  exact UInt8.toNat_inj.1 this

/-- a number whose low byte is free joins a byte without carry -/
theorem xor_low (a b : Nat) (hb : b < 256) : a * 256 ^^^ b = a * 256 + b := by
  have := Nat.two_pow_add_eq_or_of_lt (i := 8) (b := b) (by simpa using hb) a
  have e : a * 256 ^^^ b = a * 256 ||| b := by
    apply Nat.eq_of_testBit_eq
    intro i
    simp only [Nat.testBit_xor, Nat.testBit_or]
    by_cases hi : i < 8
    · have : (a * 256).testBit i = false := by rw [show a * 256 = a * 2 ^ 8 by rfl, Nat.testBit_mul_two_pow]; simp; omega
      rw [this]; simp
    · have : b.testBit i = false := Nat.testBit_lt_two_pow (Nat.lt_of_lt_of_le hb (by have := Nat.pow_le_pow_right (n := 2) (by decide) (Nat.le_of_not_lt hi); simpa using this))
      rw [this]; simp
  rw [e, Nat.mul_comm a 256]
  exact this.symm

theorem blk_eight (t : List UInt8) (f : Nat) (h : byteAt t (f + 7) = 0) : blk t f 8 = blk t f 7 * 256 := by
  show blk t f 7 * 256 + byteAt t (f + 7) = _
  rw [h, Nat.add_zero]

theorem short_inj {a b : List UInt8} (ha : a.length ≤ 7) (hb : b.length ≤ 7) (h : sumL a = sumL b) : a = b := by
  have h := sumL_inj h
  unfold endSt at h
  rw [show a.length / 8 + 1 = 1 by omega, show b.length / 8 + 1 = 1 by omega] at h
  simp only [st] at h
  have h := mixB_inj _ _ h
  rw [BitVec.xor_assoc, BitVec.xor_assoc] at h
  have h := xor_left_inj h
  have key : ∀ t : List UInt8, t.length ≤ 7 → ∃ q, blk t (8 * 0) 8 = q * 256 ∧ (BitVec.ofNat 64 t.length ^^^ BitVec.ofNat 64 (blk t (8 * 0) 8)).toNat = q * 256 + t.length := by
    intro t ht
    have e := blk_eight t (8 * 0) (byteAt_ge (by omega))
    refine ⟨_, e, ?_⟩
    rw [BitVec.toNat_xor, toNat_small _ (by omega), toNat_small _ (blk8_lt _ _), Nat.xor_comm, e, xor_low _ _ (by omega)]
  obtain ⟨q, hq, eq⟩ := key a ha
  obtain ⟨r, hr, er⟩ := key b hb
  have hn := congrArg BitVec.toNat h
  rw [eq, er] at hn
  clear h eq er
  have hl : a.length = b.length := by omega
  have hqr : q = r := by clear hq hr; omega
  have hb8 : blk a (8 * 0) 8 = blk b (8 * 0) 8 := hq.trans (hqr ▸ hr.symm)
  refine ext_byteAt hl fun i hi => ?_
  have := blk_inj hb8 i (by omega)
  simpa using this

theorem st_congr {t u : List UInt8} (hl : t.length = u.length) : ∀ j, (∀ i, i < j → blk t (8 * i) 8 = blk u (8 * i) 8) → st t j = st u j := by
  intro j
  induction j with
  | zero => intro _; simp only [st]; rw [hl]
  | succ j ih => intro h; simp only [st]; rw [ih (fun i hi => h i (by omega)), h j (by omega)]
theorem st_step_ne {t u : List UInt8} {j : Nat} (h : st t j ≠ st u j) : ∀ k, (∀ i, j ≤ i → i < j + k → blk t (8 * i) 8 = blk u (8 * i) 8) → st t (j + k) ≠ st u (j + k) := by
  intro k
  induction k with
  | zero => intro _; simpa using h
  | succ k ih =>
    intro hb e
    refine ih (fun i h1 h2 => hb i h1 (by omega)) ?_
    have e : st t (j + k + 1) = st u (j + k + 1) := e
    simp only [st] at e
    have e := mixB_inj _ _ e
    rw [hb (j + k) (by omega) (by omega)] at e
    exact xor_right_inj e

/-- Two texts of one length that agree outside block p: one digest only if they are equal. -/
theorem block_inj {t u : List UInt8} (hl : t.length = u.length) (p : Nat) (ho : ∀ i, i / 8 ≠ p → byteAt t i = byteAt u i) (h : sumL t = sumL u) : t = u := by
  by_cases hp : blk t (8 * p) 8 = blk u (8 * p) 8
  · refine ext_byteAt hl fun i hi => ?_
    by_cases hi8 : i / 8 = p
    · have := blk_inj hp (i - 8 * p) (by omega)
      rwa [show 8 * p + (i - 8 * p) = i by omega] at this
    · exact ho i hi8
  · exfalso
    have hpl : p < t.length / 8 + 1 := by
      rcases Nat.lt_or_ge p (t.length / 8 + 1) with h' | h'
      · exact h'
      · exact absurd (blk_congr (k := 8) fun i hi => by rw [byteAt_ge (by omega), byteAt_ge (by omega)]) hp
    have same : ∀ i, i ≠ p → blk t (8 * i) 8 = blk u (8 * i) 8 := fun i hi => blk_congr fun k hk => ho _ (by omega)
    have h0 : st t p = st u p := st_congr hl p fun i hi => same i (by omega)
    have h1 : st t (p + 1) ≠ st u (p + 1) := by
      intro e
      simp only [st] at e
      have e := mixB_inj _ _ e
      rw [h0] at e
      exact hp (ofNat_inj (blk8_lt _ _) (blk8_lt _ _) (xor_left_inj e))
    have h2 := st_step_ne h1 (t.length / 8 + 1 - (p + 1)) fun i hi _ => same i (by omega)
    rw [show p + 1 + (t.length / 8 + 1 - (p + 1)) = t.length / 8 + 1 by omega] at h2
    refine h2 ?_
    have := sumL_inj h
    unfold endSt at this
    rwa [← hl] at this
end Go.Proofs.YtpogffdbencfnaaGreatDoor
