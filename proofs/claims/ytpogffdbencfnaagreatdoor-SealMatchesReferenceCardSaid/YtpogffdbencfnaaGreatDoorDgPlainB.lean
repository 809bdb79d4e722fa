import Derived.Test.YtpogffdbencfnaaGreatDoorDgPlain
set_option linter.unusedVariables false
namespace Go.Proofs.YtpogffdbencfnaaGreatDoor
open Go Go.RowKit

/-! blocks, states, digits -/
def byteAt (t : List UInt8) (i : Nat) : Nat := (t[i]?.getD 0).toNat
def blk (t : List UInt8) (f : Nat) : Nat → Nat
  | 0 => 0
  | k + 1 => blk t f k * 256 + byteAt t (f + k)
def st (t : List UInt8) : Nat → BitVec 64
  | 0 => 2611923443488327891#64 ^^^ BitVec.ofNat 64 t.length
  | j + 1 => mixB (st t j ^^^ BitVec.ofNat 64 (blk t (8 * j) 8))
def endSt (t : List UInt8) : BitVec 64 := st t (t.length / 8 + 1)
def dig (n : Nat) : UInt8 := if n < 10 then UInt8.ofNat (48 + n) else UInt8.ofNat (87 + n)
def low : Nat → Nat → List UInt8
  | 0, _ => []
  | k + 1, n => dig (n / 16 ^ k % 16) :: low k n
def hexLen (n : Nat) : Nat := if n < 16 then 1 else hexLen (n / 16) + 1
termination_by n
def sumL (t : List UInt8) : List UInt8 := low 16 (endSt t).toNat
def sumS (t : ByteArray) : ByteArray := ⟨(sumL t.data.toList).toArray⟩

theorem byteAt_lt (t : List UInt8) (i : Nat) : byteAt t i < 256 := by
  unfold byteAt; exact UInt8.toNat_lt _
theorem blk_lt (t : List UInt8) (f k : Nat) : blk t f k < 256 ^ k := by
  induction k with
  | zero => simp [blk]
  | succ k ih => simp only [blk]; have := byteAt_lt t (f + k); rw [Nat.pow_succ]; omega
theorem blk8_lt (t : List UInt8) (f : Nat) : blk t f 8 < 18446744073709551616 := by
  have := blk_lt t f 8; simpa using this
theorem blk_congr {t u : List UInt8} {f k : Nat} (h : ∀ i, i < k → byteAt t (f + i) = byteAt u (f + i)) : blk t f k = blk u f k := by
  induction k with
  | zero => rfl
  | succ k ih => simp only [blk]; rw [ih (fun i hi => h i (by omega)), h k (by omega)]
theorem blk_inj {t u : List UInt8} {f k : Nat} (h : blk t f k = blk u f k) : ∀ i, i < k → byteAt t (f + i) = byteAt u (f + i) := by
  induction k with
  | zero => intro i hi; omega
  | succ k ih =>
    simp only [blk] at h
    have a := byteAt_lt t (f + k)
    have b := byteAt_lt u (f + k)
    intro i hi
    rcases Nat.lt_succ_iff_lt_or_eq.1 hi with h1 | h1
    · exact ih (by omega) i h1
    · subst h1; omega

theorem low_length (k n : Nat) : (low k n).length = k := by
  induction k with
  | zero => rfl
  | succ k ih => simp [low, ih]
theorem dig_toNat (n : Nat) (h : n < 16) : (dig n).toNat = if n < 10 then 48 + n else 87 + n := by
  have : ∀ m : Fin 16, (dig m.val).toNat = if m.val < 10 then 48 + m.val else 87 + m.val := by decide
  exact this ⟨n, h⟩
theorem dig_inj {n m : Nat} (hn : n < 16) (hm : m < 16) (h : dig n = dig m) : n = m := by
  have := congrArg UInt8.toNat h
  rw [dig_toNat n hn, dig_toNat m hm] at this
  split at this <;> split at this <;> omega
theorem low_inj (k : Nat) : ∀ {n m : Nat}, n < 16 ^ k → m < 16 ^ k → low k n = low k m → n = m := by
  induction k with
  | zero => intro n m hn hm _; simp at hn hm; omega
  | succ k ih =>
    intro n m hn hm h
    simp only [low, List.cons.injEq] at h
    have hp : 0 < 16 ^ k := Nat.two_pow_pos 0 |> fun _ => Nat.pow_pos (by decide)
    have en : n / 16 ^ k < 16 := by rw [Nat.pow_succ] at hn; exact (Nat.div_lt_iff_lt_mul hp).2 (by omega)
    have em : m / 16 ^ k < 16 := by rw [Nat.pow_succ] at hm; exact (Nat.div_lt_iff_lt_mul hp).2 (by omega)
    have h1 := dig_inj (Nat.mod_lt _ (by decide)) (Nat.mod_lt _ (by decide)) h.1
    rw [Nat.mod_eq_of_lt en, Nat.mod_eq_of_lt em] at h1
    have lowmod : ∀ j q, j ≤ k → low j q = low j (q % 16 ^ k) := by
      intro j
      induction j with
      | zero => intro q _; rfl
      | succ j ihj =>
        intro q hj
        simp only [low]
        rw [← ihj q (by omega)]
        have : q / 16 ^ j % 16 = q % 16 ^ k / 16 ^ j % 16 := by
          have hk : 16 ^ k = 16 ^ j * (16 * 16 ^ (k - j - 1)) := by rw [← Nat.mul_assoc, ← Nat.pow_succ, ← Nat.pow_add]; congr 1; omega
          rw [hk, Nat.mod_mul_right_div_self, Nat.mod_mul_right_mod]
        rw [this]
    have h2 := ih (Nat.mod_lt n hp) (Nat.mod_lt m hp) (by rw [← lowmod k n (Nat.le_refl _), ← lowmod k m (Nat.le_refl _)]; exact h.2)
    rw [← Nat.div_add_mod n (16 ^ k), ← Nat.div_add_mod m (16 ^ k), h1, h2]

theorem hexLen_pos (n : Nat) : 1 ≤ hexLen n := by unfold hexLen; split <;> omega
theorem hexLen_spec (n : Nat) : n < 16 ^ hexLen n := by
  induction n using Nat.strongRecOn with
  | _ n ih =>
    unfold hexLen
    split
    · simpa using by assumption
    · have := ih (n / 16) (by omega)
      rw [Nat.pow_succ]
      omega
theorem hexLen_le (k n : Nat) (h : n < 16 ^ (k + 1)) : hexLen n ≤ k + 1 := by
  induction k generalizing n with
  | zero => unfold hexLen; simp at h; rw [if_pos h]; omega
  | succ k ih =>
    unfold hexLen
    split
    · omega
    · have := ih (n / 16) (by rw [Nat.pow_succ] at h; omega)
      omega
theorem hexLen_le16 (n : Nat) (h : n < 18446744073709551616) : hexLen n ≤ 16 := hexLen_le 15 n (by simpa using h)
theorem hexLen_small (n : Nat) (h : n < 16) : hexLen n = 1 := by unfold hexLen; rw [if_pos h]
theorem hexLen_big (n : Nat) (h : 16 ≤ n) : hexLen n = hexLen (n / 16) + 1 := by
  conv => lhs; unfold hexLen
  rw [if_neg (by omega)]
theorem low_high (m k n : Nat) (h : n < 16 ^ m) : low (k + m) n = List.replicate k 48 ++ low m n := by
  induction k with
  | zero => simp
  | succ k ih =>
    rw [show k + 1 + m = (k + m) + 1 by omega, low, ih, List.replicate_succ, List.cons_append]
    have : n / 16 ^ (k + m) = 0 := Nat.div_eq_of_lt (Nat.lt_of_lt_of_le h (Nat.pow_le_pow_right (by decide) (by omega)))
    rw [this]; rfl
theorem low_pad (n : Nat) (h : n < 18446744073709551616) : low 16 n = List.replicate (16 - hexLen n) 48 ++ low (hexLen n) n := by
  have h16 := hexLen_le16 n h
  have := low_high (hexLen n) (16 - hexLen n) n (hexLen_spec n)
  rwa [show 16 - hexLen n + hexLen n = 16 by omega] at this

theorem sumL_length (t : List UInt8) : (sumL t).length = 16 := low_length _ _
theorem sumL_inj {t u : List UInt8} (h : sumL t = sumL u) : endSt t = endSt u :=
  BitVec.eq_of_toNat_eq (low_inj 16 (by simpa using (endSt t).isLt) (by simpa using (endSt u).isLt) h)
end Go.Proofs.YtpogffdbencfnaaGreatDoor
