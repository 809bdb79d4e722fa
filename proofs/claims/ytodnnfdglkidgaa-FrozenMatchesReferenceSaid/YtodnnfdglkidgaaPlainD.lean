/- The reference's way: the balance of each day, added up. -/
import Derived.Test.YtodnnfdglkidgaaPlainC
set_option linter.unusedVariables false
namespace Go.Proofs.Ytodnnfdglkidgaa
open Go.RowKit

/-- The units of the first j movements that are not after day x. -/
def onD (ms : List (Int × Int)) (x : Int) : Nat → Int
  | 0 => 0
  | j + 1 => onD ms x j + (if dayAt ms j ≤ x then unitAt ms j else 0)
/-- The balances of n days from d0 on, of the first L movements. -/
def sumOn (ms : List (Int × Int)) (d0 : Int) (L : Nat) : Nat → Int
  | 0 => 0
  | n + 1 => sumOn ms d0 L n + onD ms (d0 + n) L
def wsum (ms : List (Int × Int)) (x : Int) : Nat → Int
  | 0 => 0
  | k + 1 => wsum ms x k + unitAt ms k * (x - dayAt ms k)

theorem wsum_diff (ms : List (Int × Int)) (x y : Int) : ∀ k, k ≤ ms.length → wsum ms x k = wsum ms y k + balTo ms k * (x - y)
  | 0, _ => by simp [wsum, balTo]
  | k + 1, h => by
    rw [wsum, wsum, wsum_diff ms x y k (by omega), balTo_succ ms k (by omega), Int.add_mul]
    have : unitAt ms k * (x - dayAt ms k) = unitAt ms k * (y - dayAt ms k) + unitAt ms k * (x - y) := by rw [← Int.mul_add]; congr 1; omega
    omega
theorem tot_wsum (ms : List (Int × Int)) : ∀ k, k ≤ ms.length → tot ms k = wsum ms (dayAt ms (k - 1)) k
  | 0, _ => rfl
  | k + 1, h => by
    rw [tot, tot_wsum ms k (by omega), wsum, Nat.add_sub_cancel, Int.sub_self, Int.mul_zero, Int.add_zero, wsum_diff ms (dayAt ms k) (dayAt ms (k - 1)) k (by omega)]
theorem total_wsum (ms : List (Int × Int)) (day : Int) : total ms day = wsum ms day ms.length := by
  unfold total
  rw [tot_wsum ms _ (Nat.le_refl _), wsum_diff ms day (dayAt ms (ms.length - 1)) _ (Nat.le_refl _)]

def cnt (c d0 u : Int) : Nat → Int
  | 0 => 0
  | n + 1 => cnt c d0 u n + (if c ≤ d0 + n then u else 0)
theorem cnt_zero (c d0 u : Int) : ∀ n : Nat, d0 + n ≤ c → cnt c d0 u n = 0
  | 0, _ => rfl
  | n + 1, h => by rw [cnt, cnt_zero c d0 u n (by omega), if_neg (by omega)]; rfl
theorem cnt_eq (c d0 u : Int) (h0 : d0 ≤ c) : ∀ n : Nat, c ≤ d0 + n → cnt c d0 u n = u * (d0 + n - c)
  | 0, h => by
    have : d0 + ((0 : Nat) : Int) - c = 0 := by omega
    rw [this]; simp [cnt]
  | n + 1, h => by
    by_cases hc : c ≤ d0 + n
    · rw [cnt, cnt_eq c d0 u h0 n hc, if_pos hc]
      have : d0 + ((n + 1 : Nat) : Int) - c = (d0 + n - c) + 1 := by omega
      rw [this, Int.mul_add]; omega
    · rw [cnt, cnt_zero c d0 u n (by omega), if_neg hc]
      have : d0 + ((n + 1 : Nat) : Int) - c = 0 := by omega
      rw [this]; simp
theorem sumOn_zero (ms : List (Int × Int)) (d0 : Int) : ∀ n, sumOn ms d0 0 n = 0
  | 0 => rfl
  | n + 1 => by rw [sumOn, sumOn_zero ms d0 n]; rfl
theorem sumOn_succ (ms : List (Int × Int)) (d0 : Int) (L : Nat) : ∀ n, sumOn ms d0 (L + 1) n = sumOn ms d0 L n + cnt (dayAt ms L) d0 (unitAt ms L) n
  | 0 => rfl
  | n + 1 => by rw [sumOn, sumOn, sumOn_succ ms d0 L n, cnt, onD]; omega
theorem Good.mono' {ms : List (Int × Int)} (h : Good ms) (i : Nat) : ∀ j, i ≤ j → j < ms.length → dayAt ms i ≤ dayAt ms j
  | 0, h1, _ => by obtain rfl : i = 0 := by omega
                   exact Int.le_refl _
  | j + 1, h1, h2 => by
    by_cases e : i = j + 1
    · subst e; exact Int.le_refl _
    · exact Int.le_trans (h.mono' i j (by omega) (by omega)) (h.mono j h2)
theorem sumOn_wsum {ms : List (Int × Int)} (h : Good ms) (n : Nat) (hn : dayAt ms (ms.length - 1) ≤ dayAt ms 0 + n) : ∀ L, L ≤ ms.length → sumOn ms (dayAt ms 0) L n = wsum ms (dayAt ms 0 + n) L
  | 0, _ => by rw [sumOn_zero]; rfl
  | L + 1, hL => by
    have a := h.mono' 0 L (by omega) (by omega)
    have b := h.mono' L (ms.length - 1) (by omega) (by omega)
    rw [sumOn_succ, sumOn_wsum h n hn L (by omega), cnt_eq _ _ _ a n (by omega), wsum]
theorem sumOn_total {ms : List (Int × Int)} (h : Good ms) (n : Nat) (hn : dayAt ms (ms.length - 1) ≤ dayAt ms 0 + n) : sumOn ms (dayAt ms 0) ms.length n = total ms (dayAt ms 0 + n) := by
  rw [sumOn_wsum h n hn _ (Nat.le_refl _), total_wsum]

theorem onD_bal {ms : List (Int × Int)} (h : Good ms) (x : Int) : ∀ j, j ≤ ms.length → ∃ m, m ≤ j ∧ onD ms x j = balTo ms m ∧ (m = j ∨ x < dayAt ms m)
  | 0, _ => ⟨0, Nat.le_refl _, by simp [onD, balTo], .inl rfl⟩
  | j + 1, hj => by
    obtain ⟨m, h1, h2, h3⟩ := onD_bal h x j (by omega)
    by_cases hx : dayAt ms j ≤ x
    · have hm : m = j := by
        rcases h3 with e | e
        · exact e
        · by_cases e2 : m = j
          · exact e2
          · have := h.mono' m j h1 (by omega); omega
      subst hm
      exact ⟨m + 1, Nat.le_refl _, by rw [onD, if_pos hx, h2, balTo_succ ms m (by omega)], .inl rfl⟩
    · refine ⟨m, by omega, by rw [onD, if_neg hx, h2]; omega, ?_⟩
      rcases h3 with e | e
      · subst e; right; omega
      · exact .inr e
theorem onD_bd {ms : List (Int × Int)} (h : Good ms) (x : Int) (j : Nat) (hj : j ≤ ms.length) : 0 ≤ onD ms x j ∧ onD ms x j ≤ 1000000000000 := by
  obtain ⟨m, h1, h2, _⟩ := onD_bal h x j hj
  rw [h2]; exact h.bal m (by omega)
theorem sumOn_bd {ms : List (Int × Int)} (h : Good ms) (d0 : Int) : ∀ n : Nat, 0 ≤ sumOn ms d0 ms.length n ∧ sumOn ms d0 ms.length n ≤ 1000000000000 * n
  | 0 => by simp [sumOn]
  | n + 1 => by
    have a := sumOn_bd h d0 n
    have b := onD_bd h (d0 + n) ms.length (Nat.le_refl _)
    rw [sumOn]; omega

/-- Whole units and the rest after n days. -/
def wh (ms : List (Int × Int)) (r d0 : Int) (n : Nat) : Int := sumOn ms d0 ms.length n * r / 3650000
def rs (ms : List (Int × Int)) (r d0 : Int) (n : Nat) : Int := sumOn ms d0 ms.length n * r % 3650000
theorem wh_zero (ms : List (Int × Int)) (r d0 : Int) : wh ms r d0 0 = 0 := by simp [wh, sumOn]
theorem rs_zero (ms : List (Int × Int)) (r d0 : Int) : rs ms r d0 0 = 0 := by simp [rs, sumOn]
theorem rs_bd (ms : List (Int × Int)) (r d0 : Int) (n : Nat) : 0 ≤ rs ms r d0 n ∧ rs ms r d0 n < 3650000 := by unfold rs; omega
theorem wh_bd {ms : List (Int × Int)} (h : Good ms) (r d0 : Int) (h0 : 0 ≤ r) (h1 : r ≤ 10000) (n : Nat) (hn : n ≤ 100000) : 0 ≤ wh ms r d0 n ∧ wh ms r d0 n ≤ 300000000000000 := by
  have a := sumOn_bd h d0 n
  have b := prod_bd r (sumOn ms d0 ms.length n) 10000 h0 h1 a.1
  rw [Int.mul_comm r] at b
  unfold wh
  omega
theorem wh_succ (ms : List (Int × Int)) (r d0 : Int) (n : Nat) : wh ms r d0 (n + 1) = wh ms r d0 n + (rs ms r d0 n + onD ms (d0 + n) ms.length * r) / 3650000 := by
  unfold wh rs; rw [sumOn, Int.add_mul]; omega
theorem rs_succ (ms : List (Int × Int)) (r d0 : Int) (n : Nat) : rs ms r d0 (n + 1) = (rs ms r d0 n + onD ms (d0 + n) ms.length * r) % 3650000 := by
  unfold rs; rw [sumOn, Int.add_mul]; omega
theorem wh_total {ms : List (Int × Int)} (h : Good ms) (r : Int) (n : Nat) (hn : dayAt ms (ms.length - 1) ≤ dayAt ms 0 + n) : wh ms r (dayAt ms 0) n = interestOf r (total ms (dayAt ms 0 + n)) := by
  rw [floor_mul, ← sumOn_total h n hn]; rfl
end Go.Proofs.Ytodnnfdglkidgaa
