/- The sum of the balances of all days: the program's way, without wraps. -/
import Derived.Test.YtodnnfdglkidgaaPlain
import Derived.RowKit
import Derived.IntWalk
set_option linter.unusedVariables false
namespace Go.Proofs.Ytodnnfdglkidgaa
open Go.RowKit

/-- One period: what is added, and what is carried on. -/
def stepT (s : Int × Int × Int) (x : Int × Int) : Int × Int × Int := (wrap64 (s.1 + wrap64 (s.2.2 * wrap64 (x.1 - s.2.1))), x.1, x.2)
def walkT (d0 : Int) (pre : List (Int × Int)) : Int × Int × Int := pre.foldl stepT (0, d0, 0)
def wT (d0 : Int) (pre : List (Int × Int)) : Int := (walkT d0 pre).1
def wS (d0 : Int) (pre : List (Int × Int)) : Int := (walkT d0 pre).2.1
def wH (d0 : Int) (pre : List (Int × Int)) : Int := (walkT d0 pre).2.2
theorem wT_snoc (d0 : Int) (pre : List (Int × Int)) (x : Int × Int) : wT d0 (pre ++ [x]) = wrap64 (wT d0 pre + wrap64 (wH d0 pre * wrap64 (x.1 - wS d0 pre))) := by simp [wT, wH, wS, walkT, stepT]
theorem wS_snoc (d0 : Int) (pre : List (Int × Int)) (x : Int × Int) : wS d0 (pre ++ [x]) = x.1 := by simp [wS, walkT, stepT]
theorem wH_snoc (d0 : Int) (pre : List (Int × Int)) (x : Int × Int) : wH d0 (pre ++ [x]) = x.2 := by simp [wH, walkT, stepT]
theorem wT_nil (d0 : Int) : wT d0 [] = 0 := rfl
theorem wS_nil (d0 : Int) : wS d0 [] = d0 := rfl
theorem wH_nil (d0 : Int) : wH d0 [] = 0 := rfl

/-- Movements as an account has them: in order, on days, each balance within its bounds. -/
structure Good (ms : List (Int × Int)) : Prop where
  len1 : 1 ≤ ms.length
  len2 : ms.length ≤ 1000
  day : ∀ k, k < ms.length → 0 ≤ dayAt ms k ∧ dayAt ms k ≤ 100000
  mono : ∀ k, k + 1 < ms.length → dayAt ms k ≤ dayAt ms (k + 1)
  bal : ∀ k, k ≤ ms.length → 0 ≤ balTo ms k ∧ balTo ms k ≤ 1000000000000
theorem Good.bnd {ms : List (Int × Int)} (h : Good ms) : Bnd ms := ⟨by have := h.len2; omega, fun k hk => by have := h.bal k hk; omega⟩

def tot (ms : List (Int × Int)) : Nat → Int
  | 0 => 0
  | k + 1 => tot ms k + balTo ms k * (dayAt ms k - dayAt ms (k - 1))

theorem prod_bd (a x c : Int) (h0 : 0 ≤ a) (h1 : a ≤ c) (hx : 0 ≤ x) : 0 ≤ a * x ∧ a * x ≤ c * x :=
  ⟨Int.mul_nonneg h0 hx, Int.mul_le_mul_of_nonneg_right h1 hx⟩

theorem tot_eq {ms : List (Int × Int)} (h : Good ms) : ∀ k, k ≤ ms.length → wT (dayAt ms 0) (pers ms k) = tot ms k ∧ wS (dayAt ms 0) (pers ms k) = dayAt ms (k - 1) ∧ wH (dayAt ms 0) (pers ms k) = balTo ms k ∧
    0 ≤ tot ms k ∧ tot ms k ≤ 1000000000000 * (dayAt ms (k - 1) - dayAt ms 0) ∧ dayAt ms 0 ≤ dayAt ms (k - 1)
  | 0, _ => ⟨rfl, rfl, by rw [balTo_zero]; rfl, Int.le_refl _, by simp [tot], Int.le_refl _⟩
  | k + 1, hk => by
    obtain ⟨i1, i2, i3, i4, i5, i6⟩ := tot_eq h k (by omega)
    have hb := h.bal k (by omega)
    have hd := h.day k (by omega)
    have hd0 := h.day 0 (by omega)
    have hdk := h.day (k - 1) (by omega)
    have hm : dayAt ms (k - 1) ≤ dayAt ms k := by
      cases k with
      | zero => exact Int.le_refl _
      | succ j => exact h.mono j (by omega)
    have hp := prod_bd (balTo ms k) (dayAt ms k - dayAt ms (k - 1)) 1000000000000 hb.1 hb.2 (by omega)
    rw [pers_succ, wT_snoc, wS_snoc, wH_snoc, i1, i2, i3]
    simp only [Nat.add_sub_cancel]
    have e1 : wrap64 (dayAt ms k - dayAt ms (k - 1)) = dayAt ms k - dayAt ms (k - 1) := IntWalk.wrap64_in _ (by omega)
    have e2 : wrap64 (balTo ms k * (dayAt ms k - dayAt ms (k - 1))) = balTo ms k * (dayAt ms k - dayAt ms (k - 1)) := IntWalk.wrap64_in _ (by omega)
    rw [e1, e2]
    have e3 : wrap64 (tot ms k + balTo ms k * (dayAt ms k - dayAt ms (k - 1))) = tot ms k + balTo ms k * (dayAt ms k - dayAt ms (k - 1)) := IntWalk.wrap64_in _ (by omega)
    rw [e3]
    exact ⟨rfl, trivial, trivial, by simp only [tot]; omega, by simp only [tot]; omega, by omega⟩

/-- The sum of the balances of all days up to a day. -/
def total (ms : List (Int × Int)) (day : Int) : Int := tot ms ms.length + balTo ms ms.length * (day - dayAt ms (ms.length - 1))
/-- The interest for a rate and a sum. -/
def interestOf (rate T : Int) : Int := T / 3650000 * rate + T % 3650000 * rate / 3650000

theorem total_bd {ms : List (Int × Int)} (h : Good ms) (day : Int) (h1 : dayAt ms (ms.length - 1) ≤ day) (h2 : day ≤ 100000) : 0 ≤ total ms day ∧ total ms day ≤ 100000000000000000 := by
  obtain ⟨_, _, _, i4, i5, i6⟩ := tot_eq h ms.length (Nat.le_refl _)
  have hb := h.bal ms.length (Nat.le_refl _)
  have hd0 := h.day 0 (by have := h.len1; omega)
  have hp := prod_bd (balTo ms ms.length) (day - dayAt ms (ms.length - 1)) 1000000000000 hb.1 hb.2 (by omega)
  unfold total
  omega
theorem interest_bd (rate T : Int) (h0 : 0 ≤ rate) (h1 : rate ≤ 10000) (h2 : 0 ≤ T) (h3 : T ≤ 100000000000000000) :
    (0 ≤ T / 3650000 * rate ∧ T / 3650000 * rate ≤ 273972602740000) ∧ (0 ≤ T % 3650000 * rate ∧ T % 3650000 * rate ≤ 36500000000) := by
  have a := prod_bd rate (T / 3650000) 10000 h0 h1 (by omega)
  have b := prod_bd rate (T % 3650000) 10000 h0 h1 (by omega)
  rw [Int.mul_comm rate, Int.mul_comm 10000] at a b
  omega

end Go.Proofs.Ytodnnfdglkidgaa
