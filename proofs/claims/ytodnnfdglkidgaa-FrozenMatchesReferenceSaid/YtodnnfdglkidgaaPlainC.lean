/- Interest as plain numbers. -/
import Derived.Test.YtodnnfdglkidgaaPlainB
set_option linter.unusedVariables false
namespace Go.Proofs.Ytodnnfdglkidgaa
open Go.RowKit

def errTwo (cl : Bool) (ms : List (Int × Int)) (d : Int) : Int := if cl then 29 else errOrder ms d
open Classical in
noncomputable def intE (cl : Bool) (ms : List (Int × Int)) (to : Int) : Int := if 0 ≤ to ∧ to ≤ 100000 then errTwo cl ms to else 1
noncomputable def intZ (rate : Int) (cl : Bool) (ms : List (Int × Int)) (to : Int) : Int := if intE cl ms to = 0 then interestOf rate (total ms to) else 0

theorem floor_mul (T r : Int) : interestOf r T = T * r / 3650000 := by
  unfold interestOf
  have h : T * r = T % 3650000 * r + T / 3650000 * r * 3650000 := by
    have e := Int.emod_add_mul_ediv T 3650000
    have : T * r = (T % 3650000 + 3650000 * (T / 3650000)) * r := by rw [e]
    rw [this, Int.add_mul]
    congr 1
    rw [Int.mul_comm 3650000, Int.mul_assoc, Int.mul_comm 3650000, Int.mul_assoc]
  rw [h, Int.add_mul_ediv_right _ _ (by decide)]
  omega
theorem floor_add (r S T : Int) : interestOf r S + interestOf r T ≤ interestOf r (S + T) ∧ interestOf r (S + T) ≤ interestOf r S + interestOf r T + 1 := by
  rw [floor_mul, floor_mul, floor_mul, Int.add_mul]
  omega

theorem interest_range (r T : Int) (h0 : 0 ≤ r) (h1 : r ≤ 10000) (h2 : 0 ≤ T) (h3 : T ≤ 100000000000000000) : 0 ≤ interestOf r T ∧ interestOf r T ≤ 300000000000000 := by
  have h := interest_bd r T h0 h1 h2 h3
  unfold interestOf
  omega
theorem intE_zero {cl : Bool} {ms : List (Int × Int)} {to : Int} (h : intE cl ms to = 0) : cl = false ∧ 0 ≤ to ∧ to ≤ 100000 ∧ dayAt ms (ms.length - 1) ≤ to := by
  unfold intE at h
  by_cases hd : 0 ≤ to ∧ to ≤ 100000
  · rw [if_pos hd] at h
    unfold errTwo errOrder at h
    cases cl
    · by_cases hx : to < dayAt ms (ms.length - 1)
      · simp [hx] at h
      · exact ⟨rfl, hd.1, hd.2, by omega⟩
    · simp at h
  · rw [if_neg hd] at h; simp at h
theorem intE_yes {ms : List (Int × Int)} {to : Int} (h0 : 0 ≤ to) (h1 : to ≤ 100000) (h2 : dayAt ms (ms.length - 1) ≤ to) : intE false ms to = 0 := by
  unfold intE errTwo errOrder
  rw [if_pos ⟨h0, h1⟩]
  simp; omega
theorem intZ_range {ms : List (Int × Int)} (h : Good ms) (rate : Int) (h0 : 0 ≤ rate) (h1 : rate ≤ 10000) (cl : Bool) (to : Int) : 0 ≤ intZ rate cl ms to ∧ intZ rate cl ms to ≤ 300000000000000 := by
  unfold intZ
  by_cases hE : intE cl ms to = 0
  · rw [if_pos hE]
    obtain ⟨_, a, b, c⟩ := intE_zero hE
    have t := total_bd h to c b
    exact interest_range rate _ h0 h1 t.1 t.2
  · rw [if_neg hE]; omega
theorem total_next (ms : List (Int × Int)) (to : Int) : total ms (to + 1) = total ms to + balTo ms ms.length := by
  unfold total
  rw [show to + 1 - dayAt ms (ms.length - 1) = (to - dayAt ms (ms.length - 1)) + 1 from by omega, Int.mul_add]
  omega
theorem total_one (d x to : Int) : total [(d, x)] to = x * (to - d) := by simp [total, tot, balTo, dayAt]
theorem good_one {d x : Int} (h0 : 0 ≤ d) (h1 : d ≤ 100000) (h2 : 0 ≤ x) (h3 : x ≤ 1000000000000) : Good [(d, x)] := by
  refine ⟨by simp, by simp, fun k hk => ?_, fun k hk => by simp at hk, fun k hk => ?_⟩
  · have : k = 0 := by simp at hk; omega
    subst this; simp [dayAt, h0, h1]
  · have : k = 0 ∨ k = 1 := by simp at hk; omega
    rcases this with rfl | rfl
    · simp [balTo]
    · simp [balTo, h2, h3]
/-- The interest of the sum, for one movement each. -/
theorem together (rate d x y to : Int) : intE false [(d, x)] to = intE false [(d, y)] to ∧ intE false [(d, y)] to = intE false [(d, x + y)] to ∧
    intZ rate false [(d, x)] to + intZ rate false [(d, y)] to ≤ intZ rate false [(d, x + y)] to ∧ intZ rate false [(d, x + y)] to ≤ intZ rate false [(d, x)] to + intZ rate false [(d, y)] to + 1 := by
  have hE : ∀ z, intE false [(d, z)] to = intE false [(d, 0)] to := fun z => by unfold intE errTwo errOrder; simp [dayAt]
  unfold intZ
  rw [hE x, hE y, hE (x + y)]
  by_cases h : intE false [(d, 0)] to = 0
  · simp only [if_pos h, total_one]
    have := floor_add rate (x * (to - d)) (y * (to - d))
    rw [← Int.add_mul] at this
    exact ⟨trivial, trivial, this.1, this.2⟩
  · simp only [if_neg h]
    exact ⟨trivial, trivial, by omega, by omega⟩
/-- One day more. -/
theorem nextDay {ms : List (Int × Int)} (h : Good ms) (rate : Int) (h0 : 0 ≤ rate) (h1 : rate ≤ 10000) (to : Int) (ht : to < 100000) (hE : intE false ms to = 0) :
    intE false ms (to + 1) = 0 ∧ intZ rate false ms to ≤ intZ rate false ms (to + 1) ∧ balTo ms ms.length * rate / 3650000 ≤ intZ rate false ms (to + 1) - intZ rate false ms to ∧
    intZ rate false ms (to + 1) - intZ rate false ms to ≤ balTo ms ms.length * rate / 3650000 + 1 := by
  obtain ⟨_, a, b, c⟩ := intE_zero hE
  have hE' : intE false ms (to + 1) = 0 := intE_yes (by omega) (by omega) (by omega)
  have hb := h.bal ms.length (Nat.le_refl _)
  have hp : 0 ≤ balTo ms ms.length * rate := Int.mul_nonneg hb.1 h0
  unfold intZ
  rw [if_pos hE, if_pos hE', total_next]
  have := floor_add rate (total ms to) (balTo ms ms.length)
  have e := floor_mul (balTo ms ms.length) rate
  refine ⟨hE', ?_, ?_, ?_⟩ <;> omega
end Go.Proofs.Ytodnnfdglkidgaa
