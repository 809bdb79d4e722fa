/- The account as plain data: what a step answers, and what it leaves. No program in sight. -/
import Derived.Test.YtodnnfdglkidgaaTot
set_option linter.unusedVariables false
namespace Go.Proofs.Ytodnnfdglkidgaa
open Go.RowKit

def errOpen (cl : Bool) : Int := if cl then 29 else 0
def errOrder (ms : List (Int × Int)) (d : Int) : Int := if d < dayAt ms (ms.length - 1) then 14 else 0
def errCov (ms : List (Int × Int)) (u : Int) : Int := if balTo ms ms.length + u < 0 then 21 else 0
def errBnd (ms : List (Int × Int)) (u : Int) : Int := if 1000 ≤ ms.length ∨ 1000000000000 < balTo ms ms.length + u then 2 else 0
def errLic (lic : Bool) : Int := if lic then 0 else 20
/-- The first error of the five checks. -/
def errAdd (cl lic : Bool) (ms : List (Int × Int)) (d u : Int) : Int :=
  if errOpen cl ≠ 0 then errOpen cl else if errLic lic ≠ 0 then errLic lic else if errOrder ms d ≠ 0 then errOrder ms d else if errCov ms u ≠ 0 then errCov ms u else errBnd ms u
/-- What a day and units may be. -/
def okDU (d u : Int) : Prop := (0 ≤ d ∧ d ≤ 100000) ∧ (1 ≤ u ∧ u ≤ 1000000000000)
/-- The movements with other units for one of them. -/
def fixed (ms : List (Int × Int)) (i : Nat) (u : Int) : List (Int × Int) := ms.set i (dayAt ms i, u)
/-- Every balance is within its bounds. -/
def okBal (x : Int × Int) : Prop := 0 ≤ x.2 ∧ x.2 ≤ 1000000000000
def allIn (ms : List (Int × Int)) : Prop := ∀ x ∈ pers ms ms.length, okBal x

theorem fixed_length (ms : List (Int × Int)) (i : Nat) (u : Int) : (fixed ms i u).length = ms.length := by simp [fixed]
theorem allIn_iff (ms : List (Int × Int)) : allIn ms ↔ ∀ k, 1 ≤ k → k ≤ ms.length → 0 ≤ balTo ms k ∧ balTo ms k ≤ 1000000000000 := by
  unfold allIn pers okBal
  constructor
  · intro h k h1 h2
    have := h (dayAt ms (k - 1), balTo ms (k - 1 + 1)) (List.mem_map.2 ⟨k - 1, by simp; omega, rfl⟩)
    rwa [Nat.sub_add_cancel h1] at this
  · intro h x hx
    obtain ⟨j, hj, rfl⟩ := List.mem_map.1 hx
    exact h (j + 1) (by omega) (by simp at hj; omega)

theorem balTo_append (a b : List (Int × Int)) (k : Nat) (h : k ≤ a.length) : balTo (a ++ b) k = balTo a k := by
  unfold balTo; rw [List.take_append_of_le_length h]
theorem balTo_snoc (a : List (Int × Int)) (x : Int × Int) : balTo (a ++ [x]) (a.length + 1) = balTo a a.length + x.2 := by
  unfold balTo; rw [List.take_of_length_le (by simp), List.take_of_length_le (by simp)]; simp
theorem dayAt_append (a b : List (Int × Int)) (k : Nat) (h : k < a.length) : dayAt (a ++ b) k = dayAt a k := by
  unfold dayAt; simp [List.getElem?_append_left h]
theorem dayAt_snoc (a : List (Int × Int)) (x : Int × Int) : dayAt (a ++ [x]) a.length = x.1 := by
  unfold dayAt; simp
theorem dayAt_fixed (ms : List (Int × Int)) (i : Nat) (u : Int) (k : Nat) : dayAt (fixed ms i u) k = dayAt ms k := by
  unfold fixed
  by_cases h : i = k
  · subst h
    by_cases hl : i < ms.length
    · simp [dayAt, hl]
    · simp [dayAt, List.set_eq_of_length_le (by omega : ms.length ≤ i)]
  · simp [dayAt, List.getElem?_set_ne h]
theorem balTo_fixed (ms : List (Int × Int)) (i : Nat) (u : Int) (hi : i < ms.length) : ∀ k, k ≤ ms.length → balTo (fixed ms i u) k = balTo ms k + (if i < k then u - unitAt ms i else 0)
  | 0, _ => by simp [balTo]
  | k + 1, hk => by
    have ih := balTo_fixed ms i u hi k (by omega)
    rw [balTo_succ _ k (by rw [fixed_length]; omega), balTo_succ _ k (by omega), ih]
    by_cases h : i = k
    · subst h
      have : unitAt (fixed ms i u) i = u := by simp [unitAt, fixed, hi]
      rw [this]; simp; omega
    · have : unitAt (fixed ms i u) k = unitAt ms k := by simp [unitAt, fixed, List.getElem?_set_ne h]
      rw [this]
      by_cases h2 : i < k
      · rw [if_pos h2, if_pos (by omega)]; omega
      · rw [if_neg h2, if_neg (by omega)]; omega

theorem Good.unit {ms : List (Int × Int)} (h : Good ms) (i : Nat) (hi : i < ms.length) : -1000000000000 ≤ unitAt ms i ∧ unitAt ms i ≤ 1000000000000 := by
  have a := h.bal i (by omega)
  have b := h.bal (i + 1) (by omega)
  rw [balTo_succ ms i hi] at b
  omega
theorem Good.fixedBnd {ms : List (Int × Int)} (h : Good ms) (i : Nat) (hi : i < ms.length) (u : Int) (h1 : -1000000000000 ≤ u) (h2 : u ≤ 1000000000000) : Bnd (fixed ms i u) := by
  refine ⟨by rw [fixed_length]; have := h.len2; omega, fun k hk => ?_⟩
  rw [fixed_length] at hk
  have a := h.bal k hk
  have b := h.unit i hi
  rw [balTo_fixed ms i u hi k hk]
  split <;> omega
theorem Good.fixed {ms : List (Int × Int)} (h : Good ms) (i : Nat) (u : Int) (ha : allIn (fixed ms i u)) : Good (fixed ms i u) := by
  refine ⟨by rw [fixed_length]; exact h.len1, by rw [fixed_length]; exact h.len2, fun k hk => ?_, fun k hk => ?_, fun k hk => ?_⟩
  · rw [fixed_length] at hk; rw [dayAt_fixed]; exact h.day k hk
  · rw [fixed_length] at hk; rw [dayAt_fixed, dayAt_fixed]; exact h.mono k hk
  · cases k with
    | zero => rw [balTo_zero]; omega
    | succ k => exact (allIn_iff _).1 ha (k + 1) (by omega) hk
theorem Good.snoc {ms : List (Int × Int)} (h : Good ms) (d u : Int) (hd : 0 ≤ d ∧ d ≤ 100000) (h1 : dayAt ms (ms.length - 1) ≤ d) (h2 : ms.length < 1000) (h3 : 0 ≤ balTo ms ms.length + u) (h4 : balTo ms ms.length + u ≤ 1000000000000) : Good (ms ++ [(d, u)]) := by
  have hl : (ms ++ [(d, u)]).length = ms.length + 1 := by simp
  have hl1 := h.len1
  refine ⟨by omega, by omega, fun k hk => ?_, fun k hk => ?_, fun k hk => ?_⟩
  · by_cases hk2 : k < ms.length
    · rw [dayAt_append _ _ _ hk2]; exact h.day k hk2
    · obtain rfl : k = ms.length := by omega
      rw [dayAt_snoc]; exact hd
  · by_cases hk2 : k + 1 < ms.length
    · rw [dayAt_append _ _ _ hk2, dayAt_append _ _ _ (by omega)]; exact h.mono k hk2
    · have e : k + 1 = ms.length := by omega
      rw [dayAt_append _ _ _ (by omega), e, dayAt_snoc]
      have : ms.length - 1 = k := by omega
      rw [this] at h1; exact h1
  · by_cases hk2 : k ≤ ms.length
    · rw [balTo_append _ _ _ hk2]; exact h.bal k hk2
    · obtain rfl : k = ms.length + 1 := by omega
      rw [balTo_snoc]; exact ⟨h3, h4⟩

theorem errAdd_zero {cl lic : Bool} {ms : List (Int × Int)} {d u : Int} (h : errAdd cl lic ms d u = 0) : cl = false ∧ lic = true ∧ dayAt ms (ms.length - 1) ≤ d ∧ 0 ≤ balTo ms ms.length + u ∧ ms.length < 1000 ∧ balTo ms ms.length + u ≤ 1000000000000 := by
  unfold errAdd errOpen errLic errOrder errCov errBnd at h
  cases cl
  · cases lic
    · simp at h
    · simp only [Bool.false_eq_true, if_false, if_true, ne_eq, not_true] at h
      by_cases a : d < dayAt ms (ms.length - 1)
      · simp [a] at h
      · by_cases b : balTo ms ms.length + u < 0
        · simp [a, b] at h
        · by_cases c : 1000 ≤ ms.length ∨ 1000000000000 < balTo ms ms.length + u
          · simp [a, b, c] at h
          · exact ⟨rfl, rfl, by omega, by omega, by omega, by omega⟩
  · simp at h

open Classical in
/-- What Receive answers. -/
noncomputable def recE (cl : Bool) (ms : List (Int × Int)) (d u : Int) : Int := if okDU d u then errAdd cl true ms d u else 1
open Classical in
noncomputable def movE (cl lic : Bool) (ms : List (Int × Int)) (d u : Int) : Int := if okDU d u then errAdd cl lic ms d (-u) else 1
open Classical in
noncomputable def corE (cl : Bool) (ms : List (Int × Int)) (i u : Int) : Int :=
  if -1000000000000 ≤ u ∧ u ≤ 1000000000000 then (if cl then 29 else if 0 ≤ i ∧ i < (ms.length : Int) then (if allIn (fixed ms i.toNat u) then 0 else 21) else 11) else 1
/-- What a step answers. -/
noncomputable def stepE (cl : Bool) (ms : List (Int × Int)) (k d u : Int) (lic : Bool) : Int := if k = 0 then recE cl ms d u else if k = 1 then movE cl lic ms d u else corE cl ms d u
/-- What a step leaves. -/
noncomputable def stepM (cl : Bool) (ms : List (Int × Int)) (k d u : Int) (lic : Bool) : List (Int × Int) :=
  if stepE cl ms k d u lic = 0 then (if k = 0 then ms ++ [(d, u)] else if k = 1 then ms ++ [(d, -u)] else fixed ms d.toNat u) else ms

theorem Good.step {ms : List (Int × Int)} (h : Good ms) (cl : Bool) (k d u : Int) (lic : Bool) : Good (stepM cl ms k d u lic) := by
  unfold stepM
  by_cases hE : stepE cl ms k d u lic = 0
  · rw [if_pos hE]
    unfold stepE at hE
    by_cases h0 : k = 0
    · rw [if_pos h0] at hE ⊢
      unfold recE at hE
      by_cases ho : okDU d u
      · rw [if_pos ho] at hE
        obtain ⟨_, _, a, b, c, e⟩ := errAdd_zero hE
        exact h.snoc d u ho.1 a c b e
      · rw [if_neg ho] at hE; simp at hE
    · rw [if_neg h0] at hE ⊢
      by_cases h1 : k = 1
      · rw [if_pos h1] at hE ⊢
        unfold movE at hE
        by_cases ho : okDU d u
        · rw [if_pos ho] at hE
          obtain ⟨_, _, a, b, c, e⟩ := errAdd_zero hE
          exact h.snoc d (-u) ho.1 a c b e
        · rw [if_neg ho] at hE; simp at hE
      · rw [if_neg h1] at hE ⊢
        unfold corE at hE
        by_cases hu : -1000000000000 ≤ u ∧ u ≤ 1000000000000
        · rw [if_pos hu] at hE
          cases cl
          · by_cases hi : 0 ≤ d ∧ d < (ms.length : Int)
            · by_cases ha : allIn (Go.Proofs.Ytodnnfdglkidgaa.fixed ms d.toNat u)
              · exact h.fixed _ _ ha
              · simp [hi, ha] at hE
            · simp [hi] at hE
          · simp at hE
        · rw [if_neg hu] at hE; simp at hE
  · rw [if_neg hE]; exact h

end Go.Proofs.Ytodnnfdglkidgaa
