import Derived.Test.YtpogffdbencfnaaGreatDoorSlMade
set_option linter.unusedVariables false
namespace Go.Proofs.YtpogffdbencfnaaGreatDoor
open Go Go.RowKit

theorem nodesJ_size : ∀ (h : Nat) (L : List ByteArray), (∀ s ∈ L, s.size ≤ 16) → ∀ t ∈ nodesJ h L, t.size ≤ 1099511627776
  | 0, _, _, t, ht => by simp [nodesJ] at ht
  | h + 1, L, hL, t, ht => by
    rw [nodesJ] at ht
    rcases List.mem_append.1 ht with e | e
    · have hp : ∀ (L : List ByteArray), (∀ s ∈ L, s.size ≤ 16) → ∀ t ∈ pairJ L, t.size ≤ 1099511627776 := by
        intro L
        induction L using pairJ.induct with
        | case1 a b r ih =>
          intro hL t ht
          simp only [pairJ, List.mem_cons] at ht
          rcases ht with rfl | ht
          · exact jB_small _ 16 (by simp; exact ⟨by decide, hL a (by simp), hL b (by simp)⟩) (by decide) (by simp)
          · exact ih (fun s hs => hL s (by simp [hs])) t ht
        | case2 l h =>
          intro hL t ht
          match l, h with
          | [], _ => simp [pairJ] at ht
          | [a], _ => simp [pairJ] at ht
          | a :: b :: r, h => exact absurd rfl (h a b r)
      exact hp L hL t e
    · have hd : ∀ (L : List ByteArray), ∀ s ∈ pairD L, s.size ≤ 16 := by
        intro L
        induction L using pairD.induct with
        | case1 a b r ih =>
          intro s hs
          simp only [pairD, List.mem_cons] at hs
          rcases hs with rfl | hs
          · rw [dg_size]; omega
          · exact ih s hs
        | case2 l h =>
          intro s hs
          match l, h with
          | [], _ => simp [pairD] at hs
          | [a], _ => simp [pairD] at hs
          | a :: b :: r, h => exact absurd rfl (h a b r)
      exact nodesJ_size h (pairD L) (hd L) t e
theorem chain16M {s : ByteArray} (h : s.size = 16) (n : Nat) : (chainS s n).size = 16 := by
  cases n with
  | zero => exact h
  | succ n => exact sumS_size _
theorem madeT_size (secret : ByteArray) (h n : Nat) (hs : secret.size ≤ 300) (hh : h ≤ 3) : ∀ t ∈ madeT secret h n, t.size ≤ 1099511627776 := by
  have hp8 : 2 ^ h ≤ 8 := Nat.pow_le_pow_right (n := 2) (by decide) hh
  intro t ht
  unfold madeT at ht
  rcases List.mem_append.1 ht with e | e
  · obtain ⟨i, hi, hti⟩ := List.mem_flatMap.1 e
    have hi := List.mem_range.1 hi
    unfold madeKey at hti
    rcases List.mem_append.1 hti with e | e
    · obtain ⟨k, hk, htk⟩ := List.mem_flatMap.1 e
      have hk := List.mem_range.1 hk
      rcases List.mem_cons.1 htk with rfl | e
      · exact jB_small _ 300 (by
          have a : (decS i).size ≤ 21 := itoaS_le i (by omega)
          have b : (decS k).size ≤ 21 := itoaS_le k (by omega)
          simp; omega) (by decide) (by simp)
      · unfold chainedT at e
        obtain ⟨j, _, rfl⟩ := List.mem_map.1 e
        rw [chain16M (startT_size _ _ _)]; omega
    · simp only [List.mem_cons, List.not_mem_nil, or_false] at e
      rcases e with rfl | rfl
      · exact jB_small (endsT secret i) 16 (fun s h => by rw [endsT_size secret i s h]; omega) (by decide) (by simp [endsT])
      · exact jB_small _ 16 (by simp; exact ⟨by decide, by rw [keyT_size]; omega⟩) (by decide) (by simp)
  · refine nodesJ_size h _ (fun s hs => ?_) t e
    obtain ⟨x, _, rfl⟩ := List.mem_map.1 hs
    rw [show leafR x = dg [sLeaf, x] from rfl, dg_size]; omega
theorem madeT_len (secret : ByteArray) (h n : Nat) (hh : h ≤ 3) (hn : n ≤ 30) : (madeT secret h n).length ≤ 10100 := by
  have hp8 : 2 ^ h ≤ 8 := Nat.pow_le_pow_right (n := 2) (by decide) hh
  have e1 := outT_len secret n (2 ^ h)
  have e2 := nodesJ_len h ((keysT secret h).map leafR)
  rw [List.length_map, keysT_len] at e2
  have e3 : (madeT secret h n).length = (outT secret n (2 ^ h)).length + (nodesJ h ((keysT secret h).map leafR)).length := by
    unfold madeT outT; rw [List.length_append]
  rw [e3, e1]
  have := Nat.mul_le_mul hp8 (show 18 * (n + 2) + 2 ≤ 578 by omega)
  have := Nat.mul_le_mul hh hp8
  omega
end Go.Proofs.YtpogffdbencfnaaGreatDoor
