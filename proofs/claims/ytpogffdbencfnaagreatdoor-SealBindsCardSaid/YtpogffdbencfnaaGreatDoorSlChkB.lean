import Derived.Test.YtpogffdbencfnaaGreatDoorSlChk
set_option linter.unusedVariables false
namespace Go.Proofs.YtpogffdbencfnaaGreatDoor
open Go Go.RowKit

theorem buJ_size : ∀ (p : List ByteArray) (d : ByteArray) (i : Nat), d.size ≤ 16 → (∀ s ∈ p, s.size ≤ 16) → ∀ t ∈ buJ d i p, t.size ≤ 1099511627776
  | [], d, i, _, _, t, ht => by simp [buJ] at ht
  | x :: r, d, i, hd, hp, t, ht => by
    have hx := hp x (by simp)
    have hr : ∀ s ∈ r, s.size ≤ 16 := fun s hs => hp s (by simp [hs])
    rw [buJ] at ht
    split at ht
    · rcases List.mem_cons.1 ht with rfl | ht
      · exact jB_small _ 16 (by simp; exact ⟨by decide, hx, hd⟩) (by decide) (by simp)
      · exact buJ_size r _ _ (by rw [dg_size]; omega) hr t ht
    · rcases List.mem_cons.1 ht with rfl | ht
      · exact jB_small _ 16 (by simp; exact ⟨by decide, hd, hx⟩) (by decide) (by simp)
      · exact buJ_size r _ _ (by rw [dg_size]; omega) hr t ht
theorem buJ_len : ∀ (p : List ByteArray) (d : ByteArray) (i : Nat), (buJ d i p).length = p.length
  | [], _, _ => rfl
  | x :: r, d, i => by rw [buJ]; split <;> simp [buJ_len r]
theorem checkedT_size (m : ByteArray) (idx : Nat) {sig path : List ByteArray} (h1 : ∀ s ∈ sig, s.size ≤ 16) (h2 : ∀ s ∈ path, s.size ≤ 16) : ∀ t ∈ checkedT m idx sig path, t.size ≤ 1099511627776 := by
  intro t ht
  rw [← checkedT_eq] at ht
  rcases List.mem_append.1 ht with e | e
  · rcases List.mem_append.1 e with e | e
    · unfold chkT at e
      obtain ⟨k, _, htk⟩ := List.mem_flatMap.1 e
      unfold chainedT at htk
      obtain ⟨j, _, rfl⟩ := List.mem_map.1 htk
      have := getD_size h1 k
      cases j with
      | zero => exact Nat.le_trans this (by decide)
      | succ j => rw [chainS, sumS_size]; omega
    · simp only [List.mem_cons, List.not_mem_nil, or_false] at e
      rcases e with rfl | rfl
      · exact jB_small (sealEnds m sig) 16 (sealEnds_small m h1) (by decide) (by simp [sealEnds])
      · exact jB_small _ 16 (by simp; exact ⟨by decide, by rw [dg_size]; omega⟩) (by decide) (by simp)
  · exact buJ_size path _ idx (by rw [dg_size]; omega) h2 t e
theorem checkedT_len (m : ByteArray) (idx : Nat) (sig path : List ByteArray) (h : path.length ≤ 8) : (checkedT m idx sig path).length ≤ 400 := by
  rw [← checkedT_eq, List.length_append, List.length_append, buJ_len]
  have := chkT_len m sig 18
  simp only [List.length_cons, List.length_nil]
  omega
theorem pathT_16 (l : List ByteArray) (i : Nat) : ∀ s ∈ pathT l i, s.size ≤ 16 := fun s hs => by
  have := isS_size (List.all_eq_true.1 (path_isS l i) s hs); omega
theorem sigT_16 (secret : ByteArray) (i : Nat) (m : ByteArray) : ∀ s ∈ sigT secret i m, s.size ≤ 16 := fun s hs => by
  unfold sigT at hs
  obtain ⟨k, _, rfl⟩ := List.mem_map.1 hs
  rw [chain16 (startT_size _ _ _)]; omega
theorem short_szB {l : List ByteArray} (h : shortB l = true) : ∀ s ∈ l, s.size ≤ 300 := by
  unfold shortB at h
  simpa using h
theorem short3_callsB (a b c : ByteArray) (w : World) (ha : a.size ≤ 9223372036854775807) (hb : b.size ≤ 9223372036854775807) (hc : c.size ≤ 9223372036854775807) :
    Calls Tryz.prog 8 #[.slice (some ⟨w.heap.size, 0, none⟩) 3 3] (w.alloc (.cells #[.string a, .string b, .string c] 9)) fun e w' => e = .returned (.bool (shortB [a, b, c])) ∧ Below w.heap.size w w' := by
  refine (short_calls _ [a, b, c] _ (strc_lit w [a, b, c] (show 3 ≤ maxLen by decide)) (by simp; exact ⟨ha, hb, hc⟩)).mono ?_
  rintro e w' ⟨rfl, rfl⟩
  exact ⟨rfl, (Below.refl _ _).alloc (Nat.le_refl _) _⟩
theorem short2_callsB (a b : ByteArray) (w : World) (ha : a.size ≤ 9223372036854775807) (hb : b.size ≤ 9223372036854775807) :
    Calls Tryz.prog 8 #[.slice (some ⟨w.heap.size, 0, none⟩) 2 2] (w.alloc (.cells #[.string a, .string b] 9)) fun e w' => e = .returned (.bool (shortB [a, b])) ∧ Below w.heap.size w w' := by
  refine (short_calls _ [a, b] _ (strc_lit w [a, b] (show 2 ≤ maxLen by decide)) (by simp; exact ⟨ha, hb⟩)).mono ?_
  rintro e w' ⟨rfl, rfl⟩
  exact ⟨rfl, (Below.refl _ _).alloc (Nat.le_refl _) _⟩
theorem pow_factsB (h : Nat) (hh : h ≤ 8) : 0 < (2 : Int) ^ h ∧ (2 : Int) ^ h ≤ 256 ∧ ((2 ^ h : Nat) : Int) = (2 : Int) ^ h := by
  have e : ((2 ^ h : Nat) : Int) = (2 : Int) ^ h := by simp
  have h1 := Nat.pow_pos (n := h) (show 0 < 2 by decide)
  have h2 := Nat.pow_le_pow_right (n := 2) (by decide) hh
  rw [← e]
  generalize 2 ^ h = p at *
  omega
end Go.Proofs.YtpogffdbencfnaaGreatDoor
