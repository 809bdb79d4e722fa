/- The examples of the chapter. -/
import Derived.Test.YtodnnfdglkidgaaJ
set_option linter.unusedVariables false
namespace Go.Proofs.Ytodnnfdglkidgaa
open Go.RowKit Go.Shelf

theorem corE_head : corE false [(10, 1000000), (15, 500000)] 0 0 = 0 := by
  have : allIn (fixed [(10, 1000000), (15, 500000)] 0 0) := by
    rw [allIn_iff]
    intro k h1 h2
    rw [fixed_length] at h2
    have hk : k = 1 ∨ k = 2 := by simp at h2; omega
    rcases hk with rfl | rfl <;> decide
  simp only [corE]
  rw [if_pos (by decide), if_neg (by decide), if_pos (by decide)]
  exact if_pos this

theorem Below.chg' {w a b : World} (h : Below w.heap.size w a) {S : List Nat} (k : Chg S a b) (hS : ∀ x ∈ S, w.heap.size ≤ x) : Below w.heap.size w b :=
  Chg.below ((Below.chg h []).trans k (fun x hx => .inr (hS x hx)))

set_option maxHeartbeats 2000000 in
theorem head_any (w : World) : Calls Try.prog 9 #[] w fun e w' => e = .returned (.bool true) ∧ Below w.heap.size w w' := by
  have q1 : Hid (recE false [(10, 1000000)] 15 500000 = 0) := by
    have h : okDU 15 500000 := by unfold okDU; omega
    show recE _ _ _ _ = _
    simp only [recE]; rw [if_pos h]; decide
  have q2 : Hid (movE false false [(10, 1000000), (15, 500000)] 15 1 = 20) := by
    have h : okDU 15 1 := by unfold okDU; omega
    show movE _ _ _ _ _ = _
    simp only [movE]; rw [if_pos h]; decide
  go_enter Try.func9, Try.ntmps9
  go_wp2_with fail
  refine (opened_any w).mono ?_
  rintro e w1 ⟨rfl, hA1, hB1⟩
  go_wp2_with fail
  refine (earns_any _ _ _ 365 730 _ good1 (by decide) (by decide) (by decide) (by decide) 10 false 0 (by decide) (by decide) (by decide) (by decide) _ hA1).mono ?_
  rintro e w2 ⟨rfl, hb2⟩
  have hA2 := hA1.below hb2
  have hB2 := hB1.trans (hb2.mono hB1.size)
  go_wp2_with fail
  refine (earns_any _ _ _ 365 730 _ good1 (by decide) (by decide) (by decide) (by decide) 11 false 100 (by decide) (by decide) (by decide) (by decide) _ hA2).mono ?_
  rintro e w3 ⟨rfl, hb3⟩
  have hA3 := hA2.below hb3
  have hB3 := hB2.trans (hb3.mono hB2.size)
  go_wp2_with fail
  refine (earns_any _ _ _ 365 730 _ good1 (by decide) (by decide) (by decide) (by decide) 20 false 1000 (by decide) (by decide) (by decide) (by decide) _ hA3).mono ?_
  rintro e w4 ⟨rfl, hb4⟩
  have hA4 := hA3.below hb4
  have hB4 := hB3.trans (hb4.mono hB3.size)
  go_wp2_with fail
  refine (earns_any _ _ _ 365 730 _ good1 (by decide) (by decide) (by decide) (by decide) 20 true 2000 (by decide) (by decide) (by decide) (by decide) _ hA4).mono ?_
  rintro e w5 ⟨rfl, hb5⟩
  have hA5 := hA4.below hb5
  have hB5 := hB4.trans (hb5.mono hB4.size)
  go_wp2_with fail
  refine (receive_all _ _ _ 365 730 _ _ good1 15 500000 _ hA5).mono ?_
  rw [q1.out, if_pos rfl]
  rintro e w6 ⟨rfl, g6, c6, hA6, hC6, hg6⟩
  have hG6 : w.heap.size ≤ g6 := by have := hB5.size; omega
  have hB6 : Below w.heap.size w w6 := Below.chg' hB5 hC6 (by simp)
  go_wp2_with fail
  refine (earns_any _ _ _ 365 730 _ good2 (by decide) (by decide) (by decide) (by decide) 20 false 1250 (by decide) (by decide) (by decide) (by decide) _ hA6).mono ?_
  rintro e w7 ⟨rfl, hb7⟩
  have hA7 := hA6.below hb7
  have hB7 := hB6.trans (hb7.mono hB6.size)
  go_wp2_with fail
  refine (move_all _ _ _ 365 730 _ _ good2 15 1 false _ hA7).mono ?_
  rw [q2.out, if_neg (by decide)]
  rintro e w8 ⟨rfl, g8, c8, hA8, hC8, hg8⟩
  have hG8 : w.heap.size ≤ g8 := by have := hB7.size; omega
  have hB8 : Below w.heap.size w w8 := Below.chg' hB7 hC8 (by simp; omega)
  go_wp2_with fail
  refine (correct_any _ _ _ 365 730 _ _ good2 0 0 _ hA8).mono ?_
  rw [corE_head, if_pos rfl]
  rintro e w9 ⟨rfl, g9, c9, hA9, hC9, hg9⟩
  have hG9 : w.heap.size ≤ g9 := by have := hB8.size; omega
  have hB9 : Below w.heap.size w w9 := Below.chg' hB8 hC9 (by simp; omega)
  go_wp2_with fail
  refine (earns_any _ _ _ 365 730 _ good3 (by decide) (by decide) (by decide) (by decide) 20 false 250 (by decide) (by decide) (by decide) (by decide) _ hA9).mono ?_
  rintro e w10 ⟨rfl, hb10⟩
  have hA10 := hA9.below hb10
  have hB10 := hB9.trans (hb10.mono hB9.size)
  go_wp2_with fail
  refine (balance_any _ _ _ 365 730 _ _ good3 _ hA10).mono ?_
  rw [show balOf false [(10, 0), (15, 500000)] = 500000 from by decide]
  rintro e w11 ⟨rfl, hb11⟩
  have hB11 := hB10.trans (hb11.mono hB10.size)
  go_wp2_with fail
  go_ret
  exact ⟨rfl, hB11⟩
end Go.Proofs.Ytodnnfdglkidgaa
