import Derived.Test.YtpogffdbencfnaaGreatDoorTrNode
import Derived.Test.YtpogffdbencfnaaGreatDoorDgRefE
set_option linter.unusedVariables false
namespace Go.Proofs.YtpogffdbencfnaaGreatDoor
open Go Go.RowKit

theorem jlit_calls (ls : List ByteArray) (w : World) (h : ∀ s ∈ ls, s.size ≤ 1099511627776) (h3 : ls.length ≤ 30) :
    Calls Tryz.prog 44 #[.slice (some ⟨w.heap.size, 0, none⟩) ls.length ls.length] (w.alloc (.cells (ls.map Value.string).toArray 9)) fun e w' => e = .returned (.string (jB ls)) ∧ Below w.heap.size w w' := by
  have hb := (Below.refl w.heap.size w).alloc (Nat.le_refl _) (.cells (ls.map Value.string).toArray 9)
  have h1 := join_le 1099511627776 ls h (Nat.le_refl _)
  have h2 := need_le 1099511627776 ls h
  have h4 : (1099511627776 + 21) * ls.length ≤ (1099511627776 + 21) * 30 := Nat.mul_le_mul_left _ h3
  refine (joined_calls _ ls _ (strs_lit w ls (by unfold maxLen; omega)) (by omega) (by omega)).mono ?_
  rintro e w' ⟨rfl, h⟩
  exact ⟨rfl, hb.trans (h.mono hb.size)⟩
end Go.Proofs.YtpogffdbencfnaaGreatDoor
