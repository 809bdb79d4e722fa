import Derived.Test.YtpogffdbencfnaaGreatDoorTrPath
set_option linter.unusedVariables false
namespace Go.Proofs.YtpogffdbencfnaaGreatDoor
open Go Go.RowKit

theorem own_lit (w : World) (ls : List ByteArray) (hl : ls.length ≤ maxLen) : Own w.heap.size (w.alloc (.cells (ls.map Value.string).toArray 9)) (.slice (some ⟨w.heap.size, 0, none⟩) ls.length ls.length) ls := by
  have := World.ownsRow_lit (e := 9) (size := 1) w (ls.map Value.string).toArray ls.length (Nat.le_refl _) hl (by simp)
  simpa [Own] using this
theorem ready_wanted {c : Bool} {A B : Prop} (h : c = true) (ha : A) : if c = true then A else B := by rw [if_pos h]; exact ha
end Go.Proofs.YtpogffdbencfnaaGreatDoor
