import Derived.Test.YtncjbkolljgihaaDoorDgRefE
set_option linter.unusedVariables false
namespace Go.Proofs.YtncjbkolljgihaaDoor
open Go Go.RowKit

theorem is_yes (w : World) : Calls Tryd.prog 18 #[.string { data := #[48, 49, 50, 51, 52, 53, 54, 55, 56, 57, 97, 98, 99, 100, 101, 102] }] w fun e w' => e = .returned (.bool true) ∧ Below w.heap.size w w' := by
  have h : isS { data := #[48, 49, 50, 51, 52, 53, 54, 55, 56, 57, 97, 98, 99, 100, 101, 102] } = true := by decide +kernel
  have := is_calls { data := #[48, 49, 50, 51, 52, 53, 54, 55, 56, 57, 97, 98, 99, 100, 101, 102] } (by decide) w
  rwa [h] at this
theorem is_no1 (w : World) : Calls Tryd.prog 18 #[.string { data := #[48, 49, 50, 51, 52, 53, 54, 55, 56, 57, 97, 98, 99, 100, 101, 70] }] w fun e w' => e = .returned (.bool false) ∧ Below w.heap.size w w' := by
  have h : isS { data := #[48, 49, 50, 51, 52, 53, 54, 55, 56, 57, 97, 98, 99, 100, 101, 70] } = false := by decide +kernel
  have := is_calls { data := #[48, 49, 50, 51, 52, 53, 54, 55, 56, 57, 97, 98, 99, 100, 101, 70] } (by decide) w
  rwa [h] at this
theorem is_no2 (w : World) : Calls Tryd.prog 18 #[.string { data := #[] }] w fun e w' => e = .returned (.bool false) ∧ Below w.heap.size w w' := by
  have h : isS { data := #[] } = false := by decide +kernel
  have := is_calls { data := #[] } (by decide) w
  rwa [h] at this
theorem join_ex : bS (joinB [{ data := #[97] }, { data := #[98, 99] }]) = { data := #[49, 58, 97, 50, 58, 98, 99] } := by
  simp only [joinB, listsOf, List.map_cons, List.map_nil, joinL]
  rw [show ([97] : List UInt8).length = 1 from rfl, show ([98, 99] : List UInt8).length = 2 from rfl, Lib.decDigits_one (by decide), Lib.decDigits_one (by decide)]
  rfl
theorem sum_ne {a b : ByteArray} (ha : a.size ≤ 7) (hb : b.size ≤ 7) (h : a.data.toList ≠ b.data.toList) : ((sumS a).toList == (sumS b).toList) = false := by
  rw [beq_eq_false_iff_ne]
  intro e
  rw [ByteArray.toList_eq, ByteArray.toList_eq] at e
  rw [Lib.size_eq] at ha hb
  exact h (short_inj ha hb (by simpa [sumS] using e))
end Go.Proofs.YtncjbkolljgihaaDoor
