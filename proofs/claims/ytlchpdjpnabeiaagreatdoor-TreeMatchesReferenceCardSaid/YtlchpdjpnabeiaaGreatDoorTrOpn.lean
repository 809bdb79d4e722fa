import Derived.Test.YtlchpdjpnabeiaaGreatDoorTrNode
import Derived.Test.YtlchpdjpnabeiaaGreatDoorRows
import Derived.Deep.Strs
import Derived.ProofKit
set_option linter.unusedVariables false
namespace Go.Proofs.YtlchpdjpnabeiaaGreatDoor
open Go Go.RowKit Go.ChangeShapes Go.WideShapes Go.Deep

set_option maxRecDepth 100000 in
theorem open_strc {H : Type} {enc : TypeId × Value → H} {w : World} {b0 : Nat} {v : Value} {d : DataW H} {p : List MemPlace} (hv : Value.okWide Tryz.prog w .any b0 22 v) (h : DataW.Trod enc Tryz.prog w 0 (fun _ => true) true 22 v d p) :
    ∃ l, IsStrC w v l := by
  obtain ⟨a0, len, cap, rfl⟩ := okWide_slice Tryz.underlying22 hv
  obtain ⟨fuel, hf⟩ := h
  rcases open_strs Tryz.underlying22 Tryz.underlying9 (by kernel_rfl) hf with ⟨hcs, _⟩ | ⟨a, len', cap', m, Sx, hcs, hb, hl, hm, hmm, hx, hi⟩
  · simp [Value.cells] at hcs
    obtain ⟨rfl, rfl, rfl⟩ := hcs
    exact ⟨[], none, 0, rfl, Nat.zero_le _, Nat.zero_le _, fun i hi => by simp at hi⟩
  · simp [Value.cells] at hcs
    obtain ⟨rfl, rfl, rfl⟩ := hcs
    have hmc : m = cap := by simpa using hmm
    have hsp : ∀ i, i < len → a.spot = none := by
      intro i hlt
      have := World.cell?_spot (hi 0 (by omega)).1
      simpa [Addr.add] using this
    refine ⟨(List.range len).map Sx, some a, cap, by simp, by simp; omega, hm, fun i hlt => ?_⟩
    simp at hlt
    have hg : ((List.range len).map Sx).getD i ByteArray.empty = Sx i := by simp [List.getD, hlt]
    rw [hg]
    have hc := (hi i (by omega)).1
    obtain ⟨b, o, sp⟩ := a
    obtain rfl : sp = none := hsp i hlt
    rw [add_plain] at hc
    exact ⟨b, o, rfl, World.block_lt_of_cell? w _ hc, hc⟩
end Go.Proofs.YtlchpdjpnabeiaaGreatDoor
