import Derived.Test.YtpogffdbencfnaaGreatDoorTrNode
import Derived.Test.YtpogffdbencfnaaGreatDoorRows
import Derived.Deep.Strs
import Derived.ProofKit
import Derived.Lib.SmallJoins
set_option linter.unusedVariables false
namespace Go.Proofs.YtpogffdbencfnaaGreatDoor
open Go Go.RowKit Go.ChangeShapes Go.WideShapes Go.Deep Go.Joins

set_option maxRecDepth 100000 in
theorem strc_of_trod {H : Type} {enc : TypeId × Value → H} {w : World} {n : Nat} {v : Value} {y : DataW H × List MemPlace} (hf : DataW.trod enc Tryz.prog w 0 (fun _ => true) true n 22 [v] = some y) :
    ∃ l, IsStrC w v l ∧ ∀ s ∈ l, s.size ≤ 9223372036854775807 := by
  rcases open_strs Tryz.underlying22 Tryz.underlying9 (by kernel_rfl) hf with ⟨hcs, _⟩ | ⟨a, len, cap, m, Sx, hcs, hb, hl, hm, hmm, hx, hi⟩
  · simp at hcs
    subst hcs
    exact ⟨[], ⟨none, 0, rfl, Nat.le_refl _, Nat.zero_le _, fun i hi => by simp at hi⟩, by simp⟩
  · simp at hcs
    subst hcs
    have hmc : m = cap := by simpa using hmm
    have hsp : ∀ i, i < len → a.spot = none := by
      intro i hlt
      have := World.cell?_spot (hi 0 (by omega)).1
      simpa [Addr.add] using this
    refine ⟨(List.range len).map Sx, ⟨some a, cap, by simp, by simp; omega, hm, fun i hlt => ?_⟩, fun s hs => ?_⟩
    · simp at hlt
      have hg : ((List.range len).map Sx).getD i ByteArray.empty = Sx i := by simp [List.getD, hlt]
      rw [hg]
      have hc := (hi i (by omega)).1
      obtain ⟨b, o, sp⟩ := a
      obtain rfl : sp = none := hsp i hlt
      rw [add_plain] at hc
      exact ⟨b, o, rfl, World.block_lt_of_cell? w _ hc, hc⟩
    · obtain ⟨i, hi2, rfl⟩ := List.mem_map.1 hs
      exact (hi i (by have := List.mem_range.1 hi2; omega)).2
/-- what a seal that comes in is -/
structure IsSeal (w : World) (v : Value) (idx : Int) (sig path : List ByteArray) : Prop where
  ex : ∃ vs vp, v = .agg #[.int .i64 idx, vs, vp] ∧ IsStrC w vs sig ∧ IsStrC w vp path
  lo : -9223372036854775808 ≤ idx
  hi : idx ≤ 9223372036854775807
  sz1 : ∀ s ∈ sig, s.size ≤ 9223372036854775807
  sz2 : ∀ s ∈ path, s.size ≤ 9223372036854775807
def SealIn (w : World) (v : Value) (x : Int × List ByteArray × List ByteArray) : Prop := IsSeal w v x.1 x.2.1 x.2.2
set_option maxRecDepth 100000 in
theorem open_seal {H : Type} {enc : TypeId × Value → H} {w : World} {b0 : Nat} {v : Value} {d : DataW H} {p : List MemPlace} (hv : Value.okWide Tryz.prog w .any b0 24 v) (h : DataW.Trod enc Tryz.prog w 0 (fun _ => true) true 24 v d p) :
    ∃ x, SealIn w v x := by
  obtain ⟨v0, v1, v2, y0, y1, y2, n, rfl, _, _, h0, h1, h2⟩ := open_agg3 Tryz.underlying24 (by kernel_rfl) (by kernel_rfl) hv h
  obtain ⟨idx, e0, _, wf⟩ := DataW.trod_int Tryz.underlying3 h0
  simp at e0
  subst e0
  obtain ⟨sig, hs, hz1⟩ := strc_of_trod h1
  obtain ⟨path, hp, hz2⟩ := strc_of_trod h2
  have hw : -9223372036854775808 ≤ idx ∧ idx ≤ 9223372036854775807 := by simpa [Lit.wf, IntKind.min, IntKind.max, IntKind.signed, IntKind.bits] using wf
  exact ⟨(idx, sig, path), ⟨v1, v2, rfl, hs, hp⟩, hw.1, hw.2, hz1, hz2⟩
end Go.Proofs.YtpogffdbencfnaaGreatDoor
