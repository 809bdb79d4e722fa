/- Every outcome of New, Interest and Release. -/
import Derived.Test.YtodnnfdglkidgaaK
set_option linter.unusedVariables false
namespace Go.Proofs.Ytodnnfdglkidgaa
open Go.RowKit Go.Shelf

/-- New, whatever the numbers. -/
theorem new_gen (r v d u : Int) (w : World) : Calls Try.prog 10 #[.int .i64 r, .int .i64 v, .int .i64 d, .int .i64 u] w fun e w' => ∃ (p : Option Addr) (E : Int), e = .returned (.tuple #[.pointer p, .int .i64 E]) ∧ Below w.heap.size w w' := by
  by_cases h : okNew r v d u
  · obtain ⟨⟨a, b⟩, ⟨c, d'⟩, ⟨e, f⟩, g, h'⟩ := h
    exact (new_ok r v d u w a b c d' e f g h').mono fun _ _ h => ⟨_, _, h.1, h.2.2⟩
  · exact (new_no r v d u w h).mono fun _ _ h => ⟨_, _, h.1, h.2 ▸ Below.refl _ _⟩
theorem new_yes (r v d u : Int) (h : okNew r v d u) (w : World) : Calls Try.prog 10 #[.int .i64 r, .int .i64 v, .int .i64 d, .int .i64 u] w fun e w' => e = .returned (.tuple #[.pointer (some ⟨w.heap.size + 1, 0, none⟩), .int .i64 0]) ∧
      Acc 58 55 w' (w.heap.size + 1) w.heap.size 1 r v [(d, u)] false ∧ Below w.heap.size w w' := by
  obtain ⟨⟨a, b⟩, ⟨c, d'⟩, ⟨e, f⟩, g, h'⟩ := h
  exact new_ok r v d u w a b c d' e f g h'
theorem okNew.good {r v d u : Int} (h : okNew r v d u) : Good [(d, u)] := good_one h.2.2.1.1 h.2.2.1.2 h.2.2.2.1 h.2.2.2.2

/-- The rate that is asked for. -/
def rateOf (vo : Bool) (r v : Int) : Int := if vo then v else r
/-- Rates that an account can have. -/
structure Rates (r v : Int) : Prop where
  r0 : 0 ≤ r
  r1 : r ≤ 10000
  v0 : 0 ≤ v
  v1 : v ≤ 10000
theorem okNew.rates {r v d u : Int} (h : okNew r v d u) : Rates r v := ⟨h.1.1, h.1.2, h.2.1.1, h.2.1.2⟩
theorem Rates.pick {r v : Int} (h : Rates r v) (vo : Bool) : 0 ≤ (rateOf vo r v) ∧ (rateOf vo r v) ≤ 10000 := by
  obtain ⟨a, b, c, d⟩ := h; cases vo <;> simp [rateOf] <;> omega

theorem interest_all (b g cap : Nat) (r v : Int) (ms : List (Int × Int)) (cl : Bool) (hgd : Good ms) (hr : Rates r v) (day : Int) (vo : Bool) (w : World) (hA : Acc 58 55 w b g cap r v ms cl) :
    Calls Try.prog 12 #[.pointer (some ⟨b, 0, none⟩), .int .i64 day, .bool vo] w fun e W' => e = .returned (.tuple #[.int .i64 (intZ (rateOf vo r v) cl ms day), .int .i64 (intE cl ms day)]) ∧ Below w.heap.size w W' := by
  by_cases hd : 0 ≤ day ∧ day ≤ 100000
  · have hE : intE cl ms day = errTwo cl ms day := by unfold intE; rw [if_pos hd]
    by_cases h : errTwo cl ms day = 0
    · have hZ : intZ (rateOf vo r v) cl ms day = interestOf (rateOf vo r v) (total ms day) := by unfold intZ; rw [hE, if_pos h]
      rw [hZ, hE, h]
      exact interest_ok b g cap r v ms cl hgd hr.r0 hr.r1 hr.v0 hr.v1 day vo hd.1 hd.2 w hA h
    · have hZ : intZ (rateOf vo r v) cl ms day = 0 := by unfold intZ; rw [hE, if_neg h]
      rw [hZ, hE]
      exact interest_err b g cap r v ms cl hgd day vo hd.1 hd.2 w hA h
  · have hE : intE cl ms day = 1 := by unfold intE; rw [if_neg hd]
    have hZ : intZ (rateOf vo r v) cl ms day = 0 := by unfold intZ; rw [hE, if_neg (by decide)]
    rw [hZ, hE]
    exact (interest_arg _ day vo w (by omega)).mono fun _ _ h => ⟨h.1, h.2 ▸ Below.refl _ _⟩

theorem release_no (b g cap : Nat) (r v : Int) (ms : List (Int × Int)) (cl : Bool) (hgd : Good ms) (hr : Rates r v) (day : Int) (vo : Bool) (w : World) (hA : Acc 58 55 w b g cap r v ms cl) (h : intE cl ms day ≠ 0) :
    Calls Try.prog 20 #[.pointer (some ⟨b, 0, none⟩), .int .i64 day, .bool vo] w fun e W' => e = .returned (.tuple #[.int .i64 0, .int .i64 0, .int .i64 (intE cl ms day)]) ∧ Below w.heap.size w W' := by
  have H := interest_all b g cap r v ms cl hgd hr day vo w hA
  have hZ : intZ (rateOf vo r v) cl ms day = 0 := by unfold intZ; rw [if_neg h]
  rw [hZ] at H
  exact release_err _ day vo _ h w H
theorem release_yes (b g cap : Nat) (r v : Int) (ms : List (Int × Int)) (cl : Bool) (hgd : Good ms) (hr : Rates r v) (day : Int) (vo : Bool) (w : World) (hA : Acc 58 55 w b g cap r v ms cl) (h : intE cl ms day = 0) :
    Calls Try.prog 20 #[.pointer (some ⟨b, 0, none⟩), .int .i64 day, .bool vo] w fun e w' => e = .returned (.tuple #[.int .i64 (balTo ms ms.length), .int .i64 (intZ (rateOf vo r v) cl ms day), .int .i64 0]) ∧
      Acc 58 55 w' b g cap r v ms true ∧ Chg [b] w w' := by
  obtain ⟨a, c, d, _⟩ := intE_zero h
  have hE : errTwo cl ms day = 0 := by unfold intE at h; rwa [if_pos ⟨c, d⟩] at h
  have hZ : intZ (rateOf vo r v) cl ms day = interestOf (rateOf vo r v) (total ms day) := by unfold intZ; rw [if_pos h]
  rw [hZ]
  exact release_ok b g cap r v ms cl hgd hr.r0 hr.r1 hr.v0 hr.v1 day vo c d w hA hE

end Go.Proofs.Ytodnnfdglkidgaa
