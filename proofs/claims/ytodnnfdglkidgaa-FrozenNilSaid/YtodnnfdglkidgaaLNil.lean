/- The law on a nil account: its walk. -/
import Derived.Test.YtodnnfdglkidgaaK
namespace Go.Proofs.Ytodnnfdglkidgaa.frozenNil
open Go.RowKit Go.Shelf

set_option maxHeartbeats 1000000 in
theorem walk (d : Int) (_ : (Lit.int .i64 d).wf = true) (u : Int) (_ : (Lit.int .i64 u).wf = true) (i : Int) (_ : (Lit.int .i64 i).wf = true) (f : Bool) (w : World) :
    Calls Try.prog 7 #[.int .i64 d, .int .i64 u, .int .i64 i, .bool f] w fun e w' => e = .returned (.bool true) ∧ Below w.heap.size w w' := by
  go_enter Try.func7, Try.ntmps7
  go_wp2_with fail
  refine (head_any w).mono ?_
  rintro e w1 ⟨rfl, hB1⟩
  go_wp2_with fail
  refine (interest_nil _ _ _).mono ?_
  rintro e w' ⟨rfl, rfl⟩
  go_wp2_with fail
  refine (release_err _ _ _ 1 (by decide) _ ((interest_nil _ _ _).mono fun _ _ h => ⟨h.1, h.2 ▸ Below.refl _ _⟩)).mono ?_
  rintro e w2 ⟨rfl, hb2⟩
  have hB2 := hB1.trans (hb2.mono hB1.size)
  go_wp2_with fail
  refine (receive_nil _ _ _).mono ?_
  rintro e w' ⟨rfl, rfl⟩
  go_wp2_with fail
  refine (move_nil _ _ _ _).mono ?_
  rintro e w' ⟨rfl, rfl⟩
  go_wp2_with fail
  refine (correct_nil _ _ _).mono ?_
  rintro e w3 ⟨rfl, hb3⟩
  have hB3 := hB2.trans (hb3.mono hB2.size)
  go_wp2_with fail
  refine (balance_nil _).mono ?_
  rintro e w' ⟨rfl, rfl⟩
  go_wp2_with fail
  go_ret
  exact ⟨rfl, hB3⟩
end Go.Proofs.Ytodnnfdglkidgaa.frozenNil
