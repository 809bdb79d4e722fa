/- The checks of package frozen. -/
import Derived.Test.YtodnnfdglkidgaaSum
import Derived.Test.YtodnnfdglkidgaaPlainC
import Derived.WalkSpells
import Derived.WalkLawsBesides
import Derived.Deep.QuietTactic
import Derived.BigQuiet
set_option linter.unusedVariables false
namespace Go.Proofs.Ytodnnfdglkidgaa
open Go.RowKit

theorem sum_any (b g cap : Nat) (r v : Int) (ms : List (Int × Int)) (cl : Bool) (hBn : Bnd ms) (w : World) (hA : Acc 58 55 w b g cap r v ms cl) :
    Calls Try.prog 32 #[.pointer (some ⟨b, 0, none⟩)] w fun e W' => e = .returned (.int .i64 (balTo ms ms.length)) ∧ Below w.heap.size w W' :=
  callsIn_wide.1 (sum_in Fence.wide 3 trivial trivial trivial rfl (Nat.le_refl _) b g cap r v ms cl hBn w hA)

set_option maxHeartbeats 400000 in
theorem open_any (b g cap : Nat) (r v : Int) (ms : List (Int × Int)) (cl : Bool) (w : World) (hA : Acc 58 55 w b g cap r v ms cl) :
    Calls Try.prog 29 #[.pointer (some ⟨b, 0, none⟩)] w fun e w' => e = .returned (.int .i64 (errOpen cl)) ∧ w = w' := by
  have hc := hA.c3
  cases cl <;> (go_enter Try.func29, Try.ntmps29; go_wp2; go_ret; exact ⟨rfl, rfl⟩)

/-- The value of an entry. -/
abbrev ent (b : Nat) (d u : Int) (lic : Bool) : Value := .agg #[.pointer (some ⟨b, 0, none⟩), .int .i64 d, .int .i64 u, .bool lic]

set_option maxHeartbeats 400000 in
theorem allowed_any (b : Nat) (d u : Int) (lic : Bool) (w : World) :
    Calls Try.prog 43 #[ent b d u lic] w fun e w' => e = .returned (.int .i64 (if lic then 0 else 20)) ∧ Below w.heap.size w w' := by
  cases lic <;> (go_enter Try.func43, Try.ntmps43; go_wp2; go_ret; exact ⟨rfl, (Below.refl _ _).alloc (Nat.le_refl _) _⟩)

theorem ret_int {k : IntKind} {a b : Int} (h : a = b) : Ending.returned (.int k a) = .returned (.int k b) := by rw [h]

set_option maxHeartbeats 400000 in
theorem ordered_any (b g cap : Nat) (r v : Int) (ms : List (Int × Int)) (cl : Bool) (hl1 : 1 ≤ ms.length) (hl2 : ms.length ≤ 2000) (d u : Int) (lic : Bool) (w : World) (hA : Acc 58 55 w b g cap r v ms cl) :
    Calls Try.prog 30 #[ent b d u lic] w fun e w' => e = .returned (.int .i64 (errOrder ms d)) ∧ Below w.heap.size w w' := by
  have hA1 := hA.below (((Below.refl _ w).alloc (Nat.le_refl _) (.cells #[.pointer (some ⟨b, 0, none⟩), .int .i64 d, .int .i64 u, .bool lic] 62)))
  have hc2 := hA1.c2
  have hd := hA1.day (ms.length - 1) (by omega)
  obtain ⟨k, hk⟩ : ∃ k, ms.length = k + 1 := ⟨ms.length - 1, by omega⟩
  rw [hk] at hc2 hd hl2
  simp only [Nat.add_sub_cancel] at hd
  have hX : Hid (errOrder ms d = if d < dayAt ms k then 14 else 0) := by unfold Hid errOrder; rw [hk]; rfl
  clear hk hl1 hA hA1
  by_cases h : d < dayAt ms k
  · go_enter Try.func30, Try.ntmps30
    go_wp2
    go_quiet (fail)
    go_wp2
    go_ret
    exact ⟨ret_int (by rw [hX.out, if_pos h]), below_drewN ((Below.refl _ _).alloc (Nat.le_refl _) _) _⟩
  · go_enter Try.func30, Try.ntmps30
    go_wp2
    go_quiet (fail)
    go_wp2
    go_ret
    exact ⟨ret_int (by rw [hX.out, if_neg (by omega)]), below_drewN ((Below.refl _ _).alloc (Nat.le_refl _) _) _⟩
theorem errOrder_yes (ms : List (Int × Int)) (d : Int) (h : d < dayAt ms (ms.length - 1)) : errOrder ms d = 14 := if_pos h
theorem errOrder_no (ms : List (Int × Int)) (d : Int) (h : ¬ d < dayAt ms (ms.length - 1)) : errOrder ms d = 0 := if_neg h

/-- The function value of the check that the account is open. -/
abbrev fOpen (b : Nat) : Value := .func (.func 29) #[.pointer (some ⟨b, 0, none⟩)] #[]
abbrev fOrd (b : Nat) (d u : Int) (lic : Bool) : Value := .func (.func 30) #[ent b d u lic] #[]

set_option maxHeartbeats 400000 in
theorem first1_any (gs b g cap : Nat) (r v : Int) (ms : List (Int × Int)) (cl : Bool) (w : World) (hA : Acc 58 55 w b g cap r v ms cl) (hs : w.cell? ⟨gs, 0, none⟩ = some (fOpen b)) :
    Calls Try.prog 28 #[.slice (some ⟨gs, 0, none⟩) 1 1] w fun e w' => e = .returned (.int .i64 (errOpen cl)) ∧ w = w' := by
  have hO := open_any b g cap r v ms cl w hA
  cases cl
  · have hE : Hid (errOpen false = 0) := rfl
    go_enter Try.func28, Try.ntmps28
    go_wp2_with fail
    refine wp_loop_rounds 2 ?_
    rw [rounds_succ]
    go_wp2_with (go_at_call 29; refine hO.mono ?_; rw [hE.out]; rintro e w' ⟨rfl, rfl⟩)
    rw [rounds_succ]
    go_wp2_with fail
    go_ret
    exact ⟨rfl, rfl⟩
  · have hE : Hid (errOpen true = 29) := rfl
    go_enter Try.func28, Try.ntmps28
    go_wp2_with fail
    refine wp_loop_rounds 1 ?_
    rw [rounds_succ]
    go_wp2_with (go_at_call 29; refine hO.mono ?_; rw [hE.out]; rintro e w' ⟨rfl, rfl⟩)
    go_ret
    exact ⟨rfl, rfl⟩




set_option maxHeartbeats 400000 in
theorem first2_any (gs b g cap : Nat) (r v : Int) (ms : List (Int × Int)) (cl : Bool) (hl1 : 1 ≤ ms.length) (hl2 : ms.length ≤ 2000) (d u : Int) (lic : Bool) (w : World) (hA : Acc 58 55 w b g cap r v ms cl)
    (hs : w.cell? ⟨gs, 0, none⟩ = some (fOpen b)) (hs1 : w.cell? ⟨gs, 1, none⟩ = some (fOrd b d u lic)) :
    Calls Try.prog 28 #[.slice (some ⟨gs, 0, none⟩) 2 2] w fun e w' => e = .returned (.int .i64 (errTwo cl ms d)) ∧ Below w.heap.size w w' := by
  have hO := open_any b g cap r v ms cl w hA
  have hR := ordered_any b g cap r v ms cl hl1 hl2 d u lic w hA
  clear hl1 hl2
  cases cl
  · have hE : Hid (errOpen false = 0) := rfl
    by_cases h : d < dayAt ms (ms.length - 1)
    · have hE2 := Lib.hid (errOrder_yes ms d h)
      have hE3 : Hid (errTwo false ms d = 14) := errOrder_yes ms d h
      clear h
      go_enter Try.func28, Try.ntmps28
      go_wp2_with fail
      refine wp_loop_rounds 2 ?_
      rw [rounds_succ]
      go_wp2_with (go_at_call 29; refine hO.mono ?_; rw [hE.out]; rintro e w' ⟨rfl, rfl⟩)
      rw [rounds_succ]
      go_wp2_with (go_at_call 30; refine hR.mono ?_; rw [hE2.out]; rintro e w' ⟨rfl, hb⟩)
      go_ret
      exact ⟨ret_int hE3.out.symm, hb⟩
    · have hE2 := Lib.hid (errOrder_no ms d h)
      have hE3 : Hid (errTwo false ms d = 0) := errOrder_no ms d h
      clear h
      go_enter Try.func28, Try.ntmps28
      go_wp2_with fail
      refine wp_loop_rounds 3 ?_
      rw [rounds_succ]
      go_wp2_with (go_at_call 29; refine hO.mono ?_; rw [hE.out]; rintro e w' ⟨rfl, rfl⟩)
      rw [rounds_succ]
      go_wp2_with (go_at_call 30; refine hR.mono ?_; rw [hE2.out]; rintro e w' ⟨rfl, hb⟩)
      rw [rounds_succ]
      go_wp2_with fail
      go_ret
      exact ⟨ret_int hE3.out.symm, hb⟩
  · have hE : Hid (errOpen true = 29) := rfl
    have hE3 : Hid (errTwo true ms d = 29) := rfl
    go_enter Try.func28, Try.ntmps28
    go_wp2_with fail
    refine wp_loop_rounds 1 ?_
    rw [rounds_succ]
    go_wp2_with (go_at_call 29; refine hO.mono ?_; rw [hE.out]; rintro e w' ⟨rfl, rfl⟩)
    go_ret
    exact ⟨ret_int hE3.out.symm, Below.refl _ _⟩
end Go.Proofs.Ytodnnfdglkidgaa
