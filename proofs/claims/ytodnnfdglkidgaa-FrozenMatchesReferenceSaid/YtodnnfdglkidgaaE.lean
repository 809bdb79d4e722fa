/- Adding a movement after its checks. -/
import Derived.Test.YtodnnfdglkidgaaD
import Derived.Deep.AppendLies
import Derived.Deep.RegionLaw
set_option linter.unusedVariables false
namespace Go.Proofs.Ytodnnfdglkidgaa
open Go.RowKit Go.Shelf

abbrev fiveF (b : Nat) (d u : Int) (lic : Bool) : Array Value := #[.func (.func 29) #[.pointer (some ⟨b, 0, none⟩)] #[], .func (.func 43) #[ent b d u lic] #[], .func (.func 30) #[ent b d u lic] #[], .func (.func 44) #[ent b d u lic] #[], .func (.func 45) #[ent b d u lic] #[]]
theorem ix0 (b : Nat) (d u : Int) (lic : Bool) (w : World) : (Instr.index 73 (.agg #[.func (.func 29) #[.pointer (some ⟨b, 0, none⟩)] #[], .func (.func 43) #[ent b d u lic] #[], .func (.func 30) #[ent b d u lic] #[], .func (.func 44) #[ent b d u lic] #[], .func (.func 45) #[ent b d u lic] #[]]) (.int .i64 0)).run Try.prog w = .ok (.func (.func 29) #[.pointer (some ⟨b, 0, none⟩)] #[]) w := by kernel_rfl
theorem ix1 (b : Nat) (d u : Int) (lic : Bool) (w : World) : (Instr.index 73 (.agg #[.func (.func 29) #[.pointer (some ⟨b, 0, none⟩)] #[], .func (.func 43) #[ent b d u lic] #[], .func (.func 30) #[ent b d u lic] #[], .func (.func 44) #[ent b d u lic] #[], .func (.func 45) #[ent b d u lic] #[]]) (.int .i64 1)).run Try.prog w = .ok (.func (.func 43) #[ent b d u lic] #[]) w := by kernel_rfl
theorem ix2 (b : Nat) (d u : Int) (lic : Bool) (w : World) : (Instr.index 73 (.agg #[.func (.func 29) #[.pointer (some ⟨b, 0, none⟩)] #[], .func (.func 43) #[ent b d u lic] #[], .func (.func 30) #[ent b d u lic] #[], .func (.func 44) #[ent b d u lic] #[], .func (.func 45) #[ent b d u lic] #[]]) (.int .i64 2)).run Try.prog w = .ok (.func (.func 30) #[ent b d u lic] #[]) w := by kernel_rfl
theorem ix3 (b : Nat) (d u : Int) (lic : Bool) (w : World) : (Instr.index 73 (.agg #[.func (.func 29) #[.pointer (some ⟨b, 0, none⟩)] #[], .func (.func 43) #[ent b d u lic] #[], .func (.func 30) #[ent b d u lic] #[], .func (.func 44) #[ent b d u lic] #[], .func (.func 45) #[ent b d u lic] #[]]) (.int .i64 3)).run Try.prog w = .ok (.func (.func 44) #[ent b d u lic] #[]) w := by kernel_rfl
theorem ix4 (b : Nat) (d u : Int) (lic : Bool) (w : World) : (Instr.index 73 (.agg #[.func (.func 29) #[.pointer (some ⟨b, 0, none⟩)] #[], .func (.func 43) #[ent b d u lic] #[], .func (.func 30) #[ent b d u lic] #[], .func (.func 44) #[ent b d u lic] #[], .func (.func 45) #[ent b d u lic] #[]]) (.int .i64 4)).run Try.prog w = .ok (.func (.func 45) #[ent b d u lic] #[]) w := by kernel_rfl

/-- Check number f says E, whatever lies beside the account. -/
def Says (b g cap : Nat) (r v : Int) (ms : List (Int × Int)) (cl : Bool) (f : Nat) (args : Array Value) (E : Int) : Prop :=
  ∀ w, Acc 58 55 w b g cap r v ms cl → Calls Try.prog f args w fun e w' => e = .returned (.int .i64 E) ∧ Below w.heap.size w w'
theorem Says.at {b g cap : Nat} {r v : Int} {ms : List (Int × Int)} {cl : Bool} {f : Nat} {args : Array Value} {E : Int} (h : Says b g cap r v ms cl f args E) {w0 W : World} (hA : Acc 58 55 w0 b g cap r v ms cl) (hb : Below w0.heap.size w0 W) :
    Calls Try.prog f args W fun e w' => e = .returned (.int .i64 E) ∧ Below w0.heap.size w0 w' :=
  (h W (hA.below hb)).mono fun _ _ ⟨a, c⟩ => ⟨a, hb.trans (c.mono hb.size)⟩

set_option maxHeartbeats 1000000 in
theorem add_fail0 (b g cap : Nat) (r v : Int) (ms : List (Int × Int)) (cl : Bool) (d u : Int) (lic : Bool) (E : Int) (hE : E ≠ 0) (s0 : Says b g cap r v ms cl 29 #[.pointer (some ⟨b, 0, none⟩)] E) (w : World) (hA : Acc 58 55 w b g cap r v ms cl) :
    Calls Try.prog 41 #[.pointer (some ⟨b, 0, none⟩), .int .i64 d, .int .i64 u, .bool lic] w fun e w' => e = .returned (.int .i64 E) ∧ Below w.heap.size w w' := by
  have i0 := ix0 b d u lic
  have hB0 : Below w.heap.size w (w.alloc (.cells #[.pointer (some ⟨b, 0, none⟩), .int .i64 d, .int .i64 u, .bool lic] 62)) := (Below.refl _ w).alloc (Nat.le_refl _) _
  have hE' : (E != 0) = true := by simp [hE]
  clear hE
  go_enter Try.func41, Try.ntmps41
  go_wp2_with fail
  refine wp_loop_rounds 1 ?_
  rw [rounds_succ]
  go_wp2_with fail
  refine (s0.at hA hB0).mono ?_
  rintro e w1 ⟨rfl, hB1⟩
  go_wp2_with fail
  go_ret
  exact ⟨rfl, hB1⟩

set_option maxHeartbeats 1000000 in
theorem add_fail1 (b g cap : Nat) (r v : Int) (ms : List (Int × Int)) (cl : Bool) (d u : Int) (lic : Bool) (s0 : Says b g cap r v ms cl 29 #[.pointer (some ⟨b, 0, none⟩)] 0) (E : Int) (hE : E ≠ 0) (s1 : Says b g cap r v ms cl 43 #[ent b d u lic] E) (w : World) (hA : Acc 58 55 w b g cap r v ms cl) :
    Calls Try.prog 41 #[.pointer (some ⟨b, 0, none⟩), .int .i64 d, .int .i64 u, .bool lic] w fun e w' => e = .returned (.int .i64 E) ∧ Below w.heap.size w w' := by
  have i0 := ix0 b d u lic
  have i1 := ix1 b d u lic
  have hB0 : Below w.heap.size w (w.alloc (.cells #[.pointer (some ⟨b, 0, none⟩), .int .i64 d, .int .i64 u, .bool lic] 62)) := (Below.refl _ w).alloc (Nat.le_refl _) _
  have hE' : (E != 0) = true := by simp [hE]
  clear hE
  go_enter Try.func41, Try.ntmps41
  go_wp2_with fail
  refine wp_loop_rounds 2 ?_
  rw [rounds_succ]
  go_wp2_with fail
  refine (s0.at hA hB0).mono ?_
  rintro e w1 ⟨rfl, hB1⟩
  go_wp2_with fail
  rw [rounds_succ]
  go_wp2_with fail
  refine (s1.at hA hB1).mono ?_
  rintro e w2 ⟨rfl, hB2⟩
  go_wp2_with fail
  go_ret
  exact ⟨rfl, hB2⟩

set_option maxHeartbeats 1000000 in
theorem add_fail2 (b g cap : Nat) (r v : Int) (ms : List (Int × Int)) (cl : Bool) (d u : Int) (lic : Bool) (s0 : Says b g cap r v ms cl 29 #[.pointer (some ⟨b, 0, none⟩)] 0) (s1 : Says b g cap r v ms cl 43 #[ent b d u lic] 0) (E : Int) (hE : E ≠ 0) (s2 : Says b g cap r v ms cl 30 #[ent b d u lic] E) (w : World) (hA : Acc 58 55 w b g cap r v ms cl) :
    Calls Try.prog 41 #[.pointer (some ⟨b, 0, none⟩), .int .i64 d, .int .i64 u, .bool lic] w fun e w' => e = .returned (.int .i64 E) ∧ Below w.heap.size w w' := by
  have i0 := ix0 b d u lic
  have i1 := ix1 b d u lic
  have i2 := ix2 b d u lic
  have hB0 : Below w.heap.size w (w.alloc (.cells #[.pointer (some ⟨b, 0, none⟩), .int .i64 d, .int .i64 u, .bool lic] 62)) := (Below.refl _ w).alloc (Nat.le_refl _) _
  have hE' : (E != 0) = true := by simp [hE]
  clear hE
  go_enter Try.func41, Try.ntmps41
  go_wp2_with fail
  refine wp_loop_rounds 3 ?_
  rw [rounds_succ]
  go_wp2_with fail
  refine (s0.at hA hB0).mono ?_
  rintro e w1 ⟨rfl, hB1⟩
  go_wp2_with fail
  rw [rounds_succ]
  go_wp2_with fail
  refine (s1.at hA hB1).mono ?_
  rintro e w2 ⟨rfl, hB2⟩
  go_wp2_with fail
  rw [rounds_succ]
  go_wp2_with fail
  refine (s2.at hA hB2).mono ?_
  rintro e w3 ⟨rfl, hB3⟩
  go_wp2_with fail
  go_ret
  exact ⟨rfl, hB3⟩

set_option maxHeartbeats 1000000 in
theorem add_fail3 (b g cap : Nat) (r v : Int) (ms : List (Int × Int)) (cl : Bool) (d u : Int) (lic : Bool) (s0 : Says b g cap r v ms cl 29 #[.pointer (some ⟨b, 0, none⟩)] 0) (s1 : Says b g cap r v ms cl 43 #[ent b d u lic] 0) (s2 : Says b g cap r v ms cl 30 #[ent b d u lic] 0) (E : Int) (hE : E ≠ 0) (s3 : Says b g cap r v ms cl 44 #[ent b d u lic] E) (w : World) (hA : Acc 58 55 w b g cap r v ms cl) :
    Calls Try.prog 41 #[.pointer (some ⟨b, 0, none⟩), .int .i64 d, .int .i64 u, .bool lic] w fun e w' => e = .returned (.int .i64 E) ∧ Below w.heap.size w w' := by
  have i0 := ix0 b d u lic
  have i1 := ix1 b d u lic
  have i2 := ix2 b d u lic
  have i3 := ix3 b d u lic
  have hB0 : Below w.heap.size w (w.alloc (.cells #[.pointer (some ⟨b, 0, none⟩), .int .i64 d, .int .i64 u, .bool lic] 62)) := (Below.refl _ w).alloc (Nat.le_refl _) _
  have hE' : (E != 0) = true := by simp [hE]
  clear hE
  go_enter Try.func41, Try.ntmps41
  go_wp2_with fail
  refine wp_loop_rounds 4 ?_
  rw [rounds_succ]
  go_wp2_with fail
  refine (s0.at hA hB0).mono ?_
  rintro e w1 ⟨rfl, hB1⟩
  go_wp2_with fail
  rw [rounds_succ]
  go_wp2_with fail
  refine (s1.at hA hB1).mono ?_
  rintro e w2 ⟨rfl, hB2⟩
  go_wp2_with fail
  rw [rounds_succ]
  go_wp2_with fail
  refine (s2.at hA hB2).mono ?_
  rintro e w3 ⟨rfl, hB3⟩
  go_wp2_with fail
  rw [rounds_succ]
  go_wp2_with fail
  refine (s3.at hA hB3).mono ?_
  rintro e w4 ⟨rfl, hB4⟩
  go_wp2_with fail
  go_ret
  exact ⟨rfl, hB4⟩

set_option maxHeartbeats 1000000 in
theorem add_fail4 (b g cap : Nat) (r v : Int) (ms : List (Int × Int)) (cl : Bool) (d u : Int) (lic : Bool) (s0 : Says b g cap r v ms cl 29 #[.pointer (some ⟨b, 0, none⟩)] 0) (s1 : Says b g cap r v ms cl 43 #[ent b d u lic] 0) (s2 : Says b g cap r v ms cl 30 #[ent b d u lic] 0) (s3 : Says b g cap r v ms cl 44 #[ent b d u lic] 0) (E : Int) (hE : E ≠ 0) (s4 : Says b g cap r v ms cl 45 #[ent b d u lic] E) (w : World) (hA : Acc 58 55 w b g cap r v ms cl) :
    Calls Try.prog 41 #[.pointer (some ⟨b, 0, none⟩), .int .i64 d, .int .i64 u, .bool lic] w fun e w' => e = .returned (.int .i64 E) ∧ Below w.heap.size w w' := by
  have i0 := ix0 b d u lic
  have i1 := ix1 b d u lic
  have i2 := ix2 b d u lic
  have i3 := ix3 b d u lic
  have i4 := ix4 b d u lic
  have hB0 : Below w.heap.size w (w.alloc (.cells #[.pointer (some ⟨b, 0, none⟩), .int .i64 d, .int .i64 u, .bool lic] 62)) := (Below.refl _ w).alloc (Nat.le_refl _) _
  have hE' : (E != 0) = true := by simp [hE]
  clear hE
  go_enter Try.func41, Try.ntmps41
  go_wp2_with fail
  refine wp_loop_rounds 5 ?_
  rw [rounds_succ]
  go_wp2_with fail
  refine (s0.at hA hB0).mono ?_
  rintro e w1 ⟨rfl, hB1⟩
  go_wp2_with fail
  rw [rounds_succ]
  go_wp2_with fail
  refine (s1.at hA hB1).mono ?_
  rintro e w2 ⟨rfl, hB2⟩
  go_wp2_with fail
  rw [rounds_succ]
  go_wp2_with fail
  refine (s2.at hA hB2).mono ?_
  rintro e w3 ⟨rfl, hB3⟩
  go_wp2_with fail
  rw [rounds_succ]
  go_wp2_with fail
  refine (s3.at hA hB3).mono ?_
  rintro e w4 ⟨rfl, hB4⟩
  go_wp2_with fail
  rw [rounds_succ]
  go_wp2_with fail
  refine (s4.at hA hB4).mono ?_
  rintro e w5 ⟨rfl, hB5⟩
  go_wp2_with fail
  go_ret
  exact ⟨rfl, hB5⟩

end Go.Proofs.Ytodnnfdglkidgaa
