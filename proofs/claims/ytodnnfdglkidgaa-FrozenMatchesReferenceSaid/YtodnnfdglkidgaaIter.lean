/- The iterator of the periods of an account: its contract. -/
import Derived.RangeFuncNested
import Derived.RangeFuncBound
import Derived.RangeFuncCalls
import Derived.RangeFuncLeaves
import Derived.Shelf.Abstract
import Derived.Shelf.RegionOpen
import Derived.WalkKit
import Derived.OwnWalkIn
import Derived.TacticsInMore
import Derived.LoopNIn
import Derived.LoopIn
import Derived.Test.YtodnnfdglkidgaaRows
import Derived.Test.YtodnnfdglkidgaaPlain
set_option linter.unusedVariables false
namespace Go.Proofs.Ytodnnfdglkidgaa
open Go.RowKit Go.Shelf
attribute [local go_sem] Oper.semAt_some

set_option maxRecDepth 100000 in
set_option maxHeartbeats 1000000 in
theorem periods1_in (F : Fence) (n : Nat) (h7 : F.fn 42) (hro : F.round = none) (hn : 1 ≤ n) (l Bs n₀ b g len cap : Nat) (ms : List (Int × Int)) (hlen : len ≤ 2000) (hg : g < n₀)
    (hbal : ∀ k, k ≤ len → -2000000000000000000 ≤ balTo ms k ∧ balTo ms k ≤ 2000000000000000000) (hlm : len ≤ ms.length) (J Jx : List (Int × Int) → World → Prop)
    (hY : ∀ pre x W, J pre W → pre.length < len → YieldAt F (n - 1) Try.prog l #[.int .i64 x.1, .int .i64 x.2] W fun e W' =>
      (e = .returned (.bool true) ∧ J (pre ++ [x]) W' ∧ Below n₀ W W') ∨ (e = .returned (.bool false) ∧ Jx (pre ++ [x]) W'))
    (W : World) (hn₀ : n₀ ≤ W.heap.size) (hJ : AbidesFrom W.heap.size J) (hBs : W.cell? ⟨Bs, 0, none⟩ = some (.pointer (some ⟨b, 0, none⟩))) (hsv : W.cell? ⟨b, 2, none⟩ = some (.slice (some ⟨g, 0, none⟩) len cap))
    (hc0 : ∀ j, j < len → W.cell? ⟨g, j * 2, none⟩ = some (.int .i64 (dayAt ms j))) (hc1 : ∀ j, j < len → W.cell? ⟨g, j * 2 + 1, none⟩ = some (.int .i64 (unitAt ms j))) (h0 : J [] W) :
    CallsIn F n Try.prog 42 #[.func (.yield l) #[] #[], .pointer (some ⟨Bs, 0, none⟩)] W fun e W' => (∃ v, e = .returned v) ∧
      ((∃ ys, ys = pers ms len ∧ J ys W') ∨ (∃ pre, (∃ k, k ≤ len ∧ pre = pers ms k) ∧ Jx pre W')) := by
  refine callsIn_of_wp Try.func42 rfl h7 ?_ hro
  simp only [Try.ntmps42, List.size_toArray, List.length_cons, List.length_nil, Nat.reduceAdd, Nat.reduceSub, Array.replicate_succ, Array.replicate_zero, List.push_toArray, List.append_toArray, List.nil_append, List.cons_append]
  gi_wp2
  gi_loopw [3, 5, 11] (fun s _ i wr => ∃ k : Nat, k ≤ len ∧ i = .int .i64 k ∧ s = .int .i64 (balTo ms k) ∧ J (pers ms k) wr ∧ Below n₀ W wr)
    (fun _ _ i _ => len - (intOf i).toNat)
  case atStart => exact ⟨0, Nat.zero_le _, rfl, by rw [balTo_zero], h0, Below.refl _ _⟩
  case round =>
    obtain ⟨k, hk, rfl, rfl, hJs, hnx⟩ := hrel
    by_cases hlt : k < len
    · have hcx := (hnx.cell (p := ⟨g, k * 2, none⟩) hg).trans (hc0 k hlt)
      have hcy := (hnx.cell (p := ⟨g, k * 2 + 1, none⟩) hg).trans (hc1 k hlt)
      gi_wp2
      have hB := hbal k (by omega)
      have hB' := hbal (k + 1) (by omega)
      have hS := Lib.hid (balTo_succ ms k (by omega))
      have hu1 : -4000000000000000000 ≤ unitAt ms k := by have := hS.out; omega
      have hu2 : unitAt ms k ≤ 4000000000000000000 := by have := hS.out; omega
      have hs1 : -2000000000000000000 ≤ balTo ms k + unitAt ms k := by have := hS.out; omega
      have hs2 : balTo ms k + unitAt ms k ≤ 2000000000000000000 := by have := hS.out; omega
      obtain ⟨fn, tmps, assign, body, hy, hR⟩ := hY (pers ms k) (dayAt ms k, balTo ms k + unitAt ms k) (wr.alloc (.cells #[.int .i64 (dayAt ms k), .int .i64 (unitAt ms k)] 55)) (hJ _ _ _ none hJs (World.grownBy_alloc _ _ _) (fun r e => by cases e)) (by rw [pers_length]; exact hlt)
      have hwr : wrap64 (balTo ms k + unitAt ms k) = balTo ms k + unitAt ms k := IntWalk.wrap64_in _ (by omega)
      have hnxt := Lib.hid hS.out.symm
      gi_wp2
      refine hR.mono ?_
      rintro e W3 (⟨rfl, hJ3, hk3⟩ | ⟨rfl, hJx3⟩)
      · -- the round goes on
        gi_wp2
        go_roundw
        case rel => exact ⟨k + 1, by omega, by simp, by rw [hnxt.out], by rw [pers_succ, ← hnxt.out]; exact hJ3, (hnx.alloc (by have := hnx.size; omega) _).trans hk3⟩
        case measure => simp [intOf]; omega
      · gi_wp2
        refine bodyPost_ret (results_none rfl _ _ _) rfl ?_
        exact ⟨⟨_, rfl⟩, .inr ⟨_, ⟨k + 1, by omega, by rw [pers_succ, ← hnxt.out]⟩, hJx3⟩⟩
    · obtain rfl : k = len := by omega
      gi_wp2
      go_end0
      exact ⟨⟨_, rfl⟩, .inl ⟨_, rfl, hJs⟩⟩
theorem periods_in (F : Fence) (n : Nat) (h : F.fn 31) (hro : F.round = none) (p : Option Addr) (w : World) :
    CallsIn F n Try.prog 31 #[.pointer p] w fun e w' => e = .returned (.func (.func 42) #[] #[.pointer (some ⟨w.heap.size, 0, none⟩)]) ∧ w' = w.alloc (.cells #[.pointer p] 24) := by
  refine callsIn_of_wp Try.func31 rfl h ?_ hro
  simp only [Try.ntmps31, List.size_toArray, List.length_cons, List.length_nil, Nat.reduceAdd, Nat.reduceSub, Array.replicate_succ, Array.replicate_zero, List.push_toArray, List.append_toArray, List.nil_append, List.cons_append]
  gi_wp2
  go_ret
  exact ⟨rfl, rfl⟩

theorem periods_stops (F : Fence) (n : Nat) (h : F.fn 42) (hro : F.round = none) (hn : 1 ≤ n) (Bs n₀ b g cap : Nat) (r v : Int) (ms : List (Int × Int)) (cl : Bool) (hB : Bnd ms) (w : World)
    (hA : Acc 58 55 w b g cap r v ms cl) (hn₀ : n₀ ≤ w.heap.size) (hg : g < n₀) (hBs : w.cell? ⟨Bs, 0, none⟩ = some (.pointer (some ⟨b, 0, none⟩))) (hBs' : Bs < w.heap.size) :
    SeqStopsK F n Try.prog 42 #[.pointer (some ⟨Bs, 0, none⟩)] (fun x : Int × Int => #[Value.int .i64 x.1, .int .i64 x.2]) (Below n₀) (fun ys => ys = pers ms ms.length) (fun pre => ∃ k, k ≤ ms.length ∧ pre = pers ms k) ms.length w := fun l J Jx W hW hJ _ hY h0 => by
  have hA' := hA.below hW
  exact periods1_in F n h hro hn l Bs n₀ b g ms.length cap ms hB.len hg hB.bal (Nat.le_refl _) J Jx hY W (Nat.le_trans hn₀ hW.size) hJ ((hW.cell (p := ⟨Bs, 0, none⟩) hBs').trans hBs) hA'.c2 hA'.day hA'.unit h0
end Go.Proofs.Ytodnnfdglkidgaa
