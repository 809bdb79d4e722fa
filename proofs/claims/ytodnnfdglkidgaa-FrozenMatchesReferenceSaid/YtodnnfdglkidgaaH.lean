/- New and Release; laws for a whole copy, and for a range over a function in a plain walk. -/
import Derived.Test.YtodnnfdglkidgaaG
set_option linter.unusedVariables false
namespace Go.Proofs.Ytodnnfdglkidgaa
open Go.RowKit Go.Shelf

theorem calls_of_wp_marks {n : Nat} {P : Program} {f : FuncId} {fn : Func} {c : Code} {args : Array Value} {w : World} {R : Ending → World → Prop}
    (hf : P.funcs[f]? = some fn) (hb : fn.body = some c) (h : c.wp P (bodyPostM Fence.wide n P fn R) { tmps := args ++ Array.replicate (fn.ntmps - args.size) undef, defers := [] } w) : Calls P f args w R :=
  callsIn_wide.1 (callsIn_of_wp_marks hf hb trivial (wpIn_wide.2 h))

/-- A whole copy from one row into another of the same length, as a step of a region that draws its order. -/
theorem step_copy_whole {P : Program} {ops : Array Oper} {o : Oper} {a : Act} {w : World} {K : Act → World → Prop} {Q : Exit → Act → World → Prop} {E : Prop} (hgd : o.guard = none) (d s : Operand) (dT sT : TypeId)
    (ho : o.op = .call { callee := .builtin .copy, args := #[d, s], argTypes := #[dT, sT] }) (elem : TypeId) (it : TypeInfo) (hu : P.underlying dT = some (.slice elem)) (hi : P.info? elem = some it) (size : Nat) (hsz : it.size = size)
    (g n dCap : Nat) (ad : Addr) (sCap : Nat) (hd : a.eval d = .slice (some ⟨g, 0, none⟩) n dCap) (hs : a.eval s = .slice (some ad) n sCap)
    (cur : Array Value) (t : TypeId) (hg : w.heap[g]? = some (.cells cur t (0, 0))) (cs : List Value) (hn : cs.length = n * size) (hfit : cur.size = n * size)
    (hsrc : ∀ j v, cs[j]? = some v → w.cell? (ad.add j) = some v) (h1 : ∀ v ∈ cs, v.oneCell' = true)
    (h : ∀ w', w'.heap[g]? = some (.cells cs.toArray t (0, 0)) → w.grownBy w' (some g) → w'.heap.size = w.heap.size → K (a.put o.dst (goInt n)) w') :
    if Region.wanted o (yielded ops a.tmps) = true then Oper.wp P o a w K Q else E := by
  have hw : Region.wanted o (yielded ops a.tmps) = true := by simp [Region.wanted, hgd]
  rw [if_pos hw]
  have hl := run_firstCells_some (P := P) w size n ad n sCap cs hn hsrc
  have hst := run_storeCells_at P g 0 t cs 0 cur w hg (by omega) h1
  have hrow : (cur.toList.take (0 + 0) ++ cs ++ cur.toList.drop (0 + 0 + cs.length)).toArray = cs.toArray := by
    have : cur.toList.drop (0 + 0 + cs.length) = [] := List.drop_eq_nil_of_le (by simp; omega)
    rw [this]; simp
  rw [hrow] at hst
  have hrun : (Builtin.copy_ #[dT, sT] o.type #[.slice (some ⟨g, 0, none⟩) n dCap, .slice (some ad) n sCap]).run P w = .ok (goInt n) (w.setRow g cs.toArray) := by
    simp [Builtin.copy_, run_underlying hu, Builtin.lenOf, sizeOf, typeInfo, hi, hsz, hl, hst]
  unfold Oper.wp
  simp [execOp, ho, resolve, invoke, builtin, hd, hs, hrun, Result.andThen]
  exact h _ (setRow_heap w g cur _ t _ hg) ⟨rfl, rfl, rfl, by simp, fun k _ hne => setRow_other w g k _ (by intro e; subst e; simp at hne)⟩ (by simp)

set_option maxHeartbeats 400000 in
theorem new_ok (r v d u : Int) (w : World) (h1 : 0 ≤ r) (h2 : r ≤ 10000) (h3 : 0 ≤ v) (h4 : v ≤ 10000) (h5 : 0 ≤ d) (h6 : d ≤ 100000) (h7 : 0 ≤ u) (h8 : u ≤ 1000000000000) :
    Calls Try.prog 10 #[.int .i64 r, .int .i64 v, .int .i64 d, .int .i64 u] w fun e w' => e = .returned (.tuple #[.pointer (some ⟨w.heap.size + 1, 0, none⟩), .int .i64 0]) ∧
      Acc 58 55 w' (w.heap.size + 1) w.heap.size 1 r v [(d, u)] false ∧ Below w.heap.size w w' := by
  go_enter Try.func10, Try.ntmps10
  go_wp2
  go_ret2
  refine ⟨rfl, ⟨?_, ⟨rfl, .inr ⟨w.heap.size, 1, #[.int .i64 d, .int .i64 u], rfl, Nat.zero_le _, ?_, Nat.le_refl _, by decide, rfl, rfl⟩⟩, by omega⟩, ((Below.refl _ _).alloc (Nat.le_refl _) _).alloc (by simp) _⟩
  · have := heap_alloc_new (w.alloc (.cells #[.int .i64 d, .int .i64 u] 55)) (.cells #[.int .i64 r, .int .i64 v, .slice (some ⟨w.heap.size, 0, none⟩) 1 1, .bool false] 58)
    simpa using this
  · exact (heap_alloc_old _ _ _ (by simp)).trans (heap_alloc_new _ _)

/-- What New takes. -/
def okNew (r v d u : Int) : Prop := (0 ≤ r ∧ r ≤ 10000) ∧ (0 ≤ v ∧ v ≤ 10000) ∧ (0 ≤ d ∧ d ≤ 100000) ∧ (0 ≤ u ∧ u ≤ 1000000000000)
set_option maxHeartbeats 400000 in
theorem new_no (r v d u : Int) (w : World) (h : ¬ okNew r v d u) :
    Calls Try.prog 10 #[.int .i64 r, .int .i64 v, .int .i64 d, .int .i64 u] w fun e w' => e = .returned (.tuple #[.pointer none, .int .i64 1]) ∧ w = w' := by
  have hy : ∀ n lo hi : Int, (lo ≤ n ∧ n ≤ hi) ∨ (n < lo ∨ hi < n) := fun n lo hi => by omega
  rcases hy r 0 10000 with ⟨a, b⟩ | a
  · have R1 := within_yes r 0 10000 w a b
    rcases hy v 0 10000 with ⟨c, e⟩ | c
    · have R2 := within_yes v 0 10000 w c e
      rcases hy d 0 100000 with ⟨f, g⟩ | f
      · have R3 := isDay_yes d w f g
        have R4 := within_no u 0 1000000000000 w (by unfold okNew at h; omega)
        clear h a b c e f g hy
        go_enter Try.func10, Try.ntmps10
        go_wp2_with fail
        refine R1.mono ?_; rintro e w' ⟨rfl, rfl⟩
        go_wp2_with fail
        refine R2.mono ?_; rintro e w' ⟨rfl, rfl⟩
        go_wp2_with fail
        refine R3.mono ?_; rintro e w' ⟨rfl, rfl⟩
        go_wp2_with fail
        refine R4.mono ?_; rintro e w' ⟨rfl, rfl⟩
        go_wp2_with fail
        go_ret2
        exact ⟨rfl, rfl⟩
      · have R3 := isDay_no d w f
        clear h a b c e f hy
        go_enter Try.func10, Try.ntmps10
        go_wp2_with fail
        refine R1.mono ?_; rintro e w' ⟨rfl, rfl⟩
        go_wp2_with fail
        refine R2.mono ?_; rintro e w' ⟨rfl, rfl⟩
        go_wp2_with fail
        refine R3.mono ?_; rintro e w' ⟨rfl, rfl⟩
        go_wp2_with fail
        go_ret2
        exact ⟨rfl, rfl⟩
    · have R2 := within_no v 0 10000 w c
      clear h a b c hy
      go_enter Try.func10, Try.ntmps10
      go_wp2_with fail
      refine R1.mono ?_; rintro e w' ⟨rfl, rfl⟩
      go_wp2_with fail
      refine R2.mono ?_; rintro e w' ⟨rfl, rfl⟩
      go_wp2_with fail
      go_ret2
      exact ⟨rfl, rfl⟩
  · have R1 := within_no r 0 10000 w a
    clear h a hy
    go_enter Try.func10, Try.ntmps10
    go_wp2_with fail
    refine R1.mono ?_; rintro e w' ⟨rfl, rfl⟩
    go_wp2_with fail
    go_ret2
    exact ⟨rfl, rfl⟩

set_option maxHeartbeats 400000 in
theorem release_err (p : Value) (day : Int) (vo : Bool) (E : Int) (hE : E ≠ 0) (w : World) (H : Calls Try.prog 12 #[p, .int .i64 day, .bool vo] w fun e w' => e = .returned (.tuple #[.int .i64 0, .int .i64 E]) ∧ Below w.heap.size w w') :
    Calls Try.prog 20 #[p, .int .i64 day, .bool vo] w fun e w' => e = .returned (.tuple #[.int .i64 0, .int .i64 0, .int .i64 E]) ∧ Below w.heap.size w w' := by
  have hE' : (E != 0) = true := by simp [hE]
  clear hE
  go_enter Try.func20, Try.ntmps20
  go_wp2_with fail
  refine H.mono ?_
  rintro e w' ⟨rfl, hb⟩
  go_wp2_with fail
  go_ret3
  exact ⟨rfl, hb⟩

theorem Acc.close {ta tm : TypeId} {w : World} {b g cap : Nat} {r v : Int} {ms : List (Int × Int)} {cl : Bool} (h : Acc ta tm w b g cap r v ms cl) : Acc ta tm (w.setCell ⟨b, 3, none⟩ (.bool true)) b g cap r v ms true := by
  refine ⟨by rw [heap_setCell_same _ _ _ _ _ _ _ h.blk]; rfl, ⟨h.own.1, ?_⟩, h.ne⟩
  rcases h.own.2 with ⟨e, _⟩ | ⟨g', cap', cur, e, h1, h2, h3⟩
  · cases e
  · simp only [Value.slice.injEq, Option.some.injEq, Addr.mk.injEq, true_and, and_true] at e
    obtain ⟨rfl, rfl⟩ := e
    exact .inr ⟨g, cap, cur, rfl, h1, by rw [Below.heap_setCell _ _ _ _ h.ne]; exact h2, h3⟩

set_option maxHeartbeats 400000 in
theorem release_ok (b g cap : Nat) (r v : Int) (ms : List (Int × Int)) (cl : Bool) (hgd : Good ms) (hr1 : 0 ≤ r) (hr2 : r ≤ 10000) (hv1 : 0 ≤ v) (hv2 : v ≤ 10000) (day : Int) (vo : Bool) (hd1 : 0 ≤ day) (hd2 : day ≤ 100000) (w : World) (hA : Acc 58 55 w b g cap r v ms cl) (hE : errTwo cl ms day = 0) :
    Calls Try.prog 20 #[.pointer (some ⟨b, 0, none⟩), .int .i64 day, .bool vo] w fun e w' => e = .returned (.tuple #[.int .i64 (balTo ms ms.length), .int .i64 (interestOf (if vo then v else r) (total ms day)), .int .i64 0]) ∧
      Acc 58 55 w' b g cap r v ms true ∧ Chg [b] w w' := by
  have H := interest_ok b g cap r v ms cl hgd hr1 hr2 hv1 hv2 day vo hd1 hd2 w hA hE
  have HS := Lib.hid (sum_any b g cap r v ms true hgd.bnd)
  clear hE hgd hr1 hr2 hv1 hv2 hd1 hd2
  generalize interestOf (if vo then v else r) (total ms day) = I at *
  go_enter Try.func20, Try.ntmps20
  go_wp2_with fail
  refine H.mono ?_
  rintro e w1 ⟨rfl, hb⟩
  have hA1 := hA.below hb
  have c3 := hA1.c3
  have f3 := hA1.fr 3
  go_wp2_with fail
  refine (HS.out _ hA1.close).mono ?_
  rintro e w2 ⟨rfl, hb2⟩
  go_wp2_with fail
  go_ret3
  exact ⟨rfl, hA1.close.below hb2, ((Below.chg hb _).setCell (.inl (by simp)) _).add hb2⟩
end Go.Proofs.Ytodnnfdglkidgaa
