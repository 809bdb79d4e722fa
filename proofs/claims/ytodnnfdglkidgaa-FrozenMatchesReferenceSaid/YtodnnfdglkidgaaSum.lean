/- The balance of an account: the sum of its movements. -/
import Derived.Test.YtodnnfdglkidgaaIter
set_option linter.unusedVariables false
namespace Go.Proofs.Ytodnnfdglkidgaa
open Go.RowKit Go.Shelf
attribute [local go_sem] Oper.semAt_some

theorem pers_getLast (ms : List (Int × Int)) (k : Nat) (x : Int × Int) (pre : List (Int × Int)) (h : pers ms k = pre ++ [x]) : x.2 = balTo ms k ∧ x.1 = dayAt ms (k - 1) ∧ pre = pers ms (k - 1) ∧ 1 ≤ k := by
  cases k with
  | zero => simp [pers] at h
  | succ k =>
    rw [pers_succ] at h
    have := List.append_inj' h rfl
    obtain ⟨h1, h2⟩ := this
    simp at h2
    subst h2
    simp [h1]

/-- The balance that came last. -/
def lastBal (pre : List (Int × Int)) : Int := (pre.getLast?.map (·.2)).getD 0
theorem lastBal_snoc (pre : List (Int × Int)) (x : Int × Int) : lastBal (pre ++ [x]) = x.2 := by simp [lastBal]
theorem lastBal_pers (ms : List (Int × Int)) (k : Nat) : lastBal (pers ms k) = balTo ms k := by
  cases k with
  | zero => simp [lastBal, pers, balTo]
  | succ k => rw [pers_succ, lastBal_snoc]

set_option maxRecDepth 100000 in
set_option maxHeartbeats 1000000 in
theorem sum_in (F : Fence) (n : Nat) (h32 : F.fn 32) (h31 : F.fn 31) (h42 : F.fn 42) (hro : F.round = none) (hn : 3 ≤ n) (b g cap : Nat) (r v : Int) (ms : List (Int × Int)) (cl : Bool) (hBn : Bnd ms) (w : World) (hA : Acc 58 55 w b g cap r v ms cl) :
    CallsIn F n Try.prog 32 #[.pointer (some ⟨b, 0, none⟩)] w fun e W' => e = .returned (.int .i64 (balTo ms ms.length)) ∧ Below w.heap.size w W' := by
  have h1 : 1 ≤ n := by omega
  refine callsIn_of_wp_marks Try.func32 rfl h32 ?_ hro
  simp only [Try.ntmps32, List.size_toArray, List.length_cons, List.length_nil, Nat.reduceAdd, Nat.reduceSub, Array.replicate_succ, Array.replicate_zero, List.push_toArray, List.append_toArray, List.nil_append, List.cons_append]
  gi_wp2_with (gi_at_call 31; refine (periods_in F (n - 1) h31 hro _ _).mono ?_; rintro e w' ⟨rfl, rfl⟩)
  have hs := cell_new_l w (.int .i64 0) 3
  have hb := cell_new_l (w.alloc (.cells #[.int .i64 0] 3)) (.pointer (some ⟨b, 0, none⟩)) 24
  rw [World.size_alloc] at hb
  have hB0 : Below w.heap.size w ((w.alloc (.cells #[.int .i64 0] 3)).alloc (.cells #[.pointer (some ⟨b, 0, none⟩)] 24)) := ((Below.refl _ w).alloc (Nat.le_refl _) _).alloc (by simp) _
  have hA0 := hA.below hB0
  refine wpIn_rangeFunc_ownF hro h1 (gf := 42) (lb := #[.pointer (some ⟨w.heap.size + 1, 0, none⟩)]) rfl h42 (enters_of Try.func42 (by kernel_rfl) rfl)
    (periods_stops F (n - 1) h42 hro (by omega) (w.heap.size + 1) w.heap.size b g cap r v ms cl hBn _ hA0 (by simp; omega) hA.glt hb.1 (by simp)) belowK_t (belowK_b (by simp; omega)) (Below.refl _ _) (fun _ => rfl)
    (fun pre W => (W.cell? ⟨w.heap.size, 0, none⟩ = some (.int .i64 (lastBal pre)) ∧ W.frozen? ⟨w.heap.size, 0, none⟩ = false) ∧ Below w.heap.size w W)
    (fun _ _ _ => False)
    (OwnFrom.and (Own.from (fun s A B row hs hg hr => ⟨cell_kept hs.1 hg hr, (frozen_kept hs.1 hg hr).trans hs.2⟩) _) (ownFrom_below (Nat.le_refl _) (by simp; omega)))
    (fun _ _ _ _ _ hs _ _ => hs)
    ⟨⟨cell_alloc_l _ hs.1, frozen_alloc_l _ hs.1 hs.2⟩, hB0⟩
    (fun x => { tmps := #[.pointer (some ⟨b, 0, none⟩), undef, .int .i64 0, .pointer (some ⟨w.heap.size, 0, none⟩), undef, .int .i64 x.2, .pointer (some ⟨b, 0, none⟩), .func (.func 42) #[] #[.pointer (some ⟨w.heap.size + 1, 0, none⟩)], .int .i64 x.1, .int .i64 x.2, undef, undef], defers := [] }) ?assign ?body ?done ?stop
  case assign =>
    intro l x W K hK
    gi_wp2
    exact hK
  case body =>
    rintro l pre x W ⟨⟨hc, hf⟩, hB⟩ _
    gi_wp2
    exact ⟨KeepsOthers.setCell _ _ _, (Below.refl w.heap.size W).setCell (p := ⟨w.heap.size, 0, none⟩) (Nat.le_refl _) _, ⟨by rw [lastBal_snoc]; exact World.cell?_setCell_same' _ _ _ (by rw [hc]; rfl), by rw [World.frozen?_setCell]; exact hf⟩, hB.setCell (p := ⟨w.heap.size, 0, none⟩) (Nat.le_refl _) _⟩
  case done =>
    rintro D ys W hD rfl ⟨⟨hc, _⟩, hB⟩ hK
    rw [lastBal_pers] at hc
    gi_wp2
    refine ⟨by simp, .inl ⟨_, _, rfl, run_takeDeferred hK, ?_⟩⟩
    exact ⟨_, results_tmp rfl _ _ _, rfl, hB.trans (belowK_b (w := w) (Nat.le_refl _) W D _ _ (by simp at hD; omega) hK rfl rfl)⟩
  case stop =>
    rintro D c pre W _ _ h _
    exact h.elim
end Go.Proofs.Ytodnnfdglkidgaa
