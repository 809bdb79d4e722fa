/- Adding a movement: all checks pass. -/
import Derived.Test.YtodnnfdglkidgaaE
set_option linter.unusedVariables false
namespace Go.Proofs.Ytodnnfdglkidgaa
open Go.RowKit Go.Shelf

theorem Try.info55 : (Try.prog.info? 55).map (fun i => (i.zero, i.size, i.bytes)) = some (some (.agg #[.int .i64 0, .int .i64 0]), 2, 16) := by kernel_rfl

set_option maxHeartbeats 2000000 in
theorem add_pass (b g cap : Nat) (r v : Int) (ms : List (Int × Int)) (cl : Bool) (hlen : ms.length ≤ 2000) (d u : Int) (lic : Bool) (s0 : Says b g cap r v ms cl 29 #[.pointer (some ⟨b, 0, none⟩)] 0) (s1 : Says b g cap r v ms cl 43 #[ent b d u lic] 0) (s2 : Says b g cap r v ms cl 30 #[ent b d u lic] 0) (s3 : Says b g cap r v ms cl 44 #[ent b d u lic] 0) (s4 : Says b g cap r v ms cl 45 #[ent b d u lic] 0) (w : World) (hA : Acc 58 55 w b g cap r v ms cl) :
    Calls Try.prog 41 #[.pointer (some ⟨b, 0, none⟩), .int .i64 d, .int .i64 u, .bool lic] w fun e w' => e = .returned (.int .i64 0) ∧
      ∃ g' cap', Acc 58 55 w' b g' cap' r v (ms ++ [(d, u)]) cl ∧ Chg [b, g] w w' ∧ (g' = g ∨ w.heap.size ≤ g') := by
  have i0 := ix0 b d u lic
  have i1 := ix1 b d u lic
  have i2 := ix2 b d u lic
  have i3 := ix3 b d u lic
  have i4 := ix4 b d u lic
  obtain ⟨it, hi, hz0, hz1, hz2⟩ := info_parts Try.info55
  have hA0 : Acc 58 55 (w.alloc (.cells #[.pointer (some ⟨b, 0, none⟩), .int .i64 d, .int .i64 u, .bool lic] 62)) b g cap r v ms cl := hA.below ((Below.refl _ w).alloc (Nat.le_refl _) _)
  have hC0 : Chg [b, g] w (w.alloc (.cells #[.pointer (some ⟨b, 0, none⟩), .int .i64 d, .int .i64 u, .bool lic] 62)) := (Chg.refl _ _).alloc _
  have hB0 := Below.refl (w.alloc (.cells #[.pointer (some ⟨b, 0, none⟩), .int .i64 d, .int .i64 u, .bool lic] 62)).heap.size (w.alloc (.cells #[.pointer (some ⟨b, 0, none⟩), .int .i64 d, .int .i64 u, .bool lic] 62))
  have hent : ∀ i, (w.alloc (.cells #[.pointer (some ⟨b, 0, none⟩), .int .i64 d, .int .i64 u, .bool lic] 62)).cell? ⟨w.heap.size, i, none⟩ = #[.pointer (some ⟨b, 0, none⟩), .int .i64 d, .int .i64 u, .bool lic][i]? := fun i => cell_of_row _ _ i _ _ _ (heap_alloc_new w _)
  have Hent := Lib.hid hent
  clear hent
  have hwb := hA.blt
  have hwg := hA.glt
  go_enter Try.func41, Try.ntmps41
  go_wp2_with fail
  refine wp_loop_rounds 6 ?_
  rw [rounds_succ]
  go_wp2_with fail
  refine (s0.at hA0 hB0).mono ?_
  rintro e w1 ⟨rfl, hB1⟩
  clear hB0 i0
  go_wp2_with fail
  rw [rounds_succ]
  go_wp2_with fail
  refine (s1.at hA0 hB1).mono ?_
  rintro e w2 ⟨rfl, hB2⟩
  clear hB1 i1
  go_wp2_with fail
  rw [rounds_succ]
  go_wp2_with fail
  refine (s2.at hA0 hB2).mono ?_
  rintro e w3 ⟨rfl, hB3⟩
  clear hB2 i2
  go_wp2_with fail
  rw [rounds_succ]
  go_wp2_with fail
  refine (s3.at hA0 hB3).mono ?_
  rintro e w4 ⟨rfl, hB4⟩
  clear hB3 i3
  go_wp2_with fail
  rw [rounds_succ]
  go_wp2_with fail
  refine (s4.at hA0 hB4).mono ?_
  rintro e w5 ⟨rfl, hB5⟩
  clear hB4 i4
  go_wp2_with fail
  rw [rounds_succ]
  go_wp2_with fail
  have hA5 := hA0.below hB5
  have hC5 : Chg [b, g] w w5 := hC0.add hB5
  have hs5 : w.heap.size < w5.heap.size := by have := hB5.size; simp at this; omega
  have e1 : w5.cell? ⟨w.heap.size, 1, none⟩ = some (.int .i64 d) := by rw [hB5.cell (p := ⟨w.heap.size, 1, none⟩) (by simp), Hent.out]; rfl
  have e2 : w5.cell? ⟨w.heap.size, 2, none⟩ = some (.int .i64 u) := by rw [hB5.cell (p := ⟨w.heap.size, 2, none⟩) (by simp), Hent.out]; rfl
  have hbl := hA5.blt
  have hgl := hA5.glt
  have hc2 := hA5.c2
  clear hB5 hC0 hA0
  have HA6 : Hid (Acc 58 55 (w5.alloc (.cells #[.int .i64 d, .int .i64 u] 55)).drew b g cap r v ms cl) := hA5.below (((Below.refl _ w5).alloc (Nat.le_refl _) _).drew)
  have HN : Hid (∀ j x, [Value.int .i64 d, .int .i64 u][j]? = some x → (w5.alloc (.cells #[.int .i64 d, .int .i64 u] 55)).drew.cell? ((⟨w5.heap.size, 0, none⟩ : Addr).add j) = some x) :=
    World.news_of_block (w := (w5.alloc (.cells #[.int .i64 d, .int .i64 u] 55)).drew) (cs := #[.int .i64 d, .int .i64 u]) (heap_alloc_new w5 _)
  have HK : Hid (∀ w6, (w5.alloc (.cells #[.int .i64 d, .int .i64 u] 55)).drew.grownBy w6 (some g) → w6.cell? ⟨b, 2, none⟩ = some (.slice (some ⟨g, 0, none⟩) ms.length cap) ∧ w6.frozen? ⟨b, 2, none⟩ = false) := fun w6 h =>
    ⟨(h.cell_far ⟨b, 2, none⟩ HA6.out.blt (by have := hA.ne; simp; omega)).trans HA6.out.c2, (h.frozen_far ⟨b, 2, none⟩ HA6.out.blt (by have := hA.ne; simp; omega)).trans (HA6.out.fr 2)⟩
  go_region_law (refine step_append_lies _ rfl (.tmp 43) (.tmp 46) 56 rfl 0 55 it (.agg #[.int .i64 0, .int .i64 0]) 2 16 Try.underlying56 hi hz0 hz1 hz2 rfl (by decide) _ ms.length (flat ms) (by simp [Act.eval]) HA6.out.own ⟨w5.heap.size, 0, none⟩ 1 1 [.int .i64 d, .int .i64 u] (by simp [Act.eval]) rfl HN.out (by simp [Value.oneCell']) (by decide) (by unfold maxLen; omega) (by omega) (Nat.zero_le _) _ rfl ?_; intro g2 cap2 w6 hown2 hgrow2 hat hlt; have hcb := (HK.out w6 hgrow2).1; have hfb := (HK.out w6 hgrow2).2)
  all_goals
    go_wp2
    go_ret
    exact ⟨rfl, g2, cap2, HA6.out.appended hown2 hgrow2 hat (by simp), (hC5.alloc _).drew.grown hgrow2 (.inl (by simp)) |>.setCell (.inl (by simp)) _, by rcases hat with e | e; exact .inl (Option.some.inj (show some g = some g2 from e)).symm; exact .inr (by first | omega | (simp [World.drew] at e; omega))⟩
end Go.Proofs.Ytodnnfdglkidgaa
