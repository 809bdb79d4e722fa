/- The checks that need the balance. -/
import Derived.Test.YtodnnfdglkidgaaC
import Derived.Deep.RegionWith
import Derived.Deep.DeepCutAuto
import Derived.Deep.RegionHeld3
set_option linter.unusedVariables false
namespace Go.Proofs.Ytodnnfdglkidgaa
open Go.RowKit Go.Shelf

/-- The sum, asked for while an entry lies boxed. -/
theorem sum_ent (b g cap : Nat) (r v : Int) (ms : List (Int × Int)) (cl : Bool) (hBn : Bnd ms) (w : World) (hA : Acc 58 55 w b g cap r v ms cl) (c0 c1 c2 c3 : Value) (W0 : World) (hW : W0 = (w.alloc (.cells #[c0, c1, c2, c3] 62)).drew) :
    Calls Try.prog 32 #[.pointer (some ⟨b, 0, none⟩)] W0 fun e W' => e = .returned (.int .i64 (balTo ms ms.length)) ∧ W'.cell? ⟨w.heap.size, 0, none⟩ = some c0 ∧ W'.cell? ⟨w.heap.size, 1, none⟩ = some c1 ∧ W'.cell? ⟨w.heap.size, 2, none⟩ = some c2 ∧ Below w.heap.size w W' := by
  subst hW
  have hA1 : Acc 58 55 (w.alloc (.cells #[c0, c1, c2, c3] 62)).drew b g cap r v ms cl := hA.below (((Below.refl _ w).alloc (Nat.le_refl _) _).drew)
  refine (sum_any b g cap r v ms cl hBn _ hA1).mono ?_
  rintro e w1 ⟨rfl, hb⟩
  have hc : ∀ i, w1.cell? ⟨w.heap.size, i, none⟩ = #[c0, c1, c2, c3][i]? := fun i => (hb.cell (p := ⟨w.heap.size, i, none⟩) (by simp [World.drew])).trans (cell_of_row _ _ i _ _ _ (heap_alloc_new w _))
  exact ⟨rfl, by rw [hc]; rfl, by rw [hc]; rfl, by rw [hc]; rfl, (((Below.refl _ w).alloc (Nat.le_refl _) _).drew).trans (hb.mono (by simp [World.drew]))⟩

set_option maxHeartbeats 400000 in
theorem covered_any (b g cap : Nat) (r v : Int) (ms : List (Int × Int)) (cl : Bool) (hgd : Good ms) (d u : Int) (hu1 : -1000000000000 ≤ u) (hu2 : u ≤ 1000000000000) (lic : Bool) (w : World) (hA : Acc 58 55 w b g cap r v ms cl) :
    Calls Try.prog 44 #[ent b d u lic] w fun e w' => e = .returned (.int .i64 (errCov ms u)) ∧ Below w.heap.size w w' := by
  have HS := Lib.hid (sum_ent b g cap r v ms cl hgd.bnd w hA (.pointer (some ⟨b, 0, none⟩)) (.int .i64 d) (.int .i64 u) (.bool lic))
  have hbl := hgd.bal ms.length (Nat.le_refl _)
  have HR : Hid (errCov ms u = if balTo ms ms.length + u < 0 then 21 else 0) := rfl
  clear hgd
  generalize balTo ms ms.length = B at *
  obtain ⟨hb1, hb2⟩ := hbl
  have Hw : Hid (IntKind.i64.wrap (B + u) = B + u) := IntWalk.i64_in _ (by omega)
  go_enter Try.func44, Try.ntmps44
  go_upto_region 1 with (fail)
  go_cut [10] (fun s w2 => s = .bool (decide (B + u < 0)) ∧ Below w.heap.size w w2)
  case first =>
    go_region_with (go_at_call 32; refine (HS.out _ rfl).mono ?_; rintro e w' ⟨rfl, hx0, hx1, hx2, hbw⟩)
    all_goals (go_wp2_with fail; go_meet; exact ⟨by rw [Hw.out], hbw⟩)
  case rest =>
    obtain ⟨rfl, hbw⟩ := hcut
    by_cases h : B + u < 0
    · go_wp2
      go_ret
      exact ⟨ret_int (by rw [HR.out, if_pos h]), hbw⟩
    · go_wp2
      go_ret
      exact ⟨ret_int (by rw [HR.out, if_neg (by omega)]), hbw⟩
set_option maxHeartbeats 400000 in
theorem bounded_any (b g cap : Nat) (r v : Int) (ms : List (Int × Int)) (cl : Bool) (hgd : Good ms) (d u : Int) (hu1 : -1000000000000 ≤ u) (hu2 : u ≤ 1000000000000) (lic : Bool) (w : World) (hA : Acc 58 55 w b g cap r v ms cl) :
    Calls Try.prog 45 #[ent b d u lic] w fun e w' => e = .returned (.int .i64 (errBnd ms u)) ∧ Below w.heap.size w w' := by
  have HS := Lib.hid (sum_ent b g cap r v ms cl hgd.bnd w hA (.pointer (some ⟨b, 0, none⟩)) (.int .i64 d) (.int .i64 u) (.bool lic))
  have hbl := hgd.bal ms.length (Nat.le_refl _)
  have hlen := hgd.len2
  have HR : Hid (errBnd ms u = if 1000 ≤ ms.length ∨ 1000000000000 < balTo ms ms.length + u then 2 else 0) := rfl
  clear hgd
  have hA1 : Acc 58 55 (w.alloc (.cells #[.pointer (some ⟨b, 0, none⟩), .int .i64 d, .int .i64 u, .bool lic] 62)) b g cap r v ms cl := hA.below ((Below.refl _ w).alloc (Nat.le_refl _) _)
  have hc2 := hA1.c2
  have hB1 : Below w.heap.size w (w.alloc (.cells #[.pointer (some ⟨b, 0, none⟩), .int .i64 d, .int .i64 u, .bool lic] 62)) := (Below.refl _ w).alloc (Nat.le_refl _) _
  clear hA1
  generalize balTo ms ms.length = B at *
  generalize ms.length = L at *
  obtain ⟨hb1, hb2⟩ := hbl
  have Hw : Hid (IntKind.i64.wrap (B + u) = B + u) := IntWalk.i64_in _ (by omega)
  by_cases hL : 1000 ≤ L
  · have hR : Hid (errBnd ms u = 2) := by rw [HR.out, if_pos (.inl hL)]; rfl
    have hd : decide ((1000 : Int) ≤ (L : Int)) = true := by simp; omega
    go_enter Try.func45, Try.ntmps45
    go_wp2_with fail
    go_quiet (fail)
    go_wp2
    go_ret
    exact ⟨ret_int hR.out.symm, below_drewN hB1 _⟩
  · have hd : decide ((1000 : Int) ≤ (L : Int)) = false := by simp; omega
    go_enter Try.func45, Try.ntmps45
    go_upto_region 1 with (fail)
    go_cut [19] (fun s w2 => s = .bool (decide (1000000000000 < B + u)) ∧ Below w.heap.size w w2)
    case first =>
      go_region_with (go_at_call 32; refine (HS.out _ rfl).mono ?_; rintro e w' ⟨rfl, hx0, hx1, hx2, hbw⟩)
      all_goals (go_wp2_with fail; go_meet; exact ⟨by rw [Hw.out], hbw⟩)
    case rest =>
      obtain ⟨rfl, hbw⟩ := hcut
      by_cases h : 1000000000000 < B + u
      · go_wp2
        go_ret
        exact ⟨ret_int (by rw [HR.out, if_pos (.inr h)]), hbw⟩
      · go_wp2
        go_ret
        exact ⟨ret_int (by rw [HR.out, if_neg (by omega)]), hbw⟩
end Go.Proofs.Ytodnnfdglkidgaa
