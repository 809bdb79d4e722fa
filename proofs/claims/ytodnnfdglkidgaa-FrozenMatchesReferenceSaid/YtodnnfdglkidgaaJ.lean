/- Correct at every argument; a step; the examples. -/
import Derived.Test.YtodnnfdglkidgaaI
set_option linter.unusedVariables false
namespace Go.Proofs.Ytodnnfdglkidgaa
open Go.RowKit Go.Shelf

/-- The outcome of a call that answers E and leaves the account with ms'. -/
def Did (b g : Nat) (r v : Int) (ms' : List (Int × Int)) (cl : Bool) (E : Int) (w : World) (e : Ending) (w' : World) : Prop :=
  e = .returned (.int .i64 E) ∧ ∃ g' cap', Acc 58 55 w' b g' cap' r v ms' cl ∧ Chg [b, g] w w' ∧ (g' = g ∨ w.heap.size ≤ g')

theorem ret_cell (w : World) (E : Int) : (results Try.f14 #[] ).run Try.prog w = (results Try.f14 #[]).run Try.prog w := rfl

set_option maxHeartbeats 400000 in
theorem correct_nil (i u : Int) (w : World) : Calls Try.prog 14 #[.pointer none, .int .i64 i, .int .i64 u] w fun e w' => e = .returned (.int .i64 1) ∧ Below w.heap.size w w' := by
  go_enter Try.func14, Try.ntmps14
  go_wp2
  refine bodyPost_ret (v := .int .i64 1) (by simp [results, Try.f14, go_sem]) rfl ⟨rfl, ?_⟩
  exact ((Below.refl _ w).alloc (Nat.le_refl _) _)
set_option maxHeartbeats 400000 in
theorem correct_arg (p : Addr) (i u : Int) (w : World) (h : ¬ (-1000000000000 ≤ u ∧ u ≤ 1000000000000)) : Calls Try.prog 14 #[.pointer (some p), .int .i64 i, .int .i64 u] w fun e w' => e = .returned (.int .i64 1) ∧ Below w.heap.size w w' := by
  have H := Lib.hid (within_no u (-1000000000000) 1000000000000 (w.alloc (.cells #[.int .i64 0] 25)) (by omega))
  clear h
  go_enter Try.func14, Try.ntmps14
  go_wp2_with fail
  refine H.out.mono ?_
  rintro e w' ⟨rfl, rfl⟩
  go_wp2_with fail
  refine bodyPost_ret (v := .int .i64 1) (by simp [results, Try.f14, go_sem]) rfl ⟨rfl, ?_⟩
  exact ((Below.refl _ w).alloc (Nat.le_refl _) _)
set_option maxHeartbeats 400000 in
theorem correct_closed (b g cap : Nat) (r v : Int) (ms : List (Int × Int)) (i u : Int) (h1 : -1000000000000 ≤ u) (h2 : u ≤ 1000000000000) (w : World) (hA : Acc 58 55 w b g cap r v ms true) :
    Calls Try.prog 14 #[.pointer (some ⟨b, 0, none⟩), .int .i64 i, .int .i64 u] w fun e w' => e = .returned (.int .i64 29) ∧ Below w.heap.size w w' := by
  have H := Lib.hid (within_yes u (-1000000000000) 1000000000000 (w.alloc (.cells #[.int .i64 0] 25)) h1 h2)
  have H1 := Lib.hid (first1_any (w.heap.size + 1) b g cap r v ms true)
  have HE : Hid (errOpen true = 29) := rfl
  clear h1 h2
  go_enter Try.func14, Try.ntmps14
  go_wp2_with fail
  refine H.out.mono ?_
  rintro e w' ⟨rfl, rfl⟩
  go_wp2_with fail
  refine (H1.out _ (hA.below (((Below.refl _ w).alloc (Nat.le_refl _) _).alloc (by simp) _)) ?_).mono ?_
  · have := heap_alloc_new (w.alloc (.cells #[.int .i64 0] 25)) (.cells #[fOpen b] 60)
    simp only [World.size_alloc] at this
    rw [cell_of_row _ _ 0 _ _ _ this]; rfl
  rw [HE.out]
  rintro e w' ⟨rfl, rfl⟩
  go_wp2_with fail
  refine bodyPost_ret (v := .int .i64 29) (by simp [results, Try.f14, go_sem]) rfl ⟨rfl, ?_⟩
  exact (((Below.refl _ w).alloc (Nat.le_refl _) _).alloc (by simp) _)
set_option maxHeartbeats 400000 in
theorem correct_none (b g cap : Nat) (r v : Int) (ms : List (Int × Int)) (hm : ms.length ≤ 2000) (i u : Int) (h1 : -1000000000000 ≤ u) (h2 : u ≤ 1000000000000) (hi : ¬ (0 ≤ i ∧ i < (ms.length : Int))) (w : World) (hA : Acc 58 55 w b g cap r v ms false) :
    Calls Try.prog 14 #[.pointer (some ⟨b, 0, none⟩), .int .i64 i, .int .i64 u] w fun e w' => e = .returned (.int .i64 11) ∧ Below w.heap.size w w' := by
  have H := Lib.hid (within_yes u (-1000000000000) 1000000000000 (w.alloc (.cells #[.int .i64 0] 25)) h1 h2)
  have H1 := Lib.hid (first1_any (w.heap.size + 1) b g cap r v ms false)
  have HI := Lib.hid (within_no i 0 ((ms.length : Int) - 1) ((w.alloc (.cells #[.int .i64 0] 25)).alloc (.cells #[fOpen b] 60)) (by omega))
  have hA1 := hA.below (((Below.refl _ w).alloc (Nat.le_refl _) (.cells #[.int .i64 0] 25)).alloc (by simp) (.cells #[fOpen b] 60))
  have hc2 := hA1.c2
  clear h1 h2 hi
  go_enter Try.func14, Try.ntmps14
  go_wp2_with fail
  refine H.out.mono ?_
  rintro e w' ⟨rfl, rfl⟩
  go_wp2_with fail
  refine (H1.out _ (hA.below (((Below.refl _ w).alloc (Nat.le_refl _) _).alloc (by simp) _)) ?_).mono ?_
  · have := heap_alloc_new (w.alloc (.cells #[.int .i64 0] 25)) (.cells #[fOpen b] 60)
    simp only [World.size_alloc] at this
    rw [cell_of_row _ _ 0 _ _ _ this]; rfl
  rintro e w' ⟨rfl, rfl⟩
  go_wp2_with fail
  refine HI.out.mono ?_
  rintro e w' ⟨rfl, rfl⟩
  go_wp2_with fail
  refine bodyPost_ret (v := .int .i64 11) (by simp [results, Try.f14, go_sem]) rfl ⟨rfl, ?_⟩
  exact (((Below.refl _ w).alloc (Nat.le_refl _) _).alloc (by simp) _)

theorem did_same {b g cap : Nat} {r v : Int} {ms : List (Int × Int)} {cl : Bool} {E : Int} {w : World} (hA : Acc 58 55 w b g cap r v ms cl) {e : Ending} {w' : World} (he : e = .returned (.int .i64 E)) (hb : Below w.heap.size w w') : Did b g r v ms cl E w e w' :=
  ⟨he, g, cap, hA.below hb, Below.chg hb _, .inl rfl⟩

theorem correct_any (b g cap : Nat) (r v : Int) (ms : List (Int × Int)) (cl : Bool) (hgd : Good ms) (i u : Int) (w : World) (hA : Acc 58 55 w b g cap r v ms cl) :
    Calls Try.prog 14 #[.pointer (some ⟨b, 0, none⟩), .int .i64 i, .int .i64 u] w (Did b g r v (if corE cl ms i u = 0 then fixed ms i.toNat u else ms) cl (corE cl ms i u) w) := by
  by_cases hu : -1000000000000 ≤ u ∧ u ≤ 1000000000000
  · cases cl
    · by_cases hi : 0 ≤ i ∧ i < (ms.length : Int)
      · obtain ⟨k, rfl⟩ := Int.eq_ofNat_of_zero_le hi.1
        rw [Int.toNat_natCast]
        refine (correct_loop b g cap r v ms hgd k (by omega) u hu.1 hu.2 (hgd.fixedBnd k (by omega) u hu.1 hu.2) w hA).mono ?_
        rintro e w' (⟨ha, rfl, g', h1, h2, h3⟩ | ⟨ha, rfl, hb⟩)
        · have hE : corE false ms k u = 0 := by simp [corE, hu, hi.2, ha]
          rw [hE, if_pos rfl]
          exact ⟨rfl, g', _, h1, h2.mono (by simp), .inr h3⟩
        · have hE : corE false ms k u = 21 := by simp [corE, hu, hi.2, ha]
          rw [hE, if_neg (by decide)]
          exact did_same hA rfl hb
      · have hE : corE false ms i u = 11 := by simp only [corE]; rw [if_pos hu, if_neg (by decide), if_neg hi]
        rw [hE, if_neg (by decide)]
        exact (correct_none b g cap r v ms (by have := hgd.len2; omega) i u hu.1 hu.2 hi w hA).mono fun e w' h => did_same hA h.1 h.2
    · have hE : corE true ms i u = 29 := by simp [corE, hu]
      rw [hE, if_neg (by decide)]
      exact (correct_closed b g cap r v ms i u hu.1 hu.2 w hA).mono fun e w' h => did_same hA h.1 h.2
  · have hE : corE cl ms i u = 1 := by simp only [corE]; rw [if_neg hu]
    rw [hE, if_neg (by decide)]
    exact (correct_arg _ i u w hu).mono fun e w' h => did_same hA h.1 h.2

theorem receive_all (b g cap : Nat) (r v : Int) (ms : List (Int × Int)) (cl : Bool) (hgd : Good ms) (d u : Int) (w : World) (hA : Acc 58 55 w b g cap r v ms cl) :
    Calls Try.prog 22 #[.pointer (some ⟨b, 0, none⟩), .int .i64 d, .int .i64 u] w (Did b g r v (if recE cl ms d u = 0 then ms ++ [(d, u)] else ms) cl (recE cl ms d u) w) := by
  by_cases h : okDU d u
  · have hE : recE cl ms d u = errAdd cl true ms d u := by simp only [recE]; rw [if_pos h]
    rw [hE]
    exact receive_any b g cap r v ms cl hgd d u h w hA
  · have hE : recE cl ms d u = 1 := by simp only [recE]; rw [if_neg h]
    rw [hE, if_neg (by decide)]
    exact (receive_arg _ d u w h).mono fun e w' hh => did_same hA hh.1 (hh.2 ▸ Below.refl _ _)
theorem move_all (b g cap : Nat) (r v : Int) (ms : List (Int × Int)) (cl : Bool) (hgd : Good ms) (d u : Int) (lic : Bool) (w : World) (hA : Acc 58 55 w b g cap r v ms cl) :
    Calls Try.prog 23 #[.pointer (some ⟨b, 0, none⟩), .int .i64 d, .int .i64 u, .bool lic] w (Did b g r v (if movE cl lic ms d u = 0 then ms ++ [(d, -u)] else ms) cl (movE cl lic ms d u) w) := by
  by_cases h : okDU d u
  · have hE : movE cl lic ms d u = errAdd cl lic ms d (-u) := by simp only [movE]; rw [if_pos h]
    rw [hE]
    exact move_any b g cap r v ms cl hgd d u h lic w hA
  · have hE : movE cl lic ms d u = 1 := by simp only [movE]; rw [if_neg h]
    rw [hE, if_neg (by decide)]
    exact (move_arg _ d u lic w h).mono fun e w' hh => did_same hA hh.1 (hh.2 ▸ Below.refl _ _)

theorem did_lift {b g : Nat} {r v : Int} {ms' : List (Int × Int)} {cl : Bool} {E : Int} {w w1 : World} (hB : Below w.heap.size w w1) {e : Ending} {w' : World} (h : Did b g r v ms' cl E w1 e w') : Did b g r v ms' cl E w e w' := by
  obtain ⟨he, g', cap', h1, h2, h3⟩ := h
  refine ⟨he, g', cap', h1, (Below.chg hB _).trans h2 (fun x hx => .inl hx), ?_⟩
  rcases h3 with h | h
  · exact .inl h
  · exact .inr (Nat.le_trans hB.size h)

abbrev stp (k d u : Int) (lic : Bool) : Value := .agg #[.int .i64 k, .int .i64 d, .int .i64 u, .bool lic]

set_option maxHeartbeats 1000000 in
theorem do_any (b g cap : Nat) (r v : Int) (ms : List (Int × Int)) (cl : Bool) (hgd : Good ms) (k d u : Int) (lic : Bool) (w : World) (hA : Acc 58 55 w b g cap r v ms cl) :
    Calls Try.prog 11 #[.pointer (some ⟨b, 0, none⟩), stp k d u lic] w (Did b g r v (stepM cl ms k d u lic) cl (stepE cl ms k d u lic) w) := by
  have hB : Below w.heap.size w (w.alloc (.cells #[.int .i64 k, .int .i64 d, .int .i64 u, .bool lic] 30)) := (Below.refl _ w).alloc (Nat.le_refl _) _
  have hA1 := hA.below hB
  by_cases h0 : k = 0
  · subst h0
    have hM : Hid (stepM cl ms 0 d u lic = if recE cl ms d u = 0 then ms ++ [(d, u)] else ms) := by simp [Hid, stepM, stepE]
    have hE : Hid (stepE cl ms 0 d u lic = recE cl ms d u) := by simp [Hid, stepE]
    have H := Lib.hid (receive_all b g cap r v ms cl hgd d u _ hA1)
    clear hgd
    go_enter Try.func11, Try.ntmps11
    go_wp2_with fail
    refine H.out.mono ?_
    rintro e w' hd
    obtain ⟨he, hr⟩ := did_lift hB hd
    subst he
    clear hd
    go_wp2_with fail
    go_ret
    exact ⟨ret_int hE.out.symm, by rw [hM.out]; exact hr⟩
  · by_cases h1 : k = 1
    · subst h1
      have hM : Hid (stepM cl ms 1 d u lic = if movE cl lic ms d u = 0 then ms ++ [(d, -u)] else ms) := by simp [Hid, stepM, stepE]
      have hE : Hid (stepE cl ms 1 d u lic = movE cl lic ms d u) := by simp [Hid, stepE]
      have H := Lib.hid (move_all b g cap r v ms cl hgd d u lic _ hA1)
      clear hgd h0
      go_enter Try.func11, Try.ntmps11
      go_wp2_with fail
      refine H.out.mono ?_
      rintro e w' hd
      obtain ⟨he, hr⟩ := did_lift hB hd
      subst he
      clear hd
      go_wp2_with fail
      go_ret
      exact ⟨ret_int hE.out.symm, by rw [hM.out]; exact hr⟩
    · have hM : Hid (stepM cl ms k d u lic = if corE cl ms d u = 0 then fixed ms d.toNat u else ms) := by simp [Hid, stepM, stepE, h0, h1]
      have hE : Hid (stepE cl ms k d u lic = corE cl ms d u) := by simp [Hid, stepE, h0, h1]
      have H := Lib.hid (correct_any b g cap r v ms cl hgd d u _ hA1)
      have k0 : (k == 0) = false := by simp [h0]
      have k1 : (k == 1) = false := by simp [h1]
      clear hgd h0 h1
      go_enter Try.func11, Try.ntmps11
      go_wp2_with fail
      refine H.out.mono ?_
      rintro e w' hd
      obtain ⟨he, hr⟩ := did_lift hB hd
      subst he
      clear hd
      go_wp2_with fail
      go_ret
      exact ⟨ret_int hE.out.symm, by rw [hM.out]; exact hr⟩
set_option maxHeartbeats 400000 in
theorem earns_any (b g cap : Nat) (r v : Int) (ms : List (Int × Int)) (hgd : Good ms) (hr1 : 0 ≤ r) (hr2 : r ≤ 10000) (hv1 : 0 ≤ v) (hv2 : v ≤ 10000) (day : Int) (vo : Bool) (want : Int) (hd1 : 0 ≤ day) (hd2 : day ≤ 100000) (hE : errTwo false ms day = 0)
    (hw : interestOf (if vo then v else r) (total ms day) = want) (w : World) (hA : Acc 58 55 w b g cap r v ms false) :
    Calls Try.prog 25 #[.pointer (some ⟨b, 0, none⟩), .int .i64 day, .bool vo, .int .i64 want] w fun e w' => e = .returned (.bool true) ∧ Below w.heap.size w w' := by
  have H := interest_ok b g cap r v ms false hgd hr1 hr2 hv1 hv2 day vo hd1 hd2 w hA hE
  rw [hw] at H
  have hb : (want == want) = true := by simp
  clear hgd hr1 hr2 hv1 hv2 hd1 hd2 hE hw
  go_enter Try.func25, Try.ntmps25
  go_wp2_with fail
  refine H.mono ?_
  rintro e w' ⟨rfl, hb⟩
  go_wp2_with fail
  go_ret
  exact ⟨rfl, hb⟩

set_option maxHeartbeats 400000 in
theorem opened_any (w : World) : Calls Try.prog 24 #[] w fun e w' => e = .returned (.pointer (some ⟨w.heap.size + 1, 0, none⟩)) ∧ Acc 58 55 w' (w.heap.size + 1) w.heap.size 1 365 730 [(10, 1000000)] false ∧ Below w.heap.size w w' := by
  have H := new_ok 365 730 10 1000000 w (by decide) (by decide) (by decide) (by decide) (by decide) (by decide) (by decide) (by decide)
  go_enter Try.func24, Try.ntmps24
  go_wp2_with fail
  refine H.mono ?_
  rintro e w' ⟨rfl, hr⟩
  go_wp2_with fail
  go_ret
  exact ⟨rfl, hr⟩

theorem good1 : Good [(10, 1000000)] := ⟨by decide, by decide, by decide, fun k hk => by simp at hk, by decide⟩
theorem good2 : Good [(10, 1000000), (15, 500000)] := ⟨by decide, by decide, by decide, fun k hk => (by have e : k = 0 := (by simp at hk; omega); subst e; decide), by decide⟩
theorem good3 : Good [(10, 0), (15, 500000)] := ⟨by decide, by decide, by decide, fun k hk => (by have e : k = 0 := (by simp at hk; omega); subst e; decide), by decide⟩
end Go.Proofs.Ytodnnfdglkidgaa
