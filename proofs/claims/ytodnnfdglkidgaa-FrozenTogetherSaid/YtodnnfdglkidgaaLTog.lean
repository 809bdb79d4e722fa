/- The law on two accounts and their sum: its walk. -/
import Derived.Test.YtodnnfdglkidgaaM
set_option linter.unusedVariables false
namespace Go.Proofs.Ytodnnfdglkidgaa.frozenTogether
open Go.RowKit Go.Shelf

set_option maxHeartbeats 1000000 in
theorem walk (r : Int) (_ : (Lit.int .i64 r).wf = true) (v : Int) (_ : (Lit.int .i64 v).wf = true) (d : Int) (_ : (Lit.int .i64 d).wf = true) (x : Int) (_ : (Lit.int .i64 x).wf = true) (y : Int) (_ : (Lit.int .i64 y).wf = true) (tt : Int) (_ : (Lit.int .i64 tt).wf = true) (f : Bool) (w : World) :
    Calls Try.prog 5 #[.int .i64 r, .int .i64 v, .int .i64 d, .int .i64 x, .int .i64 y, .int .i64 tt, .bool f] w fun e w' => e = .returned (.bool true) ∧ Below w.heap.size w w' := by
  have hy : ∀ z, okNew r v d z ∨ ¬ okNew r v d z := fun z => Classical.em _
  have Hy := Lib.hid hy
  clear hy
  rcases Hy.out x with h1 | h1
  · have H1 := Lib.hid h1
    clear h1
    rcases Hy.out y with h2 | h2
    · have H2 := Lib.hid h2
      clear h2
      have hxy : wrap64 (x + y) = x + y := IntWalk.wrap64_in _ (by have := H1.out; have := H2.out; unfold okNew at *; omega)
      rcases Hy.out (x + y) with h3 | h3
      · have H3 := Lib.hid h3
        have T := Lib.hid (together (rateOf f r v) d x y tt)
        have hr := H1.out.rates
        have R := Lib.hid hr
        have bz : ∀ {z}, okNew r v d z → 0 ≤ intZ (rateOf f r v) false [(d, z)] tt ∧ intZ (rateOf f r v) false [(d, z)] tt ≤ 300000000000000 := fun h => intZ_range h.good _ (hr.pick f).1 (hr.pick f).2 false tt
        obtain ⟨x1, x2⟩ := bz H1.out
        obtain ⟨y1, y2⟩ := bz H2.out
        obtain ⟨z1, z2⟩ := bz H3.out
        clear h3 hr bz
        go_enter Try.func5, Try.ntmps5
        go_wp2_with fail
        refine (head_any w).mono ?_
        rintro e w1 ⟨rfl, hB1⟩
        go_wp2_with fail
        refine (new_yes _ _ _ _ H1.out _).mono ?_
        rintro e w2 ⟨rfl, hA2, hb2⟩
        have hB2 := hB1.trans (hb2.mono hB1.size)
        go_wp2_with fail
        refine (new_yes _ _ _ _ H2.out _).mono ?_
        rintro e w3 ⟨rfl, hA3, hb3⟩
        have hB3 := hB2.trans (hb3.mono hB2.size)
        have hA23 := hA2.below hb3
        go_wp2_with fail
        refine (new_yes _ _ _ _ H3.out _).mono ?_
        rintro e w4 ⟨rfl, hA4, hb4⟩
        have hB4 := hB3.trans (hb4.mono hB3.size)
        have hA24 := hA23.below hb4
        have hA34 := hA3.below hb4
        clear hA2 hA3 hA23
        go_wp2_with fail
        refine (interest_all _ _ _ _ _ _ _ H1.out.good R.out tt f _ hA24).mono ?_
        rintro e w5 ⟨rfl, hb5⟩
        have hB5 := hB4.trans (hb5.mono hB4.size)
        have hA35 := hA34.below hb5
        have hA45 := hA4.below hb5
        go_wp2_with fail
        refine (interest_all _ _ _ _ _ _ _ H2.out.good R.out tt f _ hA35).mono ?_
        rintro e w6 ⟨rfl, hb6⟩
        have hB6 := hB5.trans (hb6.mono hB5.size)
        have hA46 := hA45.below hb6
        go_wp2_with fail
        refine (interest_all _ _ _ _ _ _ _ H3.out.good R.out tt f _ hA46).mono ?_
        rintro e w7 ⟨rfl, hb7⟩
        have hB7 := hB6.trans (hb7.mono hB6.size)
        obtain ⟨t1, t2, t3, t4⟩ := T.out
        have e1 : (intE false [(d, x)] tt == intE false [(d, y)] tt) = true := by simp [t1]
        have e2 : (intE false [(d, y)] tt == intE false [(d, x + y)] tt) = true := by simp [t2]
        clear t1 t2
        generalize intZ (rateOf f r v) false [(d, x)] tt = m at *
        generalize intZ (rateOf f r v) false [(d, y)] tt = n at *
        generalize intZ (rateOf f r v) false [(d, x + y)] tt = p at *
        go_wp2_with fail
        go_ret
        exact ⟨rfl, hB7⟩
      · go_enter Try.func5, Try.ntmps5
        go_wp2_with fail
        refine (head_any w).mono ?_
        rintro e w1 ⟨rfl, hB1⟩
        go_wp2_with fail
        refine (new_yes _ _ _ _ H1.out _).mono ?_
        rintro e w2 ⟨rfl, _, hb2⟩
        have hB2 := hB1.trans (hb2.mono hB1.size)
        go_wp2_with fail
        refine (new_yes _ _ _ _ H2.out _).mono ?_
        rintro e w3 ⟨rfl, _, hb3⟩
        have hB3 := hB2.trans (hb3.mono hB2.size)
        go_wp2_with fail
        refine (new_no _ _ _ _ _ h3).mono ?_
        rintro e w' ⟨rfl, rfl⟩
        go_wp2_with fail
        go_ret
        exact ⟨rfl, hB3⟩
    · go_enter Try.func5, Try.ntmps5
      go_wp2_with fail
      refine (head_any w).mono ?_
      rintro e w1 ⟨rfl, hB1⟩
      go_wp2_with fail
      refine (new_yes _ _ _ _ H1.out _).mono ?_
      rintro e w2 ⟨rfl, _, hb2⟩
      have hB2 := hB1.trans (hb2.mono hB1.size)
      go_wp2_with fail
      refine (new_no _ _ _ _ _ h2).mono ?_
      rintro e w' ⟨rfl, rfl⟩
      go_wp2_with fail
      refine (new_gen _ _ _ _ _).mono ?_
      rintro e w3 ⟨p, E, rfl, hb3⟩
      have hB3 := hB2.trans (hb3.mono hB2.size)
      go_wp2_with fail
      go_ret
      exact ⟨rfl, hB3⟩
  · go_enter Try.func5, Try.ntmps5
    go_wp2_with fail
    refine (head_any w).mono ?_
    rintro e w1 ⟨rfl, hB1⟩
    go_wp2_with fail
    refine (new_no _ _ _ _ _ h1).mono ?_
    rintro e w' ⟨rfl, rfl⟩
    go_wp2_with fail
    refine (new_gen _ _ _ _ _).mono ?_
    rintro e w2 ⟨p, E, rfl, hb2⟩
    have hB2 := hB1.trans (hb2.mono hB1.size)
    go_wp2_with fail
    refine (new_gen _ _ _ _ _).mono ?_
    rintro e w3 ⟨p3, E3, rfl, hb3⟩
    have hB3 := hB2.trans (hb3.mono hB2.size)
    go_wp2_with fail
    go_ret
    exact ⟨rfl, hB3⟩
end Go.Proofs.Ytodnnfdglkidgaa.frozenTogether
