/- The law on each day: its walk. -/
import Derived.Test.YtodnnfdglkidgaaM
import Derived.Test.YtodnnfdglkidgaaOpn
set_option linter.unusedVariables false
namespace Go.Proofs.Ytodnnfdglkidgaa.frozenDays
open Go.RowKit Go.Shelf

theorem decide_yes {p : Prop} [Decidable p] (h : p) : decide p = true := by simp [h]

set_option maxHeartbeats 2000000 in
theorem walk (r : Int) (_ : (Lit.int .i64 r).wf = true) (v : Int) (_ : (Lit.int .i64 v).wf = true) (d : Int) (_ : (Lit.int .i64 d).wf = true) (u : Int) (_ : (Lit.int .i64 u).wf = true) (w : World) (sv : Value) (l : List (Int × Int × Int × Bool)) (hl : IsSteps w sv l)
    (tt : Int) (_ : (Lit.int .i64 tt).wf = true) (f : Bool) :
    Calls Try.prog 3 #[.int .i64 r, .int .i64 v, .int .i64 d, .int .i64 u, sv, .int .i64 tt, .bool f] w fun e w' => e = .returned (.bool true) ∧ Below w.heap.size w w' := by
  obtain ⟨ao, cap, rfl, hmax, hst⟩ := hl
  unfold maxLen at hmax
  have Hst := Lib.hid hst
  clear hst
  rcases Classical.em (okNew r v d u) with h1 | h1
  · have H1 := Lib.hid h1
    clear h1
    by_cases hlen : l.length ≤ 12
    · by_cases ht0 : 0 ≤ tt
      · by_cases ht1 : tt < 100000
        · have hr := H1.out.rates
          have hp := hr.pick f
          have R := Lib.hid hr
          clear hr
          go_enter Try.func3, Try.ntmps3
          go_wp2_with fail
          refine (head_any w).mono ?_
          rintro e w1 ⟨rfl, hB1⟩
          go_wp2_with fail
          refine (new_yes _ _ _ _ H1.out _).mono ?_
          rintro e w2 ⟨rfl, hA2, hb2⟩
          have hB2 := hB1.trans (hb2.mono hB1.size)
          have hb : w.heap.size ≤ w1.heap.size + 1 := by have := hB1.size; omega
          have hg0 : w.heap.size ≤ w1.heap.size := hB1.size
          generalize w1.heap.size + 1 = b at *
          have hS : ∃ ms g' cap', Good ms ∧ Acc 58 55 w2 b g' cap' r v ms false ∧ w.heap.size ≤ g' := ⟨_, _, _, H1.out.good, hA2, hg0⟩
          clear hA2 hb2 hB1 hg0
          go_wp2_with fail
          go_loopw [18] (fun i wr => ∃ k : Nat, k ≤ l.length ∧ i = .int .i64 k ∧ (∃ ms g' cap', Good ms ∧ Acc 58 55 wr b g' cap' r v ms false ∧ w.heap.size ≤ g') ∧ Below w.heap.size w wr) (fun i _ => l.length - (intOf i).toNat)
          case atStart => exact ⟨0, Nat.zero_le _, rfl, hS, hB2⟩
          case round =>
            obtain ⟨k, hk, rfl, ⟨ms, g', cap', hgd, hA, hg'⟩, hB⟩ := hrel
            have HG := Lib.hid hgd
            clear hgd hS hB2
            by_cases hlt : k < l.length
            · obtain ⟨bb, o, rfl, hbb, c0, c1, c2, c3⟩ := Hst.out k hlt
              rw [← hB.cell (p := ⟨bb, o + k * 4, none⟩) hbb] at c0
              rw [← hB.cell (p := ⟨bb, o + k * 4 + 1, none⟩) hbb] at c1
              rw [← hB.cell (p := ⟨bb, o + k * 4 + 2, none⟩) hbb] at c2
              rw [← hB.cell (p := ⟨bb, o + k * 4 + 3, none⟩) hbb] at c3
              clear Hst
              generalize l.getD k default = q at *
              obtain ⟨q0, q1, q2, q3⟩ := q
              dsimp only at c0 c1 c2 c3
              go_wp2_with fail
              refine (do_any b g' cap' r v ms false HG.out q0 q1 q2 q3 _ hA).mono ?_
              rintro e w3 ⟨rfl, g2, cap2, hA2, hC2, hg2⟩
              have hB3 : Below w.heap.size w w3 := Below.chg' hB hC2 (by simp; omega)
              have hg3 : w.heap.size ≤ g2 := by have := hB.size; omega
              clear hA c0 c1 c2 c3
              go_wp2_with fail
              go_roundw
              case rel => exact ⟨k + 1, by omega, by simp, ⟨_, g2, cap2, HG.out.step _ _ _ _ _, hA2, hg3⟩, hB3⟩
              case measure => simp [intOf]; omega
            · obtain rfl : k = l.length := by omega
              go_wp2_with fail
              refine (interest_all _ _ _ _ _ _ _ HG.out R.out tt f _ hA).mono ?_
              rintro e w3 ⟨rfl, hb3⟩
              have hB3 := hB.trans (hb3.mono hB.size)
              have hA3 := hA.below hb3
              go_wp2_with fail
              refine (interest_all _ _ _ _ _ _ _ HG.out R.out (tt + 1) f _ hA3).mono ?_
              rintro e w4 ⟨rfl, hb4⟩
              have hB4 := hB3.trans (hb4.mono hB3.size)
              have hA4 := hA3.below hb4
              by_cases hE : intE false ms tt = 0
              · have N := Lib.hid (nextDay HG.out (rateOf f r v) hp.1 hp.2 tt ht1 hE)
                have e1 : (intE false ms tt != 0) = false := by simp [hE]
                have hbal := HG.out.bal ms.length (Nat.le_refl _)
                have hz := intZ_range HG.out (rateOf f r v) hp.1 hp.2 false tt
                have hz2 := intZ_range HG.out (rateOf f r v) hp.1 hp.2 false (tt + 1)
                have hpr := prod_bd (rateOf f r v) (balTo ms ms.length) 10000 hp.1 hp.2 hbal.1
                rw [Int.mul_comm (rateOf f r v)] at hpr
                obtain ⟨n1, n2, n3, n4⟩ := N.out
                have e2 : (intE false ms (tt + 1) == 0) = true := by simp [n1]
                have hBal := Lib.hid (balance_any _ _ _ _ _ _ _ HG.out _ hA4)
                have hbo : Hid (balOf false ms = balTo ms ms.length) := rfl
                clear n1 N hE hA hA3
                generalize intZ (rateOf f r v) false ms tt = m at *
                generalize intZ (rateOf f r v) false ms (tt + 1) = n at *
                obtain ⟨hp1, hp2⟩ := hp
                obtain ⟨hbl1, hbl2⟩ := hbal
                obtain ⟨hz1, hz2'⟩ := hz
                obtain ⟨hz3, hz4⟩ := hz2
                obtain ⟨hq1, hq2⟩ := hpr
                cases f
                · have hrt : rateOf false r v = r := rfl
                  rw [hrt] at n3 n4 hq1 hq2
                  clear hrt
                  have hq3 : balTo ms ms.length * r ≤ 10000000000000000 := by omega
                  go_wp2_with fail
                  refine hBal.out.mono ?_
                  rw [hbo.out]
                  rintro e w5 ⟨rfl, hb5⟩
                  have hB5 := hB4.trans (hb5.mono hB4.size)
                  go_wp2_with fail
                  go_ret
                  exact ⟨rfl, hB5⟩
                · have hrt : rateOf true r v = v := rfl
                  rw [hrt] at n3 n4 hq1 hq2
                  clear hrt
                  have hq3 : balTo ms ms.length * v ≤ 10000000000000000 := by omega
                  go_wp2_with fail
                  refine hBal.out.mono ?_
                  rw [hbo.out]
                  rintro e w5 ⟨rfl, hb5⟩
                  have hB5 := hB4.trans (hb5.mono hB4.size)
                  go_wp2_with fail
                  go_ret
                  exact ⟨rfl, hB5⟩
              · have e1 : (intE false ms tt != 0) = true := by simp [hE]
                have hZ : intZ (rateOf f r v) false ms tt = 0 := by unfold intZ; rw [if_neg hE]
                have e2 : (intZ (rateOf f r v) false ms tt == 0) = true := by rw [hZ]; rfl
                clear hE hZ
                go_wp2_with fail
                go_ret
                exact ⟨rfl, hB4⟩
        · go_enter Try.func3, Try.ntmps3
          go_wp2_with fail
          refine (head_any w).mono ?_
          rintro e w1 ⟨rfl, hB1⟩
          go_wp2_with fail
          refine (new_yes _ _ _ _ H1.out _).mono ?_
          rintro e w2 ⟨rfl, hA2, hb2⟩
          have hB2 := hB1.trans (hb2.mono hB1.size)
          go_wp2_with fail
          go_ret
          exact ⟨rfl, hB2⟩
      · go_enter Try.func3, Try.ntmps3
        go_wp2_with fail
        refine (head_any w).mono ?_
        rintro e w1 ⟨rfl, hB1⟩
        go_wp2_with fail
        refine (new_yes _ _ _ _ H1.out _).mono ?_
        rintro e w2 ⟨rfl, hA2, hb2⟩
        have hB2 := hB1.trans (hb2.mono hB1.size)
        go_wp2_with fail
        go_ret
        exact ⟨rfl, hB2⟩
    · go_enter Try.func3, Try.ntmps3
      go_wp2_with fail
      refine (head_any w).mono ?_
      rintro e w1 ⟨rfl, hB1⟩
      go_wp2_with fail
      refine (new_yes _ _ _ _ H1.out _).mono ?_
      rintro e w2 ⟨rfl, hA2, hb2⟩
      have hB2 := hB1.trans (hb2.mono hB1.size)
      go_wp2_with fail
      go_ret
      exact ⟨rfl, hB2⟩
  · go_enter Try.func3, Try.ntmps3
    go_wp2_with fail
    refine (head_any w).mono ?_
    rintro e w1 ⟨rfl, hB1⟩
    go_wp2_with fail
    refine (new_no _ _ _ _ _ h1).mono ?_
    rintro e w' ⟨rfl, rfl⟩
    go_wp2_with fail
    go_ret
    exact ⟨rfl, hB1⟩
end Go.Proofs.Ytodnnfdglkidgaa.frozenDays
