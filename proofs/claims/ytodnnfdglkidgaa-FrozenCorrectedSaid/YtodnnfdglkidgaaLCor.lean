/- The law on corrections: its walk. -/
import Derived.Test.YtodnnfdglkidgaaM
import Derived.Test.YtodnnfdglkidgaaOpn
set_option linter.unusedVariables false
namespace Go.Proofs.Ytodnnfdglkidgaa.frozenCorrected
open Go.RowKit Go.Shelf

/-- Both accounts, apart from each other, and nothing old has turned. -/
structure Two (w0 w : World) (ba bb : Nat) (r v : Int) (msa msb : List (Int × Int)) : Prop where
  two : ∃ ga ca gb cb, Acc 58 55 w ba ga ca r v msa false ∧ Acc 58 55 w bb gb cb r v msb false ∧ ga ≠ gb ∧ ga ≠ bb ∧ gb ≠ ba ∧ w0.heap.size ≤ ga ∧ w0.heap.size ≤ gb
  ne : ba ≠ bb
  a0 : w0.heap.size ≤ ba
  b0 : w0.heap.size ≤ bb
  bel : Below w0.heap.size w0 w

theorem Two.later {w0 w w' : World} {ba bb : Nat} {r v : Int} {msa msb : List (Int × Int)} (h : Two w0 w ba bb r v msa msb) (hb : Below w.heap.size w w') : Two w0 w' ba bb r v msa msb := by
  obtain ⟨⟨ga, ca, gb, cb, h1, h2, h3⟩, h4, h5, h6, h7⟩ := h
  exact ⟨⟨ga, ca, gb, cb, h1.below hb, h2.below hb, h3⟩, h4, h5, h6, h7.trans (hb.mono h7.size)⟩

/-- A step on the first account. -/
theorem Two.doA {w0 w : World} {ba bb : Nat} {r v : Int} {msa msb : List (Int × Int)} (h : Two w0 w ba bb r v msa msb) (hgd : Good msa) (k d u : Int) (lic : Bool) (xb : Nat) (hx : xb < w.heap.size) (hx0 : xb ≠ ba) (hx1 : ∀ ga ca, Acc 58 55 w ba ga ca r v msa false → xb ≠ ga) :
    Calls Try.prog 11 #[.pointer (some ⟨ba, 0, none⟩), stp k d u lic] w fun e w' => e = .returned (.int .i64 (stepE false msa k d u lic)) ∧ w'.heap[xb]? = w.heap[xb]? ∧ Two w0 w' ba bb r v (stepM false msa k d u lic) msb := by
  obtain ⟨⟨ga, ca, gb, cb, h1, h2, h3, h3a, h3b, h3c, h3d⟩, h4, h5, h6, h7⟩ := h
  refine (do_any ba ga ca r v msa false hgd k d u lic w h1).mono ?_
  rintro e w' ⟨rfl, g', c', hA, hC, hg⟩
  refine ⟨rfl, hC.block xb hx (by have := hx1 ga ca h1; simp; omega), ⟨g', c', gb, cb, hA, h2.chg hC (by simp; omega) (by simp; omega), ?_, ?_, h3b, ?_, h3d⟩, h4, h5, h6, ?_⟩
  · have := h2.glt; omega
  · have := h2.blt; omega
  · have := h7.size; omega
  · exact Below.chg' h7 hC (by simp; omega)
theorem Two.doB {w0 w : World} {ba bb : Nat} {r v : Int} {msa msb : List (Int × Int)} (h : Two w0 w ba bb r v msa msb) (hgd : Good msb) (k d u : Int) (lic : Bool) :
    Calls Try.prog 11 #[.pointer (some ⟨bb, 0, none⟩), stp k d u lic] w fun e w' => e = .returned (.int .i64 (stepE false msb k d u lic)) ∧ Two w0 w' ba bb r v msa (stepM false msb k d u lic) := by
  obtain ⟨⟨ga, ca, gb, cb, h1, h2, h3, h3a, h3b, h3c, h3d⟩, h4, h5, h6, h7⟩ := h
  refine (do_any bb gb cb r v msb false hgd k d u lic w h2).mono ?_
  rintro e w' ⟨rfl, g', c', hA, hC, hg⟩
  refine ⟨rfl, ⟨ga, ca, g', c', h1.chg hC (by simp; omega) (by simp; omega), hA, ?_, h3a, ?_, h3c, ?_⟩, h4, h5, h6, ?_⟩
  · have := h1.glt; omega
  · have := h1.blt; omega
  · have := h7.size; omega
  · exact Below.chg' h7 hC (by simp; omega)

/-- What the first account holds after the correction is what the second one holds. -/
theorem cor_zero {d u o : Int} {rest : List (Int × Int)} (h : Good ((d, o) :: rest)) (h1 : 0 ≤ o) (h2 : o ≤ 1000000000000) : corE false ((d, u) :: rest) 0 o = 0 ∧ fixed ((d, u) :: rest) (Int.toNat 0) o = (d, o) :: rest := by
  have hf : fixed ((d, u) :: rest) (Int.toNat 0) o = (d, o) :: rest := by simp [fixed, dayAt]
  have ha : allIn (fixed ((d, u) :: rest) (Int.toNat 0) o) := by
    rw [hf, allIn_iff]
    exact fun k _ hk => h.bal k hk
  refine ⟨?_, hf⟩
  unfold corE
  rw [if_pos ⟨by omega, h2⟩, if_neg (by decide), if_pos ⟨by decide, by simp⟩, if_pos ha]
theorem step_rest {d u o : Int} {rest : List (Int × Int)} {k d' u' : Int} {lic : Bool} (hk : k = 0 ∨ k = 1) (hE : stepE false ((d, u) :: rest) k d' u' lic = stepE false ((d, o) :: rest) k d' u' lic) :
    ∃ rest', stepM false ((d, u) :: rest) k d' u' lic = (d, u) :: rest' ∧ stepM false ((d, o) :: rest) k d' u' lic = (d, o) :: rest' := by
  unfold stepM
  rw [hE]
  by_cases h : stepE false ((d, o) :: rest) k d' u' lic = 0
  · rw [if_pos h, if_pos h]
    rcases hk with rfl | rfl
    · exact ⟨rest ++ [(d', u')], rfl, rfl⟩
    · exact ⟨rest ++ [(d', -u')], rfl, rfl⟩
  · rw [if_neg h, if_neg h]
    exact ⟨rest, rfl, rfl⟩

set_option maxHeartbeats 4000000 in
theorem walk (r : Int) (_ : (Lit.int .i64 r).wf = true) (v : Int) (_ : (Lit.int .i64 v).wf = true) (d : Int) (_ : (Lit.int .i64 d).wf = true) (u : Int) (_ : (Lit.int .i64 u).wf = true) (ot : Int) (_ : (Lit.int .i64 ot).wf = true) (w : World) (sv : Value) (l : List (Int × Int × Int × Bool)) (hl : IsSteps w sv l)
    (tt : Int) (_ : (Lit.int .i64 tt).wf = true) (f : Bool) :
    Calls Try.prog 4 #[.int .i64 r, .int .i64 v, .int .i64 d, .int .i64 u, .int .i64 ot, sv, .int .i64 tt, .bool f] w fun e w' => e = .returned (.bool true) ∧ Below w.heap.size w w' := by
  obtain ⟨ao, cap, rfl, hmax, hst⟩ := hl
  unfold maxLen at hmax
  have Hst := Lib.hid hst
  clear hst
  rcases Classical.em (okNew r v d u) with h1 | h1
  · have H1 := Lib.hid h1
    clear h1
    rcases Classical.em (okNew r v d ot) with h2 | h2
    · have H2 := Lib.hid h2
      clear h2
      by_cases hlen : l.length ≤ 12
      · have R := Lib.hid H1.out.rates
        go_enter Try.func4, Try.ntmps4
        go_wp2_with fail
        refine (head_any w).mono ?_
        rintro e w1 ⟨rfl, hB1⟩
        go_wp2_with fail
        refine (new_yes _ _ _ _ H1.out _).mono ?_
        rintro e w2 ⟨rfl, hA2, hb2⟩
        have hB2 := hB1.trans (hb2.mono hB1.size)
        have hs2 := hA2.blt
        go_wp2_with fail
        refine (new_yes _ _ _ _ H2.out _).mono ?_
        rintro e w3 ⟨rfl, hA3, hb3⟩
        have hB3 := hB2.trans (hb3.mono hB2.size)
        have hT0 : Two w w3 (w1.heap.size + 1) (w2.heap.size + 1) r v [(d, u)] [(d, ot)] :=
          ⟨⟨_, _, _, _, hA2.below hb3, hA3, by omega, by omega, by omega, hB1.size, hB2.size⟩, by omega, by have := hB1.size; omega, by have := hB2.size; omega, hB3⟩
        have hlt3 := hA3.blt
        clear hA2 hA3 hb2 hb3 hB1 hB2 hB3
        generalize w1.heap.size + 1 = ba at *
        generalize w2.heap.size + 1 = bb at *
        go_wp2_with fail
        go_loopw [22] (fun i wr => ∃ k : Nat, k ≤ l.length ∧ i = .int .i64 k ∧ ∃ rest, Good ((d, u) :: rest) ∧ Good ((d, ot) :: rest) ∧ Two w wr ba bb r v ((d, u) :: rest) ((d, ot) :: rest)) (fun i _ => l.length - (intOf i).toNat)
        case atStart => exact ⟨0, Nat.zero_le _, rfl, [], H1.out.good, H2.out.good, hT0⟩
        case round =>
          obtain ⟨k, hk, rfl, rest, hg1, hg2, hT⟩ := hrel
          have G1 := Lib.hid hg1
          have G2 := Lib.hid hg2
          clear hg1 hg2 hT0 hlt3
          by_cases hlt : k < l.length
          · obtain ⟨bk, o, rfl, hbb, c0, c1, c2, c3⟩ := Hst.out k hlt
            rw [← hT.bel.cell (p := ⟨bk, o + k * 4, none⟩) hbb] at c0
            rw [← hT.bel.cell (p := ⟨bk, o + k * 4 + 1, none⟩) hbb] at c1
            rw [← hT.bel.cell (p := ⟨bk, o + k * 4 + 2, none⟩) hbb] at c2
            rw [← hT.bel.cell (p := ⟨bk, o + k * 4 + 3, none⟩) hbb] at c3
            clear Hst
            generalize l.getD k default = q at *
            obtain ⟨q0, q1, q2, q3⟩ := q
            dsimp only at c0 c1 c2 c3
            have main : ∀ (kk : Int), (kk = 0 ∨ kk = 1) → Hid (∀ x : Nat, x = wr.heap.size → ∀ W, W = (wr.alloc (.cells #[.int .i64 kk, .int .i64 q1, .int .i64 q2, .bool q3] 30)).drew →
                Calls Try.prog 11 #[.pointer (some ⟨ba, 0, none⟩), stp kk q1 q2 q3] W fun e w' => e = .returned (.int .i64 (stepE false ((d, u) :: rest) kk q1 q2 q3)) ∧
                  (w'.cell? ⟨x, 0, none⟩ = some (.int .i64 kk) ∧ w'.cell? ⟨x, 1, none⟩ = some (.int .i64 q1) ∧ w'.cell? ⟨x, 2, none⟩ = some (.int .i64 q2) ∧ w'.cell? ⟨x, 3, none⟩ = some (.bool q3)) ∧
                  Two w w' ba bb r v (stepM false ((d, u) :: rest) kk q1 q2 q3) ((d, ot) :: rest)) := by
              rintro kk hkk x rfl W rfl
              have hTW : Two w (wr.alloc (.cells #[.int .i64 kk, .int .i64 q1, .int .i64 q2, .bool q3] 30)).drew ba bb r v ((d, u) :: rest) ((d, ot) :: rest) := hT.later (((Below.refl _ wr).alloc (Nat.le_refl _) _).drew)
              obtain ⟨⟨ga, ca, gb, cb, z1, z2, _⟩, _⟩ := hT
              have hnew : (wr.alloc (.cells #[.int .i64 kk, .int .i64 q1, .int .i64 q2, .bool q3] 30)).drew.heap[wr.heap.size]? = some (.cells #[.int .i64 kk, .int .i64 q1, .int .i64 q2, .bool q3] 30 (0, 0)) := heap_alloc_new wr _
              refine (hTW.doA G1.out kk q1 q2 q3 wr.heap.size (by simp [World.drew]) (by have := z1.blt; omega) ?_).mono ?_
              · intro g' c' hA'
                have e1 := hA'.c2
                have e2 := (z1.below (((Below.refl _ wr).alloc (Nat.le_refl _) (.cells #[.int .i64 kk, .int .i64 q1, .int .i64 q2, .bool q3] 30)).drew)).c2
                rw [e1] at e2
                simp at e2
                have := z1.glt; omega
              · rintro e w' ⟨rfl, hsame, hT'⟩
                rw [hnew] at hsame
                refine ⟨rfl, ⟨?_, ?_, ?_, ?_⟩, hT'⟩ <;> (rw [cell_of_row _ _ _ _ _ _ hsame]; rfl)
            have H2' : Hid (∀ kk w1, Two w w1 ba bb r v (stepM false ((d, u) :: rest) kk q1 q2 q3) ((d, ot) :: rest) → Calls Try.prog 11 #[.pointer (some ⟨bb, 0, none⟩), stp kk q1 q2 q3] w1 fun e w' =>
                e = .returned (.int .i64 (stepE false ((d, ot) :: rest) kk q1 q2 q3)) ∧ Two w w' ba bb r v (stepM false ((d, u) :: rest) kk q1 q2 q3) (stepM false ((d, ot) :: rest) kk q1 q2 q3)) :=
              fun kk w1 h => h.doB G2.out kk q1 q2 q3
            have hTb := hT.bel
            by_cases hq : q0 = 0
            · subst hq
              have M1 := main 0 (.inl rfl)
              clear main
              go_upto_region 12 with fail
              go_cut [78] from 72 to 79 (fun s w2 => s = .bool (stepE false ((d, u) :: rest) 0 q1 q2 q3 != stepE false ((d, ot) :: rest) 0 q1 q2 q3) ∧ Two w w2 ba bb r v (stepM false ((d, u) :: rest) 0 q1 q2 q3) (stepM false ((d, ot) :: rest) 0 q1 q2 q3))
              case first =>
                go_region_with (first | (go_at_call 11; ((with_reducible refine (M1.out _ rfl _ rfl).mono ?_); rintro e w' ⟨rfl, ⟨x0, x1, x2, x3⟩, hTn⟩)) | (go_at_call 11; ((with_reducible refine (H2'.out _ _ hTn).mono ?_); rintro e w' ⟨rfl, hTm⟩)))
                all_goals (go_wp2_with fail; go_meet; exact ⟨rfl, hTm⟩)
              case rest =>
                obtain ⟨rfl, hTm⟩ := hcut
                by_cases hE : stepE false ((d, u) :: rest) 0 q1 q2 q3 = stepE false ((d, ot) :: rest) 0 q1 q2 q3
                · have hb : (stepE false ((d, u) :: rest) 0 q1 q2 q3 != stepE false ((d, ot) :: rest) 0 q1 q2 q3) = false := by simp [hE]
                  have hG1 := G1.out.step false 0 q1 q2 q3
                  have hG2 := G2.out.step false 0 q1 q2 q3
                  obtain ⟨rest', e1, e2⟩ := step_rest (.inl rfl) hE
                  rw [e1] at hG1 hTm
                  rw [e2] at hG2 hTm
                  have HG1 := Lib.hid hG1
                  have HG2 := Lib.hid hG2
                  clear e1 e2 hE hG1 hG2 M1 H2' hT hTb c0 c1 c2 c3
                  go_wp2_with fail
                  go_roundw
                  case rel => exact ⟨k + 1, by omega, by simp, rest', HG1.out, HG2.out, hTm⟩
                  case measure => simp [intOf]; omega
                · have hb : (stepE false ((d, u) :: rest) 0 q1 q2 q3 != stepE false ((d, ot) :: rest) 0 q1 q2 q3) = true := by simp [hE]
                  clear hE
                  go_wp2_with fail
                  go_ret
                  exact ⟨rfl, hTm.bel⟩
            · have hq0 : (q0 != 0) = true := by simp [hq]
              clear hq
              have M1 := main 1 (.inr rfl)
              clear main
              go_upto_region 12 with fail
              go_cut [78] from 72 to 79 (fun s w2 => s = .bool (stepE false ((d, u) :: rest) 1 q1 q2 q3 != stepE false ((d, ot) :: rest) 1 q1 q2 q3) ∧ Two w w2 ba bb r v (stepM false ((d, u) :: rest) 1 q1 q2 q3) (stepM false ((d, ot) :: rest) 1 q1 q2 q3))
              case first =>
                go_region_with (first | (go_at_call 11; ((with_reducible refine (M1.out _ rfl _ rfl).mono ?_); rintro e w' ⟨rfl, ⟨x0, x1, x2, x3⟩, hTn⟩)) | (go_at_call 11; ((with_reducible refine (H2'.out _ _ hTn).mono ?_); rintro e w' ⟨rfl, hTm⟩)))
                all_goals (go_wp2_with fail; go_meet; exact ⟨rfl, hTm⟩)
              case rest =>
                obtain ⟨rfl, hTm⟩ := hcut
                by_cases hE : stepE false ((d, u) :: rest) 1 q1 q2 q3 = stepE false ((d, ot) :: rest) 1 q1 q2 q3
                · have hb : (stepE false ((d, u) :: rest) 1 q1 q2 q3 != stepE false ((d, ot) :: rest) 1 q1 q2 q3) = false := by simp [hE]
                  have hG1 := G1.out.step false 1 q1 q2 q3
                  have hG2 := G2.out.step false 1 q1 q2 q3
                  obtain ⟨rest', e1, e2⟩ := step_rest (.inr rfl) hE
                  rw [e1] at hG1 hTm
                  rw [e2] at hG2 hTm
                  have HG1 := Lib.hid hG1
                  have HG2 := Lib.hid hG2
                  clear e1 e2 hE hG1 hG2 M1 H2' hT hTb c0 c1 c2 c3
                  go_wp2_with fail
                  go_roundw
                  case rel => exact ⟨k + 1, by omega, by simp, rest', HG1.out, HG2.out, hTm⟩
                  case measure => simp [intOf]; omega
                · have hb : (stepE false ((d, u) :: rest) 1 q1 q2 q3 != stepE false ((d, ot) :: rest) 1 q1 q2 q3) = true := by simp [hE]
                  clear hE
                  go_wp2_with fail
                  go_ret
                  exact ⟨rfl, hTm.bel⟩
          · obtain rfl : k = l.length := by omega
            have hcz := cor_zero (u := u) G2.out H2.out.2.2.2.1 H2.out.2.2.2.2
            have hTw := hT
            obtain ⟨⟨ga, ca, gb, cb, hA, hAb, h3, h3a, h3b, h3c, h3d⟩, h4, h5, h6, h7⟩ := hTw
            have HC := Lib.hid (correct_any ba ga ca r v ((d, u) :: rest) false G1.out 0 ot wr hA)
            have Hcz := Lib.hid hcz
            clear hcz
            go_wp2_with fail
            refine HC.out.mono ?_
            rw [Hcz.out.1, if_pos rfl, Hcz.out.2]
            rintro e w4 ⟨rfl, g4, c4, hA4, hC4, hg4⟩
            have hB4 : Below w.heap.size w w4 := Below.chg' h7 hC4 (by simp; omega)
            have hAb4 := hAb.chg hC4 (by simp; omega) (by simp; omega)
            clear hA hAb hT h7
            go_wp2_with fail
            refine (interest_all _ _ _ _ _ _ _ G2.out R.out tt f _ hA4).mono ?_
            rintro e w5 ⟨rfl, hb5⟩
            have hB5 := hB4.trans (hb5.mono hB4.size)
            have hA5 := hA4.below hb5
            have hAb5 := hAb4.below hb5
            go_wp2_with fail
            refine (interest_all _ _ _ _ _ _ _ G2.out R.out tt f _ hAb5).mono ?_
            rintro e w6 ⟨rfl, hb6⟩
            have hB6 := hB5.trans (hb6.mono hB5.size)
            have hA6 := hA5.below hb6
            have hAb6 := hAb5.below hb6
            go_wp2_with fail
            refine (balance_any _ _ _ _ _ _ _ G2.out _ hA6).mono ?_
            rintro e w7 ⟨rfl, hb7⟩
            have hB7 := hB6.trans (hb7.mono hB6.size)
            have hAb7 := hAb6.below hb7
            go_wp2_with fail
            refine (balance_any _ _ _ _ _ _ _ G2.out _ hAb7).mono ?_
            rintro e w8 ⟨rfl, hb8⟩
            have hB8 := hB7.trans (hb8.mono hB7.size)
            go_wp2_with fail
            go_ret
            exact ⟨rfl, hB8⟩
      · go_enter Try.func4, Try.ntmps4
        go_wp2_with fail
        refine (head_any w).mono ?_
        rintro e w1 ⟨rfl, hB1⟩
        go_wp2_with fail
        refine (new_yes _ _ _ _ H1.out _).mono ?_
        rintro e w2 ⟨rfl, _, hb2⟩
        have hB2 := hB1.trans (hb2.mono hB1.size)
        go_wp2_with fail
        refine (new_yes _ _ _ _ H2.out _).mono ?_
        rintro e w3 ⟨rfl, _, hb3⟩
        have hB3 := hB2.trans (hb3.mono hB2.size)
        go_wp2_with fail
        go_ret
        exact ⟨rfl, hB3⟩
    · go_enter Try.func4, Try.ntmps4
      go_wp2_with fail
      refine (head_any w).mono ?_
      rintro e w1 ⟨rfl, hB1⟩
      go_wp2_with fail
      refine (new_yes _ _ _ _ H1.out _).mono ?_
      rintro e w2 ⟨rfl, _, hb2⟩
      have hB2 := hB1.trans (hb2.mono hB1.size)
      go_wp2_with fail
      refine (new_no _ _ _ _ _ h2).mono ?_
      rintro e w' ⟨rfl, rfl⟩
      go_wp2_with fail
      go_ret
      exact ⟨rfl, hB2⟩
  · go_enter Try.func4, Try.ntmps4
    go_wp2_with fail
    refine (head_any w).mono ?_
    rintro e w1 ⟨rfl, hB1⟩
    go_wp2_with fail
    refine (new_no _ _ _ _ _ h1).mono ?_
    rintro e w' ⟨rfl, rfl⟩
    go_wp2_with fail
    refine (new_gen _ _ _ _ _).mono ?_
    rintro e w3 ⟨p3, E3, rfl, hb3⟩
    have hB3 := hB1.trans (hb3.mono hB1.size)
    go_wp2_with fail
    go_ret
    exact ⟨rfl, hB3⟩
end Go.Proofs.Ytodnnfdglkidgaa.frozenCorrected
