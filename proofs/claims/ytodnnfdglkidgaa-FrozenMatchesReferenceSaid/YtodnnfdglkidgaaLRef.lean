/- The law that the account is the reference's: its walk. -/
import Derived.Test.YtodnnfdglkidgaaRd
import Derived.Test.YtodnnfdglkidgaaOpn
set_option linter.unusedVariables false
namespace Go.Proofs.Ytodnnfdglkidgaa.frozenMatchesReference
open Go.RowKit Go.Shelf

/-- The account and the reference's, apart from each other, with the same movements. -/
structure Duo (w0 w : World) (ba bb : Nat) (r v : Int) (ms : List (Int × Int)) (cl : Bool) : Prop where
  two : ∃ ga ca gb cb, Acc 58 55 w ba ga ca r v ms cl ∧ RAcc w bb gb cb r v ms cl ∧ ga ≠ gb ∧ ga ≠ bb ∧ gb ≠ ba ∧ w0.heap.size ≤ ga ∧ w0.heap.size ≤ gb
  ne : ba ≠ bb
  a0 : w0.heap.size ≤ ba
  b0 : w0.heap.size ≤ bb
  bel : Below w0.heap.size w0 w
theorem Duo.later {w0 w w' : World} {ba bb : Nat} {r v : Int} {ms : List (Int × Int)} {cl : Bool} (h : Duo w0 w ba bb r v ms cl) (hb : Below w.heap.size w w') : Duo w0 w' ba bb r v ms cl := by
  obtain ⟨⟨ga, ca, gb, cb, h1, h2, h3⟩, h4, h5, h6, h7⟩ := h
  exact ⟨⟨ga, ca, gb, cb, h1.below hb, h2.below hb, h3⟩, h4, h5, h6, h7.trans (hb.mono h7.size)⟩
/-- Between the two steps. -/
structure Half (w0 w : World) (ba bb : Nat) (r v : Int) (ms ms' : List (Int × Int)) : Prop where
  two : ∃ ga ca gb cb, Acc 58 55 w ba ga ca r v ms' false ∧ RAcc w bb gb cb r v ms false ∧ ga ≠ gb ∧ ga ≠ bb ∧ gb ≠ ba ∧ w0.heap.size ≤ ga ∧ w0.heap.size ≤ gb
  ne : ba ≠ bb
  a0 : w0.heap.size ≤ ba
  b0 : w0.heap.size ≤ bb
  bel : Below w0.heap.size w0 w
theorem Duo.doA {w0 w : World} {ba bb : Nat} {r v : Int} {ms : List (Int × Int)} (h : Duo w0 w ba bb r v ms false) (hgd : Good ms) (k d u : Int) (lic : Bool) :
    Calls Try.prog 11 #[.pointer (some ⟨ba, 0, none⟩), stp k d u lic] w fun e w' => e = .returned (.int .i64 (stepE false ms k d u lic)) ∧ Half w0 w' ba bb r v ms (stepM false ms k d u lic) := by
  obtain ⟨⟨ga, ca, gb, cb, h1, h2, h3, h3a, h3b, h3c, h3d⟩, h4, h5, h6, h7⟩ := h
  refine (do_any ba ga ca r v ms false hgd k d u lic w h1).mono ?_
  rintro e w' ⟨rfl, g', c', hA, hC, hg⟩
  refine ⟨rfl, ⟨g', c', gb, cb, hA, h2.chg hC (by simp; omega) (by simp; omega), ?_, ?_, h3b, ?_, h3d⟩, h4, h5, h6, ?_⟩
  · have := h2.glt; omega
  · have := h2.blt; omega
  · have := h7.size; omega
  · exact Below.chg' h7 hC (by simp; omega)
theorem Half.doB {w0 w : World} {ba bb : Nat} {r v : Int} {ms ms' : List (Int × Int)} (h : Half w0 w ba bb r v ms ms') (hgd : Good ms) (k d u : Int) (lic : Bool) (e' : ms' = stepM false ms k d u lic) :
    Calls Try.prog 17 #[.pointer (some ⟨bb, 0, none⟩), stp k d u lic] w fun e w' => e = .returned (.int .i64 (stepE false ms k d u lic)) ∧ Duo w0 w' ba bb r v (stepM false ms k d u lic) false := by
  subst e'
  obtain ⟨⟨ga, ca, gb, cb, h1, h2, h3, h3a, h3b, h3c, h3d⟩, h4, h5, h6, h7⟩ := h
  refine (rdo_any bb gb cb r v ms false hgd k d u lic w h2).mono ?_
  rintro e w' ⟨rfl, g', c', hA, hC, hg⟩
  refine ⟨rfl, ⟨ga, ca, g', c', h1.chg hC (by simp; omega) (by simp; omega), hA, ?_, h3a, ?_, h3c, ?_⟩, h4, h5, h6, ?_⟩
  · have := h1.glt; omega
  · have := h1.blt; omega
  · have := h7.size; omega
  · exact Below.chg' h7 hC (by simp; omega)
theorem Duo.bal {w0 w : World} {ba bb : Nat} {r v : Int} {ms : List (Int × Int)} {cl : Bool} (h : Duo w0 w ba bb r v ms cl) (hgd : Good ms) :
    Calls Try.prog 13 #[.pointer (some ⟨ba, 0, none⟩)] w (fun e w' => e = .returned (.int .i64 (balOf cl ms)) ∧ Duo w0 w' ba bb r v ms cl) ∧
    Calls Try.prog 18 #[.pointer (some ⟨bb, 0, none⟩)] w (fun e w' => e = .returned (.int .i64 (balOf cl ms)) ∧ Duo w0 w' ba bb r v ms cl) := by
  obtain ⟨ga, ca, gb, cb, h1, h2, _⟩ := h.two
  exact ⟨(balance_any _ _ _ _ _ _ _ hgd _ h1).mono fun _ _ x => ⟨x.1, h.later x.2⟩, (rbalance_any _ _ _ _ _ _ _ hgd _ h2).mono fun _ _ x => ⟨x.1, h.later x.2⟩⟩
theorem Duo.int {w0 w : World} {ba bb : Nat} {r v : Int} {ms : List (Int × Int)} {cl : Bool} (h : Duo w0 w ba bb r v ms cl) (hgd : Good ms) (hr : Rates r v) (day : Int) (vo : Bool) :
    Calls Try.prog 12 #[.pointer (some ⟨ba, 0, none⟩), .int .i64 day, .bool vo] w (fun e w' => e = .returned (.tuple #[.int .i64 (intZ (rateOf vo r v) cl ms day), .int .i64 (intE cl ms day)]) ∧ Duo w0 w' ba bb r v ms cl) ∧
    Calls Try.prog 19 #[.pointer (some ⟨bb, 0, none⟩), .int .i64 day, .bool vo] w (fun e w' => e = .returned (.tuple #[.int .i64 (intZ (rateOf vo r v) cl ms day), .int .i64 (intE cl ms day)]) ∧ Duo w0 w' ba bb r v ms cl) := by
  obtain ⟨ga, ca, gb, cb, h1, h2, _⟩ := h.two
  exact ⟨(interest_all _ _ _ _ _ _ _ hgd hr day vo _ h1).mono fun _ _ x => ⟨x.1, h.later x.2⟩, (rinterest_all _ _ _ _ _ _ _ hgd hr day vo _ h2).mono fun _ _ x => ⟨x.1, h.later x.2⟩⟩

def SomeB (e : Ending) : Prop := ∃ x : Bool, e = .returned (.bool x)
set_option maxHeartbeats 400000 in
theorem short_any (d t : Int) (w : World) : Calls Try.prog 15 #[.int .i64 d, .int .i64 t] w fun e w' => SomeB e ∧ w = w' := by
  go_enter Try.func15, Try.ntmps15
  go_wp2
  all_goals (go_ret; exact ⟨⟨_, rfl⟩, rfl⟩)

theorem release_both {w0 w : World} {ba bb : Nat} {r v : Int} {ms : List (Int × Int)} (h : Duo w0 w ba bb r v ms false) (hgd : Good ms) (hr : Rates r v) (day : Int) (vo : Bool) :
    ∃ p m E c, (E = 0 ∨ E ≠ 0) ∧ Calls Try.prog 20 #[.pointer (some ⟨ba, 0, none⟩), .int .i64 day, .bool vo] w (fun e w' => e = .returned (.tuple #[.int .i64 p, .int .i64 m, .int .i64 E]) ∧
      Calls Try.prog 21 #[.pointer (some ⟨bb, 0, none⟩), .int .i64 day, .bool vo] w' (fun e w'' => e = .returned (.tuple #[.int .i64 p, .int .i64 m, .int .i64 E]) ∧ Duo w0 w'' ba bb r v ms c)) := by
  have hD := h
  obtain ⟨⟨ga, ca, gb, cb, h1, h2, h3, h3a, h3b, h3c, h3d⟩, h4, h5, h6, h7⟩ := h
  by_cases hE : intE false ms day = 0
  · refine ⟨balTo ms ms.length, intZ (rateOf vo r v) false ms day, 0, true, .inl rfl, (release_yes _ _ _ _ _ _ _ hgd hr day vo _ h1 hE).mono ?_⟩
    rintro e w1 ⟨rfl, hA, hC⟩
    refine ⟨rfl, (rrelease_yes _ _ _ _ _ _ _ hgd hr day vo _ (h2.chg hC (by simp; omega) (by simp; omega)) hE).mono ?_⟩
    rintro e w2 ⟨rfl, hA2, hC2⟩
    exact ⟨rfl, ⟨ga, ca, gb, cb, hA.chg hC2 (by simp; omega) (by simp; omega), hA2, h3, h3a, h3b, h3c, h3d⟩, h4, h5, h6, Below.chg' (Below.chg' h7 hC (by simp; omega)) hC2 (by simp; omega)⟩
  · refine ⟨0, 0, intE false ms day, false, .inr hE, (release_no _ _ _ _ _ _ _ hgd hr day vo _ h1 hE).mono ?_⟩
    rintro e w1 ⟨rfl, hb⟩
    refine ⟨rfl, (rrelease_no _ _ _ _ _ _ _ hgd hr day vo _ (h2.below hb) hE).mono ?_⟩
    rintro e w2 ⟨rfl, hb2⟩
    exact ⟨rfl, (hD.later hb).later hb2⟩

set_option maxRecDepth 100000 in
set_option maxHeartbeats 4000000 in
theorem walk (r : Int) (_ : (Lit.int .i64 r).wf = true) (v : Int) (_ : (Lit.int .i64 v).wf = true) (d : Int) (_ : (Lit.int .i64 d).wf = true) (u : Int) (_ : (Lit.int .i64 u).wf = true) (w : World) (sv : Value) (l : List (Int × Int × Int × Bool)) (hl : IsSteps w sv l)
    (tt : Int) (_ : (Lit.int .i64 tt).wf = true) :
    Calls Try.prog 6 #[.int .i64 r, .int .i64 v, .int .i64 d, .int .i64 u, sv, .int .i64 tt] w fun e w' => e = .returned (.bool true) ∧ Below w.heap.size w w' := by
  obtain ⟨ao, cap, rfl, hmax, hst⟩ := hl
  unfold maxLen at hmax
  have Hst := Lib.hid hst
  clear hst
  by_cases hlen : l.length ≤ 12
  · go_enter Try.func6, Try.ntmps6
    go_wp2_with fail
    refine (head_any w).mono ?_
    rintro e w1 ⟨rfl, hB1⟩
    go_wp2_with fail
    refine (short_any _ _ _).mono ?_
    rintro e w' ⟨⟨x, rfl⟩, rfl⟩
    cases x
    · go_wp2_with fail
      go_ret
      exact ⟨rfl, hB1⟩
    · rcases Classical.em (okNew r v d u) with h1 | h1
      · have H1 := Lib.hid h1
        have R := Lib.hid h1.rates
        clear h1
        go_wp2_with fail
        refine (new_yes _ _ _ _ H1.out _).mono ?_
        rintro e w2 ⟨rfl, hA2, hb2⟩
        have hB2 := hB1.trans (hb2.mono hB1.size)
        have hs2 := hA2.blt
        go_wp2_with fail
        refine (rnew_yes _ _ _ _ H1.out _).mono ?_
        rintro e w3 ⟨rfl, hA3, hb3⟩
        have hB3 := hB2.trans (hb3.mono hB2.size)
        have hT0 : Duo w w3 (w1.heap.size + 1) (w2.heap.size + 1) r v [(d, u)] false :=
          ⟨⟨_, _, _, _, hA2.below hb3, hA3, by omega, by omega, by omega, hB1.size, hB2.size⟩, by omega, by have := hB1.size; omega, by have := hB2.size; omega, hB3⟩
        clear hA2 hA3 hb2 hb3 hB1 hB2 hB3 hs2
        generalize w1.heap.size + 1 = ba at *
        generalize w2.heap.size + 1 = bb at *
        go_wp2_with fail
        go_loopw [18] (fun i wr => ∃ k : Nat, k ≤ l.length ∧ i = .int .i64 k ∧ ∃ ms, Good ms ∧ Duo w wr ba bb r v ms false) (fun i _ => l.length - (intOf i).toNat)
        case atStart => exact ⟨0, Nat.zero_le _, rfl, _, H1.out.good, hT0⟩
        case round =>
          obtain ⟨k, hk, rfl, ms, hg1, hT⟩ := hrel
          have G1 := Lib.hid hg1
          clear hg1 hT0
          by_cases hlt : k < l.length
          · obtain ⟨bk, o, rfl, hbb, c0, c1, c2, c3⟩ := Hst.out k hlt
            generalize l.getD k default = q at *
            obtain ⟨q0, q1, q2, q3⟩ := q
            dsimp only at c0 c1 c2 c3
            have d0 := (hT.bel.cell (p := ⟨bk, o + k * 4, none⟩) hbb).trans c0
            have d1 := (hT.bel.cell (p := ⟨bk, o + k * 4 + 1, none⟩) hbb).trans c1
            have d2 := (hT.bel.cell (p := ⟨bk, o + k * 4 + 2, none⟩) hbb).trans c2
            have d3 := (hT.bel.cell (p := ⟨bk, o + k * 4 + 3, none⟩) hbb).trans c3
            have C0 := Lib.hid c0
            have C1 := Lib.hid c1
            have C2 := Lib.hid c2
            have C3 := Lib.hid c3
            clear Hst c0 c1 c2 c3
            go_wp2_with fail
            refine (hT.doA G1.out q0 q1 q2 q3).mono ?_
            rintro e w4 ⟨rfl, hH⟩
            have f0 := (hH.bel.cell (p := ⟨bk, o + k * 4, none⟩) hbb).trans C0.out
            have f1 := (hH.bel.cell (p := ⟨bk, o + k * 4 + 1, none⟩) hbb).trans C1.out
            have f2 := (hH.bel.cell (p := ⟨bk, o + k * 4 + 2, none⟩) hbb).trans C2.out
            have f3 := (hH.bel.cell (p := ⟨bk, o + k * 4 + 3, none⟩) hbb).trans C3.out
            clear d0 d1 d2 d3 hT
            have G2 := Lib.hid (G1.out.step false q0 q1 q2 q3)
            go_wp2_with fail
            refine (hH.doB G1.out q0 q1 q2 q3 rfl).mono ?_
            rintro e w5 ⟨rfl, hT5⟩
            clear f0 f1 f2 f3 hH G1
            generalize stepM false ms q0 q1 q2 q3 = mt at *
            generalize stepE false ms q0 q1 q2 q3 = E at *
            go_wp2_with fail
            refine (hT5.bal G2.out).1.mono ?_
            rintro e w6 ⟨rfl, hT6⟩
            go_wp2_with fail
            refine (hT6.bal G2.out).2.mono ?_
            rintro e w7 ⟨rfl, hT7⟩
            clear hT5 hT6
            go_wp2_with fail
            refine wp_loop_rounds 3 ?_
            rw [rounds_succ]
            go_wp2_with fail
            refine (hT7.int G2.out R.out tt _).1.mono ?_
            rintro e w8 ⟨rfl, hT8⟩
            go_wp2_with fail
            refine (hT8.int G2.out R.out tt _).2.mono ?_
            rintro e w9 ⟨rfl, hT9⟩
            clear hT7 hT8
            go_wp2_with fail
            rw [rounds_succ]
            go_wp2_with fail
            refine (hT9.int G2.out R.out tt _).1.mono ?_
            rintro e w10 ⟨rfl, hT10⟩
            go_wp2_with fail
            refine (hT10.int G2.out R.out tt _).2.mono ?_
            rintro e w11 ⟨rfl, hT11⟩
            clear hT9 hT10
            go_wp2_with fail
            rw [rounds_succ]
            go_wp2_with fail
            go_roundw
            case rel => exact ⟨k + 1, by omega, by simp, mt, G2.out, hT11⟩
            case measure => simp [intOf]; omega
          · obtain rfl : k = l.length := by omega
            have hu1 : 0 ≤ u := H1.out.2.2.2.1
            go_wp2_with fail
            obtain ⟨p, m, E, c, hEE, HR⟩ := release_both hT G1.out R.out tt _
            refine HR.mono ?_
            rintro e w4 ⟨rfl, HR2⟩
            go_wp2_with fail
            refine HR2.mono ?_
            rintro e w5 ⟨rfl, hT5⟩
            clear hT
            go_wp2_with fail
            refine (hT5.bal G1.out).1.mono ?_
            rintro e w6 ⟨rfl, hT6⟩
            go_wp2_with fail
            refine (hT6.bal G1.out).2.mono ?_
            rintro e w7 ⟨rfl, hT7⟩
            go_wp2_with fail
            go_ret
            exact ⟨rfl, hT7.bel⟩
      · go_wp2_with fail
        refine (new_no _ _ _ _ _ h1).mono ?_
        rintro e w' ⟨rfl, rfl⟩
        go_wp2_with fail
        refine (rnew_no _ _ _ _ _ h1).mono ?_
        rintro e w' ⟨rfl, rfl⟩
        go_wp2_with fail
        refine wp_loop_rounds 1 ?_
        rw [rounds_succ]
        by_cases hl0 : 0 < l.length
        · go_wp2_with fail
          go_ret
          exact ⟨rfl, hB1⟩
        · go_wp2_with fail
          go_ret
          exact ⟨rfl, hB1⟩
  · go_enter Try.func6, Try.ntmps6
    go_wp2_with fail
    refine (head_any w).mono ?_
    rintro e w1 ⟨rfl, hB1⟩
    go_wp2_with fail
    go_ret
    exact ⟨rfl, hB1⟩
end Go.Proofs.Ytodnnfdglkidgaa.frozenMatchesReference
