/- The law on what an account keeps: its walk. -/
import Derived.Test.YtodnnfdglkidgaaM
import Derived.Test.YtodnnfdglkidgaaOpn
set_option linter.unusedVariables false
namespace Go.Proofs.Ytodnnfdglkidgaa.frozenKeeps
open Go.RowKit Go.Shelf

/-- The units of the movements, as cells. -/
def uCells (ms : List (Int × Int)) : List Value := ms.map fun x => .int .i64 x.2
theorem uCells_length (ms : List (Int × Int)) : (uCells ms).length = ms.length := by simp [uCells]
theorem uCells_snoc (ms : List (Int × Int)) (x : Int × Int) : uCells (ms ++ [x]) = uCells ms ++ [.int .i64 x.2] := by simp [uCells]
theorem uCells_fixed (ms : List (Int × Int)) (i : Nat) (u : Int) : uCells (fixed ms i u) = (uCells ms).set i (.int .i64 u) := by simp [uCells, fixed, List.map_set]
theorem uCells_at (ms : List (Int × Int)) (k : Nat) (h : k < ms.length) : (uCells ms)[k]? = some (.int .i64 (unitAt ms k)) := by simp [uCells, unitAt, h]

theorem ownsRow_chg {w w' : World} {base : Nat} {e : TypeId} {size : Nat} {v : Value} {n : Nat} {xs : List Value} (h : w.ownsRow base e size v n xs) {S : List Nat} (hc : Chg S w w') (hne : ∀ g, v.ownBlock = some g → g ∉ S) : w'.ownsRow base e size v n xs := by
  refine ⟨h.1, ?_⟩
  rcases h.2 with hn | ⟨g, cap, cur, rfl, hb, hgg, rest⟩
  · exact .inl hn
  · refine .inr ⟨g, cap, cur, rfl, hb, ?_, rest⟩
    rw [hc.block g (Array.getElem?_eq_some_iff.1 hgg).1 (hne g rfl)]
    exact hgg

/-- The account, and beside it the list of units that the law keeps. -/
structure KS (w0 w : World) (b : Nat) (r v : Int) (ms : List (Int × Int)) (mg mc : Nat) : Prop where
  own : w.ownsRow w0.heap.size 3 1 (.slice (some ⟨mg, 0, none⟩) ms.length mc) ms.length (uCells ms)
  acc : ∃ g cap, Acc 58 55 w b g cap r v ms false ∧ w0.heap.size ≤ g
  b0 : w0.heap.size ≤ b
  bel : Below w0.heap.size w0 w

theorem own_blk {w : World} {base : Nat} {e : TypeId} {size : Nat} {mg mc n : Nat} {xs : List Value} (h : w.ownsRow base e size (.slice (some ⟨mg, 0, none⟩) n mc) n xs) : ∃ cur, w.heap[mg]? = some (.cells cur e (0, 0)) := by
  rcases h.2 with ⟨e, _⟩ | ⟨g', cap', cur, e, h1, h2, h3⟩
  · cases e
  · simp only [Value.slice.injEq, Option.some.injEq, Addr.mk.injEq, true_and, and_true] at e
    obtain ⟨rfl, rfl⟩ := e
    exact ⟨cur, h2⟩
theorem apart {w : World} {base : Nat} {mg mc n : Nat} {xs : List Value} (h : w.ownsRow base 3 1 (.slice (some ⟨mg, 0, none⟩) n mc) n xs) {b g cap : Nat} {r v : Int} {ms : List (Int × Int)} {cl : Bool} (hA : Acc 58 55 w b g cap r v ms cl) : mg ≠ b ∧ mg ≠ g := by
  obtain ⟨cur, hc⟩ := own_blk h
  obtain ⟨cur2, hc2⟩ := own_blk hA.own
  constructor
  · rintro rfl; rw [hA.blk] at hc; simp at hc
  · rintro rfl; rw [hc2] at hc; simp at hc

theorem Try.info3 : (Try.prog.info? 3).map (fun i => (i.zero, i.size, i.bytes)) = some (some (.int .i64 0), 1, 8) := by kernel_rfl

/-- What the law does with a step that went well: in a round, the account has gone from ms to ms'. -/
structure Mid (w0 w : World) (b : Nat) (r v : Int) (ms ms' : List (Int × Int)) (mg mc x : Nat) (q0 q1 q2 : Int) (q3 : Bool) : Prop where
  own : w.ownsRow w0.heap.size 3 1 (.slice (some ⟨mg, 0, none⟩) ms.length mc) ms.length (uCells ms)
  acc : ∃ g cap, Acc 58 55 w b g cap r v ms' false ∧ w0.heap.size ≤ g
  b0 : w0.heap.size ≤ b
  bel : Below w0.heap.size w0 w
  blk : w.heap[x]? = some (.cells #[.int .i64 q0, .int .i64 q1, .int .i64 q2, .bool q3] 30 (0, 0))
  x0 : w0.heap.size ≤ x

theorem KS.step {w0 wr : World} {b : Nat} {r v : Int} {ms : List (Int × Int)} {mg mc : Nat} (h : KS w0 wr b r v ms mg mc) (hgd : Good ms) (q0 q1 q2 : Int) (q3 : Bool) :
    Calls Try.prog 11 #[.pointer (some ⟨b, 0, none⟩), stp q0 q1 q2 q3] (wr.alloc (.cells #[.int .i64 q0, .int .i64 q1, .int .i64 q2, .bool q3] 30)) fun e w' =>
      e = .returned (.int .i64 (stepE false ms q0 q1 q2 q3)) ∧ Mid w0 w' b r v ms (stepM false ms q0 q1 q2 q3) mg mc wr.heap.size q0 q1 q2 q3 := by
  obtain ⟨h1, ⟨g, cap, hA, hg0⟩, h3, h4⟩ := h
  have hal : Below wr.heap.size wr (wr.alloc (.cells #[.int .i64 q0, .int .i64 q1, .int .i64 q2, .bool q3] 30)) := (Below.refl _ wr).alloc (Nat.le_refl _) _
  have hA1 := hA.below hal
  have hap := apart h1 hA
  have hbl := hA.blt
  have hgl := hA.glt
  have hsz := h4.size
  refine (do_any b g cap r v ms false hgd q0 q1 q2 q3 _ hA1).mono ?_
  rintro e w' ⟨rfl, g', c', hA', hC, hg⟩
  refine ⟨rfl, ownsRow_chg (h1.alloc _) hC ?_, ⟨g', c', hA', ?_⟩, h3, Below.chg' (h4.alloc h4.size _) hC (by simp; omega), ?_, h4.size⟩
  · intro g2 e2
    obtain rfl : mg = g2 := by simpa [Value.ownBlock] using e2
    simp; omega
  · rcases hg with e | e
    · omega
    · simp at e; omega
  · rw [hC.block wr.heap.size (by simp) (by simp; omega)]
    exact heap_alloc_new wr _

theorem Mid.same {w0 w : World} {b : Nat} {r v : Int} {ms ms' : List (Int × Int)} {mg mc x : Nat} {q0 q1 q2 : Int} {q3 : Bool} (h : Mid w0 w b r v ms ms' mg mc x q0 q1 q2 q3) (e : ms' = ms) : KS w0 w b r v ms' mg mc := by
  subst e
  exact ⟨h.own, h.acc, h.b0, h.bel⟩
theorem Mid.app {w0 w w4 : World} {b : Nat} {r v : Int} {ms ms' : List (Int × Int)} {mg mc x : Nat} {q0 q1 q2 : Int} {q3 : Bool} (h : Mid w0 w b r v ms ms' mg mc x q0 q1 q2 q3) {d' z : Int} (e : ms' = ms ++ [(d', z)]) {mg' mc' : Nat}
    (hown : w4.ownsRow w0.heap.size 3 1 (.slice (some ⟨mg', 0, none⟩) (ms.length + 1) mc') (ms.length + 1) (uCells ms ++ [.int .i64 z])) (hgr : (w.alloc (.cells #[.int .i64 z] 3)).grownBy w4 (some mg)) : KS w0 w4 b r v ms' mg' mc' := by
  subst e
  obtain ⟨g, cap, hA, hg⟩ := h.acc
  have hap := apart h.own hA
  have hmg := (h.own.lt mg rfl).1
  have hC : Chg [mg] w w4 := (((Chg.refl [mg] w).alloc _).grown hgr (.inl (by simp)))
  refine ⟨by rw [uCells_snoc, show (ms ++ [(d', z)]).length = ms.length + 1 from by simp]; exact hown, ⟨g, cap, hA.chg hC (by simp; omega) (by simp; omega), hg⟩, h.b0, Below.chg' h.bel hC (by simp; omega)⟩
theorem Mid.put {w0 w : World} {b : Nat} {r v : Int} {ms ms' : List (Int × Int)} {mg mc x : Nat} {q0 q1 q2 : Int} {q3 : Bool} (h : Mid w0 w b r v ms ms' mg mc x q0 q1 q2 q3) {i : Nat} {z : Int} (e : ms' = fixed ms i z) : KS w0 (w.setCell ⟨mg, i, none⟩ (.int .i64 z)) b r v ms' mg mc := by
  subst e
  obtain ⟨g, cap, hA, hg⟩ := h.acc
  have hap := apart h.own hA
  have hmg := (h.own.lt mg rfl).1
  obtain ⟨h1, h2⟩ := h.own.stored i (.int .i64 z)
  have hC : Chg [mg] w (w.setCell ⟨mg, i, none⟩ (.int .i64 z)) := (Chg.refl [mg] w).grown h2 (.inl (by simp))
  exact ⟨by rw [uCells_fixed, fixed_length]; exact h1, ⟨g, cap, hA.chg hC (by simp; omega) (by simp; omega), hg⟩, h.b0, Below.chg' h.bel hC (by simp; omega)⟩

theorem Mid.xne {w0 w : World} {b : Nat} {r v : Int} {ms ms' : List (Int × Int)} {mg mc x : Nat} {q0 q1 q2 : Int} {q3 : Bool} (h : Mid w0 w b r v ms ms' mg mc x q0 q1 q2 q3) : x ≠ mg := by
  obtain ⟨cur, hc⟩ := own_blk h.own
  rintro rfl
  rw [h.blk] at hc
  simp at hc

theorem stepE_zero {ms : List (Int × Int)} {k d u : Int} {lic : Bool} (h : stepE false ms k d u lic = 0) :
    (k = 0 ∧ stepM false ms k d u lic = ms ++ [(d, u)]) ∨ (k = 1 ∧ lic = true ∧ 1 ≤ u ∧ u ≤ 1000000000000 ∧ stepM false ms k d u lic = ms ++ [(d, -u)]) ∨
    ((k == 0) = false ∧ (k == 1) = false ∧ 0 ≤ d ∧ d < (ms.length : Int) ∧ stepM false ms k d u lic = fixed ms d.toNat u) := by
  have hM : stepM false ms k d u lic = (if k = 0 then ms ++ [(d, u)] else if k = 1 then ms ++ [(d, -u)] else fixed ms d.toNat u) := by unfold stepM; rw [if_pos h]
  unfold stepE at h
  by_cases h0 : k = 0
  · exact .inl ⟨h0, by rw [hM, if_pos h0]⟩
  · rw [if_neg h0] at h hM
    by_cases h1 : k = 1
    · rw [if_pos h1] at h hM
      unfold movE at h
      by_cases ho : okDU d u
      · rw [if_pos ho] at h
        obtain ⟨_, hl, _⟩ := errAdd_zero h
        exact .inr (.inl ⟨h1, hl, ho.2.1, ho.2.2, hM⟩)
      · rw [if_neg ho] at h; simp at h
    · rw [if_neg h1] at h hM
      unfold corE at h
      by_cases hu : -1000000000000 ≤ u ∧ u ≤ 1000000000000
      · rw [if_pos hu, if_neg (by decide)] at h
        by_cases hi : 0 ≤ d ∧ d < (ms.length : Int)
        · exact .inr (.inr ⟨by simp [h0], by simp [h1], hi.1, hi.2, hM⟩)
        · rw [if_neg hi] at h; simp at h
      · rw [if_neg hu] at h; simp at h

set_option maxRecDepth 100000 in
set_option maxHeartbeats 4000000 in
theorem walk (r : Int) (_ : (Lit.int .i64 r).wf = true) (v : Int) (_ : (Lit.int .i64 v).wf = true) (d : Int) (_ : (Lit.int .i64 d).wf = true) (u : Int) (_ : (Lit.int .i64 u).wf = true) (w : World) (sv : Value) (l : List (Int × Int × Int × Bool)) (hl : IsSteps w sv l)
    (tt : Int) (_ : (Lit.int .i64 tt).wf = true) :
    Calls Try.prog 8 #[.int .i64 r, .int .i64 v, .int .i64 d, .int .i64 u, sv, .int .i64 tt] w fun e w' => e = .returned (.bool true) ∧ Below w.heap.size w w' := by
  obtain ⟨ao, cap, rfl, hmax, hst⟩ := hl
  unfold maxLen at hmax
  have Hst := Lib.hid hst
  clear hst
  rcases Classical.em (okNew r v d u) with h1 | h1
  · have H1 := Lib.hid h1
    clear h1
    by_cases hlen : l.length ≤ 12
    · have R := Lib.hid H1.out.rates
      obtain ⟨it, hi, hz0, hz1, hz2⟩ := info_parts Try.info3
      have Hi := Lib.hid hi
      have Hz0 := Lib.hid hz0
      have Hz1 := Lib.hid hz1
      have Hz2 := Lib.hid hz2
      clear hi hz0 hz1 hz2
      go_enter Try.func8, Try.ntmps8
      go_wp2_with fail
      refine (head_any w).mono ?_
      rintro e w1 ⟨rfl, hB1⟩
      go_wp2_with fail
      refine (new_yes _ _ _ _ H1.out _).mono ?_
      rintro e w2 ⟨rfl, hA2, hb2⟩
      have hB2 := hB1.trans (hb2.mono hB1.size)
      go_wp2_with fail
      have hK0 : KS w (w2.alloc (.cells #[.int .i64 u] 3)) (w1.heap.size + 1) r v [(d, u)] w2.heap.size 1 :=
        ⟨⟨rfl, .inr ⟨w2.heap.size, 1, #[.int .i64 u], rfl, hB2.size, heap_alloc_new w2 _, Nat.le_refl _, by decide, rfl, rfl⟩⟩, ⟨_, _, hA2.below ((Below.refl _ _).alloc (Nat.le_refl _) _), hB1.size⟩, by have := hB1.size; omega, hB2.alloc hB2.size _⟩
      clear hA2 hb2 hB1 hB2
      generalize w1.heap.size + 1 = b at *
      go_loopw [16, 17] (fun mv i wr => ∃ k : Nat, k ≤ l.length ∧ i = .int .i64 k ∧ ∃ ms mg mc, Good ms ∧ ms.length ≤ 1 + k ∧ mv = .slice (some ⟨mg, 0, none⟩) ms.length mc ∧ KS w wr b r v ms mg mc) (fun _ i _ => l.length - (intOf i).toNat)
      case atStart => exact ⟨0, Nat.zero_le _, rfl, _, _, _, H1.out.good, by simp, rfl, hK0⟩
      case round =>
        obtain ⟨k, hk, rfl, ms, mg, mc, hg1, hml, rfl, hK⟩ := hrel
        have G1 := Lib.hid hg1
        clear hg1 hK0
        by_cases hlt : k < l.length
        · obtain ⟨bk, o, rfl, hbb, c0, c1, c2, c3⟩ := Hst.out k hlt
          rw [← hK.bel.cell (p := ⟨bk, o + k * 4, none⟩) hbb] at c0
          rw [← hK.bel.cell (p := ⟨bk, o + k * 4 + 1, none⟩) hbb] at c1
          rw [← hK.bel.cell (p := ⟨bk, o + k * 4 + 2, none⟩) hbb] at c2
          rw [← hK.bel.cell (p := ⟨bk, o + k * 4 + 3, none⟩) hbb] at c3
          clear Hst
          generalize l.getD k default = q at *
          obtain ⟨q0, q1, q2, q3⟩ := q
          dsimp only at c0 c1 c2 c3
          go_wp2_with fail
          refine (hK.step G1.out q0 q1 q2 q3).mono ?_
          rintro e w3 ⟨rfl, hM⟩
          have hG3 := Lib.hid (G1.out.step false q0 q1 q2 q3)
          have hwx := hK.bel.size
          clear hK c0 c1 c2 c3
          go_upto_if 64 with fail
          go_cut [16] from 64 to 100 (fun mv w4 => ∃ mg' mc', mv = .slice (some ⟨mg', 0, none⟩) (stepM false ms q0 q1 q2 q3).length mc' ∧ KS w w4 b r v (stepM false ms q0 q1 q2 q3) mg' mc')
          case first =>
            have hX := hM.blk
            have x0 : w3.cell? ⟨wr.heap.size, 0, none⟩ = some (.int .i64 q0) := by rw [cell_of_row _ _ _ _ _ _ hX]; rfl
            have x1 : w3.cell? ⟨wr.heap.size, 1, none⟩ = some (.int .i64 q1) := by rw [cell_of_row _ _ _ _ _ _ hX]; rfl
            have x2 : w3.cell? ⟨wr.heap.size, 2, none⟩ = some (.int .i64 q2) := by rw [cell_of_row _ _ _ _ _ _ hX]; rfl
            have x3 : w3.cell? ⟨wr.heap.size, 3, none⟩ = some (.bool q3) := by rw [cell_of_row _ _ _ _ _ _ hX]; rfl
            have hxl : wr.heap.size < w3.heap.size := (Array.getElem?_eq_some_iff.1 hX).1
            clear hX
            by_cases hE : stepE false ms q0 q1 q2 q3 = 0
            · have hb : (stepE false ms q0 q1 q2 q3 == 0) = true := by simp [hE]
              rcases stepE_zero hE with ⟨h0, hm⟩ | ⟨h0, hq3, hq1, hq2, hm⟩ | ⟨h0, h0', hq1, hq2, hm⟩
              · have Hm := Lib.hid hm
                clear hE hm
                subst h0
                go_wp2_with (at_builtin; refine wpList_append_lies _ rfl (.tmp 85) (.tmp 88) 48 rfl w.heap.size 3 it (.int .i64 0) 1 8 Try.underlying48 Hi.out Hz0.out Hz1.out Hz2.out rfl (by decide) _ ms.length (uCells ms) rfl (hM.own.alloc _) ⟨w3.heap.size, 0, none⟩ 1 1 [.int .i64 q2] rfl rfl (cell_one_new _ _ _) (by simp [Value.oneCell']) (by decide) (by unfold maxLen; omega) (by omega) (by have := hM.bel.size; simp; omega) _ rfl ?_)
                intro mg2 mc2 w5 hown2 hgr2 _ _
                have hfin := hM.app Hm.out hown2 hgr2
                have hl2 : (stepM false ms 0 q1 q2 q3).length = ms.length + 1 := by rw [Hm.out]; simp
                have Hl2 := Lib.hid hl2
                clear hl2
                go_wp2_with fail
                go_meet
                exact ⟨mg2, mc2, by rw [Hl2.out], hfin⟩
              · have Hm := Lib.hid hm
                clear hE hm
                subst h0
                subst hq3
                go_wp2_with (at_builtin; refine wpList_append_lies _ rfl (.tmp 92) (.tmp 96) 48 rfl w.heap.size 3 it (.int .i64 0) 1 8 Try.underlying48 Hi.out Hz0.out Hz1.out Hz2.out rfl (by decide) _ ms.length (uCells ms) rfl (hM.own.alloc _) ⟨w3.heap.size, 0, none⟩ 1 1 [.int .i64 (-q2)] rfl rfl (cell_one_new _ _ _) (by simp [Value.oneCell']) (by decide) (by unfold maxLen; omega) (by omega) (by have := hM.bel.size; simp; omega) _ rfl ?_)
                intro mg2 mc2 w5 hown2 hgr2 _ _
                have hfin := hM.app Hm.out hown2 hgr2
                have hl2 : (stepM false ms 1 q1 q2 true).length = ms.length + 1 := by rw [Hm.out]; simp
                have Hl2 := Lib.hid hl2
                clear hl2
                have hne := hM.xne
                have x3' : w5.cell? ⟨wr.heap.size, 3, none⟩ = some (.bool true) := (hgr2.cell_far ⟨wr.heap.size, 3, none⟩ (by simp; omega) (by simp [Value.ownBlock]; omega)).trans (cell_alloc_l _ x3)
                go_wp2_with fail
                go_meet
                exact ⟨mg2, mc2, by rw [Hl2.out], hfin⟩
              · have Hm := Lib.hid hm
                clear hE hm
                obtain ⟨i, rfl⟩ := Int.eq_ofNat_of_zero_le hq1
                have hil : i < ms.length := by omega
                have hfin := hM.put (i := i) (z := q2) (by rw [Hm.out, Int.toNat_natCast])
                have hl2 : (stepM false ms q0 i q2 q3).length = ms.length := by rw [Hm.out, fixed_length]
                have Hl2 := Lib.hid hl2
                clear hl2
                obtain ⟨cur, hcur⟩ := own_blk hM.own
                have m1 : w3.cell? ⟨mg, i, none⟩ = some (.int .i64 (unitAt ms i)) := by have := hM.own.cells rfl i _ (uCells_at ms i hil); rwa [Addr.add_lit, Nat.zero_add] at this
                have m2 : w3.frozen? ⟨mg, i, none⟩ = false := by simp [World.frozen?, hcur]
                clear hcur
                go_wp2_with fail
                go_meet
                exact ⟨mg, mc, by rw [Hl2.out], hfin⟩
            · have hb : (stepE false ms q0 q1 q2 q3 == 0) = false := by simp [hE]
              have hm : stepM false ms q0 q1 q2 q3 = ms := by unfold stepM; rw [if_neg hE]
              have hfin := hM.same hm
              have Hm := Lib.hid hm
              clear hE hm
              go_wp2_with fail
              go_meet
              exact ⟨mg, mc, by rw [Hm.out], hfin⟩
          case rest =>
            obtain ⟨mg', mc', rfl, hK⟩ := hcut
            have hml' : (stepM false ms q0 q1 q2 q3).length ≤ 1 + (k + 1) := by
              have : (stepM false ms q0 q1 q2 q3).length ≤ ms.length + 1 := by
                unfold stepM
                split
                · split
                  · simp
                  · split
                    · simp
                    · rw [fixed_length]; omega
                · omega
              omega
            generalize stepM false ms q0 q1 q2 q3 = mt at *
            generalize stepE false ms q0 q1 q2 q3 = E at *
            clear hM G1 hml
            have hlen2 := hG3.out.len2
            have hbN := Lib.hid hG3.out.bal
            obtain ⟨g, cap3, hA, hgg⟩ := hK.acc
            have HA := Lib.hid hA
            clear hA
            go_wp2_with fail
            go_loop [20, 21] (fun s j => ∃ n : Nat, n ≤ mt.length ∧ j = .int .i64 n ∧ s = .int .i64 (balTo mt n)) (fun _ j => mt.length - (intOf j).toNat)
            case atStart => exact ⟨0, Nat.zero_le _, rfl, by rw [balTo_zero]⟩
            case round =>
              obtain ⟨n, hn, rfl, rfl⟩ := hrel
              by_cases hnl : n < mt.length
              · have hx1 := hbN.out n (by omega)
                have hx2 := hbN.out (n + 1) (by omega)
                have hx3 := hG3.out.unit n hnl
                have hS := Lib.hid (balTo_succ mt n hnl)
                rw [hS.out] at hx2
                obtain ⟨y1, y2⟩ := hx1
                obtain ⟨y3, y4⟩ := hx2
                obtain ⟨y5, y6⟩ := hx3
                have hm1 : wc.cell? ⟨mg', n, none⟩ = some (.int .i64 (unitAt mt n)) := by have := hK.own.cells rfl n _ (uCells_at mt n hnl); rwa [Addr.add_lit, Nat.zero_add] at this
                go_wp2_with fail
                go_round
                case rel => exact ⟨n + 1, by omega, by simp, by rw [hS.out]⟩
                case measure => simp [intOf]; omega
              · obtain rfl : n = mt.length := by omega
                have HB := Lib.hid (balance_any _ _ _ _ _ _ _ hG3.out _ HA.out)
                have hbo : Hid (balOf false mt = balTo mt mt.length) := rfl
                obtain ⟨y1, y2⟩ := hbN.out mt.length (Nat.le_refl _)
                go_wp2_with fail
                refine HB.out.mono ?_
                rw [hbo.out]
                rintro e w6 ⟨rfl, hb6⟩
                have hK6 : KS w w6 b r v mt mg' mc' := ⟨ownsRow_chg hK.own (Below.chg hb6 []) (fun _ _ => by simp), ⟨g, cap3, HA.out.below hb6, hgg⟩, hK.b0, hK.bel.trans (hb6.mono hK.bel.size)⟩
                clear hK hb6
                go_wp2_with fail
                exact ⟨⟨k + 1, by omega, by simp, mt, mg', mc', hG3.out, hml', rfl, hK6⟩, by simp [intOf]; omega⟩
        · obtain rfl : k = l.length := by omega
          obtain ⟨g, cap3, hA, hgg⟩ := hK.acc
          have hB := hK.bel
          have hb0 := hK.b0
          clear hK
          have hbo : Hid (balOf false ms = balTo ms ms.length) := rfl
          go_wp2_with fail
          refine (balance_any _ _ _ _ _ _ _ G1.out _ hA).mono ?_
          rw [hbo.out]
          rintro e w4 ⟨rfl, hb4⟩
          have hB4 := hB.trans (hb4.mono hB.size)
          have hA4 := hA.below hb4
          clear hA hB hb4
          by_cases hE : intE false ms tt = 0
          · have hz := intZ_range G1.out (rateOf true r v) (R.out.pick true).1 (R.out.pick true).2 false tt
            have hd := intE_zero hE
            have HRel := Lib.hid (release_yes b g cap3 r v ms false G1.out R.out tt true w4 hA4 hE)
            have e29 : Hid (intE true ms tt = 29) := by unfold Hid intE errTwo; rw [if_pos ⟨hd.2.1, hd.2.2.1⟩]; rfl
            have z0 : Hid (intZ (rateOf false r v) true ms tt = 0) := by unfold Hid intZ; rw [e29.out]; rfl
            have ho : okDU tt 1 := ⟨⟨hd.2.1, hd.2.2.1⟩, by omega, by omega⟩
            have hrec : Hid (recE true ms tt 1 = 29) := by unfold Hid recE; rw [if_pos ho]; rfl
            have hmov : Hid (movE true true ms tt 1 = 29) := by unfold Hid movE; rw [if_pos ho]; rfl
            have hcor : Hid (corE true ms 0 0 = 29) := by unfold Hid corE; rw [if_pos (by decide), if_pos rfl]
            have hbt : Hid (balOf true ms = 0) := rfl
            have hgl := hA4.glt
            clear hd ho hE
            generalize intZ (rateOf true r v) false ms tt = Z at *
            obtain ⟨hz1, hz2⟩ := hz
            generalize balTo ms ms.length = B at *
            go_wp2_with fail
            refine HRel.out.mono ?_
            rintro e w5 ⟨rfl, hA5, hC5⟩
            have hB5 : Below w.heap.size w w5 := Below.chg' hB4 hC5 (by simp; omega)
            clear hA4 hC5
            go_wp2_with fail
            refine (interest_all _ _ _ _ _ _ _ G1.out R.out tt false _ hA5).mono ?_
            rw [z0.out, e29.out]
            rintro e w6 ⟨rfl, hb6⟩
            have hB6 := hB5.trans (hb6.mono hB5.size)
            have hA6 := hA5.below hb6
            clear hA5 hb6
            go_wp2_with fail
            refine (release_no _ _ _ _ _ _ _ G1.out R.out tt false _ hA6 (by rw [e29.out]; decide)).mono ?_
            rw [e29.out]
            rintro e w7 ⟨rfl, hb7⟩
            have hB7 := hB6.trans (hb7.mono hB6.size)
            have hA7 := hA6.below hb7
            clear hA6 hb7
            go_wp2_with fail
            refine (balance_any _ _ _ _ _ _ _ G1.out _ hA7).mono ?_
            rw [hbt.out]
            rintro e w8 ⟨rfl, hb8⟩
            have hB8 := hB7.trans (hb8.mono hB7.size)
            have hA8 := hA7.below hb8
            clear hA7 hb8
            go_wp2_with fail
            refine (receive_all _ _ _ _ _ _ _ G1.out tt 1 _ hA8).mono ?_
            rw [hrec.out, if_neg (by decide)]
            rintro e w9 ⟨rfl, g9, c9, hA9, hC9, hg9⟩
            have hg9' : w.heap.size ≤ g9 := by have := hB8.size; omega
            have hB9 : Below w.heap.size w w9 := Below.chg' hB8 hC9 (by simp; omega)
            clear hA8 hC9
            go_wp2_with fail
            refine (move_all _ _ _ _ _ _ _ G1.out tt 1 true _ hA9).mono ?_
            rw [hmov.out, if_neg (by decide)]
            rintro e w10 ⟨rfl, g10, c10, hA10, hC10, hg10⟩
            have hg10' : w.heap.size ≤ g10 := by have := hB9.size; omega
            have hB10 : Below w.heap.size w w10 := Below.chg' hB9 hC10 (by simp; omega)
            clear hA9 hC10
            go_wp2_with fail
            refine (correct_any _ _ _ _ _ _ _ G1.out 0 0 _ hA10).mono ?_
            rw [hcor.out, if_neg (by decide)]
            rintro e w11 ⟨rfl, g11, c11, hA11, hC11, hg11⟩
            have hB11 : Below w.heap.size w w11 := Below.chg' hB10 hC11 (by simp; omega)
            go_wp2_with fail
            go_ret
            exact ⟨rfl, hB11⟩
          · have HRel := Lib.hid (release_no b g cap3 r v ms false G1.out R.out tt true w4 hA4 hE)
            have hb : (intE false ms tt != 0) = true := by simp [hE]
            clear hE
            go_wp2_with fail
            refine HRel.out.mono ?_
            rintro e w5 ⟨rfl, hb5⟩
            have hB5 := hB4.trans (hb5.mono hB4.size)
            have hA5 := hA4.below hb5
            go_wp2_with fail
            refine (balance_any _ _ _ _ _ _ _ G1.out _ hA5).mono ?_
            rw [hbo.out]
            rintro e w6 ⟨rfl, hb6⟩
            have hB6 := hB5.trans (hb6.mono hB5.size)
            go_wp2_with fail
            go_ret
            exact ⟨rfl, hB6⟩
    · go_enter Try.func8, Try.ntmps8
      go_wp2_with fail
      refine (head_any w).mono ?_
      rintro e w1 ⟨rfl, hB1⟩
      go_wp2_with fail
      refine (new_yes _ _ _ _ H1.out _).mono ?_
      rintro e w2 ⟨rfl, hA2, hb2⟩
      have hB2 := hB1.trans (hb2.mono hB1.size)
      go_wp2_with fail
      go_ret
      exact ⟨rfl, hB2⟩
  · go_enter Try.func8, Try.ntmps8
    go_wp2_with fail
    refine (head_any w).mono ?_
    rintro e w1 ⟨rfl, hB1⟩
    go_wp2_with fail
    refine (new_no _ _ _ _ _ h1).mono ?_
    rintro e w' ⟨rfl, rfl⟩
    go_wp2_with fail
    go_ret
    exact ⟨rfl, hB1⟩
end Go.Proofs.Ytodnnfdglkidgaa.frozenKeeps
