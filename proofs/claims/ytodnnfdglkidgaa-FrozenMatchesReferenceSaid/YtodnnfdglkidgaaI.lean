/- Correct. -/
import Derived.Test.YtodnnfdglkidgaaH
set_option linter.unusedVariables false
namespace Go.Proofs.Ytodnnfdglkidgaa
open Go.RowKit Go.Shelf
attribute [local go_sem] Oper.semAt_some

theorem flat_fixed (ms : List (Int × Int)) (u : Int) : ∀ i, i < ms.length → flat (fixed ms i u) = (flat ms).set (i * 2 + 1) (.int .i64 u) := by
  induction ms with
  | nil => intro i h; simp at h
  | cons m rest ih =>
    obtain ⟨d, x⟩ := m
    intro i h
    cases i with
    | zero => simp [fixed, flat, dayAt]
    | succ i =>
      have := ih i (by simpa using h)
      simp only [fixed] at this
      rw [show (i + 1) * 2 + 1 = i * 2 + 1 + 1 + 1 from by omega]
      simp only [fixed, List.set_cons_succ, flat]
      rw [← this]
      simp [dayAt]

theorem Try.info55' : (Try.prog.info? 55).map (fun i => (i.zero, i.size, i.bytes)) = some (some (.agg #[.int .i64 0, .int .i64 0]), 2, 16) := by kernel_rfl

theorem Acc.ofTry {w : World} {tb tg : Nat} {ms : List (Int × Int)} {i : Nat} {u : Int} (hi : i < ms.length) (hm : ms.length ≤ 2000) (hb : w.heap[tb]? = some (.cells #[.int .i64 0, .int .i64 0, .slice (some ⟨tg, 0, none⟩) ms.length ms.length, .bool false] 58 (0, 0)))
    (hg : w.heap[tg]? = some (.cells (flat ms).toArray 55 (0, 0))) (hne : tg ≠ tb) : Acc 58 55 (w.setCell ⟨tg, i * 2 + 1, none⟩ (.int .i64 u)) tb tg ms.length 0 0 (fixed ms i u) false := by
  refine ⟨?_, ⟨by rw [flat_length], .inr ⟨tg, ms.length, ((flat ms).set (i * 2 + 1) (.int .i64 u)).toArray, by rw [fixed_length], Nat.zero_le _, ?_, by rw [fixed_length]; exact Nat.le_refl _, by unfold maxLen; omega, by simp [flat_length], ?_⟩⟩, hne⟩
  · rw [Below.heap_setCell _ _ _ _ hne.symm, fixed_length]; exact hb
  · rw [heap_setCell_same _ _ _ _ _ _ _ hg]; simp
  · rw [fixed_length, flat_fixed ms u i hi, List.take_of_length_le (by simp [flat_length])]

theorem wp_normal {P : Program} {c : Code} {K : Act → World → Prop} {Q' : Exit → Act → World → Prop} {a : Act} {w : World} (h : c.wp P (Exit.then K (fun _ _ _ => False)) a w) : c.wp P (Exit.then K Q') a w :=
  wp_mono h fun e _ _ hq => by cases e <;> first | exact hq | exact hq.elim

theorem grownBy_of_drew {w w' : World} {row : Option Nat} (h : w.drew.grownBy w' row) : w.grownBy w' row := ⟨h.os, h.tape, h.output, h.size, h.block⟩

theorem pers_mem (ms : List (Int × Int)) {k n : Nat} (h : k ≤ n) {x : Int × Int} (hx : x ∈ pers ms k) : x ∈ pers ms n := by
  simp only [pers, List.mem_map, List.mem_range] at hx ⊢
  obtain ⟨j, hj, e⟩ := hx
  exact ⟨j, by omega, e⟩

theorem periods_any (p : Option Addr) (w : World) : Calls Try.prog 31 #[.pointer p] w fun e w' => e = .returned (.func (.func 42) #[] #[.pointer (some ⟨w.heap.size, 0, none⟩)]) ∧ w' = w.alloc (.cells #[.pointer p] 24) :=
  callsIn_wide.1 (periods_in Fence.wide 0 trivial rfl p w)

/-- The outcome of Correct where the arguments are allowed. -/
def Corrected (b g cap : Nat) (r v : Int) (ms : List (Int × Int)) (i : Nat) (u : Int) (w : World) (e : Ending) (w' : World) : Prop :=
  (allIn (fixed ms i u) ∧ e = .returned (.int .i64 0) ∧ ∃ g', Acc 58 55 w' b g' ms.length r v (fixed ms i u) false ∧ Chg [b] w w' ∧ w.heap.size ≤ g') ∨
  (¬ allIn (fixed ms i u) ∧ e = .returned (.int .i64 21) ∧ Below w.heap.size w w')

theorem Acc.moved {ta tm : TypeId} {w : World} {b g cap : Nat} {r v : Int} {ms ms' : List (Int × Int)} {cl : Bool} (h : Acc ta tm w b g cap r v ms cl) {tb tg cap' : Nat} {r' v' : Int} {cl' : Bool} (h' : Acc ta tm w tb tg cap' r' v' ms' cl') (hne : tg ≠ b) :
    Acc ta tm (w.setCell ⟨b, 2, none⟩ (.slice (some ⟨tg, 0, none⟩) ms'.length cap')) b tg cap' r v ms' cl := by
  refine ⟨by rw [heap_setCell_same _ _ _ _ _ _ _ h.blk]; rfl, ⟨h'.own.1, ?_⟩, hne⟩
  rcases h'.own.2 with ⟨e, _⟩ | ⟨g', cap', cur, e, h1, h2, h3⟩
  · cases e
  · simp only [Value.slice.injEq, Option.some.injEq, Addr.mk.injEq, true_and, and_true] at e
    obtain ⟨rfl, rfl⟩ := e
    exact .inr ⟨_, _, cur, rfl, h1, by rw [Below.heap_setCell _ _ _ _ hne]; exact h2, h3⟩

set_option maxRecDepth 100000 in
set_option maxHeartbeats 1000000 in
theorem correct_loop (b g cap : Nat) (r v : Int) (ms : List (Int × Int)) (hgd : Good ms) (i : Nat) (hi : i < ms.length) (u : Int) (hu1 : -1000000000000 ≤ u) (hu2 : u ≤ 1000000000000) (hbn : Bnd (fixed ms i u)) (w : World) (hA : Acc 58 55 w b g cap r v ms false) :
    Calls Try.prog 14 #[.pointer (some ⟨b, 0, none⟩), .int .i64 i, .int .i64 u] w (Corrected b g cap r v ms i u w) := by
  have H1 := Lib.hid (first1_any (w.heap.size + 1) b g cap r v ms false)
  have HW := Lib.hid (within_yes u (-1000000000000) 1000000000000)
  have HI := Lib.hid (within_yes (i : Int) 0 ((ms.length : Int) - 1))
  have HG := Lib.hid hgd
  have hlen := hgd.len2
  have hbl := hA.blt
  have hgl := hA.glt
  clear hgd
  obtain ⟨it, hti, hz0, hz1, hz2⟩ := info_parts Try.info55
  refine calls_of_wp_marks (n := 5) Try.func14 rfl ?_
  simp only [Try.ntmps14, List.size_toArray, List.length_cons, List.length_nil, Nat.reduceAdd, Nat.reduceSub, Array.replicate_succ, Array.replicate_zero, List.push_toArray, List.append_toArray, List.nil_append, List.cons_append]
  go_wp2_with fail
  refine (HW.out _ hu1 hu2).mono ?_
  rintro e w' ⟨rfl, rfl⟩
  go_wp2_with fail
  refine (H1.out _ (hA.below (((Below.refl _ w).alloc (Nat.le_refl _) _).alloc (by simp) _)) ?_).mono ?_
  · have := heap_alloc_new (w.alloc (.cells #[.int .i64 0] 25)) (.cells #[fOpen b] 60)
    simp only [World.size_alloc] at this
    rw [cell_of_row _ _ 0 _ _ _ this]; rfl
  rintro e w' ⟨rfl, rfl⟩
  have hA1 := hA.below (((Below.refl _ w).alloc (Nat.le_refl _) (.cells #[.int .i64 0] 25)).alloc (by simp) (.cells #[fOpen b] 60))
  have hc2 := hA1.c2
  go_wp2_with fail
  refine (HI.out _ (by omega) (by omega)).mono ?_
  rintro e w' ⟨rfl, rfl⟩
  have hB1 : Below w.heap.size w ((w.alloc (.cells #[.int .i64 0] 25)).alloc (.cells #[fOpen b] 60)) := ((Below.refl _ w).alloc (Nat.le_refl _) _).alloc (by simp) _
  go_wp2_with (at_make; refine wpList_make_full _ rfl _ _ 56 rfl 0 55 it (.agg #[.int .i64 0, .int .i64 0]) 2 Try.underlying56 hti hz0 hz1 .i64 .i64 _ _ ms.length rfl rfl rfl rfl (by rw [hz2]; omega) (by unfold maxLen; omega) (Nat.zero_le _) ?_)
  intro wm hownm hgm
  have hbR : Boxed wm w.heap.size 25 (.int .i64 0) := by
    have := (Boxed.new w 25 (.int .i64 0)).alloc (.cells #[fOpen b] 60)
    exact this.kept hgm (by simp)
  have hBm := hB1.grown hgm (by simp; omega) (by simp)
  have hszm : w.heap.size + 1 + 1 < wm.heap.size := by have := (hownm.lt _ rfl).2; simp at this; omega
  try simp only [World.size_alloc] at hownm
  obtain ⟨cur, hcur, hcs⟩ : ∃ cur, wm.heap[w.heap.size + 1 + 1]? = some (.cells cur 55 (0, 0)) ∧ cur.size = ms.length * 2 := by
    rcases hownm.2 with ⟨e, _⟩ | ⟨g', cap', cur, e, _, h2, _, _, h5, _⟩
    · cases e
    · simp only [Value.slice.injEq, Option.some.injEq, Addr.mk.injEq, true_and, and_true] at e
      obtain ⟨rfl, rfl⟩ := e
      exact ⟨cur, h2, h5⟩
  have htgw : w.heap.size + 1 < w.heap.size + 1 + 1 := by omega
  generalize w.heap.size + 1 + 1 = tg at *
  clear hownm hgm hB1 hA1 hc2
  have hAm := hA.below hBm
  go_wp2_with fail
  have hCa : (wm.alloc (.cells #[.int .i64 0, .int .i64 0, .slice (some ⟨tg, 0, none⟩) ms.length ms.length, .bool false] 58)).cell? ⟨b, 2, none⟩ = some (.slice (some ⟨g, 0, none⟩) ms.length cap) := cell_alloc_l _ hAm.c2
  have HC : Hid (∀ j x, (flat ms)[j]? = some x → (wm.alloc (.cells #[.int .i64 0, .int .i64 0, .slice (some ⟨tg, 0, none⟩) ms.length ms.length, .bool false] 58)).drew.cell? ((⟨g, 0, none⟩ : Addr).add j) = some x) := fun j x hx => cell_alloc_l (w := wm) _ (hAm.own.cells rfl j x hx)
  have HT : Hid ((wm.alloc (.cells #[.int .i64 0, .int .i64 0, .slice (some ⟨tg, 0, none⟩) ms.length ms.length, .bool false] 58)).drew.heap[tg]? = some (.cells cur 55 (0, 0))) := (heap_alloc_old wm _ tg (by omega)).trans hcur
  have HF : Hid ((flat ms).length = ms.length * 2) := flat_length ms
  have HO : Hid (∀ x ∈ flat ms, x.oneCell' = true) := flat_oneCell ms
  go_cut [50] from 42 (fun _ w2 => w2.heap[tg]? = some (.cells (flat ms).toArray 55 (0, 0)) ∧ (wm.alloc (.cells #[.int .i64 0, .int .i64 0, .slice (some ⟨tg, 0, none⟩) ms.length ms.length, .bool false] 58)).grownBy w2 (some tg) ∧ w2.heap.size = wm.heap.size + 1)
  case first =>
    refine wp_normal ?_
    go_region_law (refine step_copy_whole rfl (.tmp 45) (.tmp 49) 56 56 rfl 55 it Try.underlying56 hti 2 hz1 tg ms.length ms.length ⟨g, 0, none⟩ cap (by simp [Act.eval]) (by simp [Act.eval]) cur 55 HT.out (flat ms) HF.out hcs HC.out HO.out ?_; intro w6 hg6 hgr6 hsz6)
    all_goals (go_wp2_with fail; go_meet; exact ⟨hg6, grownBy_of_drew hgr6, by rw [hsz6]; simp [World.drew]⟩)
  case rest =>
    obtain ⟨hg6, hgr6, hsz6⟩ := hcut
    have hq1 : wm.heap.size + 1 ≤ wc.heap.size := Nat.le_of_eq hsz6.symm
    have hq2 : wc.heap.size ≤ wm.heap.size + 1 := Nat.le_of_eq hsz6
    clear hsz6
    have htb : wc.heap[wm.heap.size]? = some (.cells #[.int .i64 0, .int .i64 0, .slice (some ⟨tg, 0, none⟩) ms.length ms.length, .bool false] 58 (0, 0)) := (hgr6.block wm.heap.size (by simp) (by simp; omega)).trans (heap_alloc_new wm _)
    have hT := Acc.ofTry (i := i) (u := u) hi (by omega) htb hg6 (by omega)
    have hBc : Below w.heap.size w wc := (hBm.alloc hBm.size _).grown hgr6 (by simp; omega) (by simp; omega)
    have hbR6 : Boxed wc w.heap.size 25 (.int .i64 0) := (hbR.alloc _).kept hgr6 (by simp; omega)
    have q1 : wc.cell? ⟨wm.heap.size, 2, none⟩ = some (.slice (some ⟨tg, 0, none⟩) ms.length ms.length) := by rw [cell_of_row _ _ 2 _ _ _ htb]; rfl
    have hlt2 : i * 2 + 1 < (flat ms).length := by rw [flat_length]; omega
    have q2 : wc.cell? ⟨tg, i * 2 + 1, none⟩ = some ((flat ms)[i * 2 + 1]'hlt2) := by rw [cell_of_row _ _ _ _ _ _ hg6]; simp
    have q3 : wc.frozen? ⟨tg, i * 2 + 1, none⟩ = false := by simp [World.frozen?, hg6]
    have q4 : ((i : Int) < (ms.length : Int)) := by omega
    go_wp2_with fail
    refine (periods_any _ _).mono ?_
    rintro e w' ⟨rfl, rfl⟩
    go_wp2_with fail
    have hsw : (wc.setCell ⟨tg, i * 2 + 1, none⟩ (.int .i64 u)).heap.size = wc.heap.size := by simp [World.setCell]
    obtain ⟨W1, hW1⟩ : ∃ W1, (wc.setCell ⟨tg, i * 2 + 1, none⟩ (.int .i64 u)).alloc (.cells #[.pointer (some ⟨wm.heap.size, 0, none⟩)] 24) = W1 := ⟨_, rfl⟩
    have hbx := cell_new_l (wc.setCell ⟨tg, i * 2 + 1, none⟩ (.int .i64 u)) (.pointer (some ⟨wm.heap.size, 0, none⟩)) 24
    have hT1 := hT.below ((Below.refl _ _).alloc (Nat.le_refl _) (.cells #[.pointer (some ⟨wm.heap.size, 0, none⟩)] 24))
    have hB1 : Below w.heap.size w ((wc.setCell ⟨tg, i * 2 + 1, none⟩ (.int .i64 u)).alloc (.cells #[.pointer (some ⟨wm.heap.size, 0, none⟩)] 24)) := by
      have x1 : Below w.heap.size w (wc.setCell ⟨tg, i * 2 + 1, none⟩ (.int .i64 u)) := hBc.setCell (p := ⟨tg, i * 2 + 1, none⟩) (by show w.heap.size ≤ tg; omega) _
      exact x1.alloc (by rw [hsw]; exact hBc.size) _
    have hR1 : Boxed ((wc.setCell ⟨tg, i * 2 + 1, none⟩ (.int .i64 u)).alloc (.cells #[.pointer (some ⟨wm.heap.size, 0, none⟩)] 24)) w.heap.size 25 (.int .i64 0) := by
      have x2 : Boxed (wc.setCell ⟨tg, i * 2 + 1, none⟩ (.int .i64 u)) w.heap.size 25 (.int .i64 0) := (Below.heap_setCell wc ⟨tg, i * 2 + 1, none⟩ _ w.heap.size (by show w.heap.size ≠ tg; omega)).trans hbR6
      exact x2.alloc _
    have hs1 : ((wc.setCell ⟨tg, i * 2 + 1, none⟩ (.int .i64 u)).alloc (.cells #[.pointer (some ⟨wm.heap.size, 0, none⟩)] 24)).heap.size = wc.heap.size + 1 := by rw [World.size_alloc, hsw]
    rw [hsw] at hbx
    rw [hW1] at hbx hT1 hB1 hR1 hs1
    have hrw : Hid ((wc.setCell ⟨tg, i * 2 + 1, none⟩ (.int .i64 u)).alloc (.cells #[.pointer (some ⟨wm.heap.size, 0, none⟩)] 24) = W1) := hW1
    try simp only [hsw]
    rw [hW1]
    clear hW1 hT q1 q2 q3 q4 hsw
    refine (wpIn_wide (n := 5)).1 ?_
    refine' wpIn_rangeFunc_ownF (F := Fence.wide) (n := 5) rfl (by omega) (gf := 42) (lb := #[.pointer (some ⟨wc.heap.size, 0, none⟩)]) rfl trivial (enters_of Try.func42 (by kernel_rfl) rfl)
      (periods_stops Fence.wide 4 trivial rfl (by omega) wc.heap.size W1.heap.size wm.heap.size tg ms.length 0 0 (fixed ms i u) false hbn W1 hT1 (Nat.le_refl _) hT1.glt hbx.1 (by omega)) belowK_t (belowK_b (Nat.le_refl _)) (Below.refl _ _) (fun _ => rfl)
      (fun pre W => (∀ x ∈ pre, okBal x) ∧ Below W1.heap.size W1 W)
      (fun c pre W => (c = .ret ∧ ∃ x ∈ pre, ¬ okBal x) ∧ (Boxed W w.heap.size 25 (.int .i64 21) ∧ Below w.heap.size w W))
      (OwnFrom.and (ownFrom_pure _ (fun pre => ∀ x ∈ pre, okBal x)) (ownFrom_below (Nat.le_refl _) (Nat.le_refl _)))
      (fun c => OwnFrom.and (ownFrom_pure _ (fun pre => c = .ret ∧ ∃ x ∈ pre, ¬ okBal x)) (OwnFrom.and (Own.from (boxed_own _ _ _) _) (ownFrom_below (by omega) hB1.size)))
      ⟨by simp, Below.refl _ _⟩ _ ?assign ?body ?done ?stop
    case assign =>
      intro l x W K hK
      gi_wp2
      exact hK
    case body =>
      rintro l pre x W ⟨hpre, hB⟩ _
      have hRW : Boxed W w.heap.size 25 (.int .i64 0) := (hB.block _ (by omega)).trans hR1
      have d1 := hRW.cell
      have d2 := hRW.frozen
      by_cases hx : 0 ≤ x.2 ∧ x.2 ≤ 1000000000000
      · have Hx := within_yes x.2 0 1000000000000 W hx.1 hx.2
        have hx' : Hid (okBal x) := hx
        clear hx
        gi_wp2_with (refine ⟨trivial, ?_⟩; gi_at_call 26; refine (CallsIn.inRound l (callsIn_wide.2 Hx)).mono ?_; rintro e w' ⟨rfl, rfl⟩)
        exact ⟨KeepsOthers.refl _, Below.refl _ _, fun y hy => (List.mem_append.1 hy).elim (hpre y) (fun h => by simp at h; subst h; exact hx'.out), hB⟩
      · have Hx := within_no x.2 0 1000000000000 W (by omega)
        have hx' : Hid (¬ okBal x) := hx
        clear hx
        gi_wp2_with (refine ⟨trivial, ?_⟩; gi_at_call 26; refine (CallsIn.inRound l (callsIn_wide.2 Hx)).mono ?_; rintro e w' ⟨rfl, rfl⟩)
        exact ⟨KeepsOthers.setCell _ _ _, ⟨rfl, x, by simp, hx'.out⟩, hRW.set _, (hB1.trans (hB.mono hB1.size)).setCell (by simp) _⟩
    case done =>
      rintro D ys W hD rfl ⟨hall, hB⟩ hK
      have hBW := hB1.trans (hB.mono hB1.size)
      have hAd := hA.below hBW
      have hTd := hT1.below hB
      have hRW : Boxed W w.heap.size 25 (.int .i64 0) := (hB.block _ (by omega)).trans hR1
      have d1 := hRW.cell
      have d2 := hRW.frozen
      have a2 := hAd.c2
      have a3 := hAd.fr 2
      have t2 := hTd.c2
      have hfl := fixed_length ms i u
      rw [hfl] at t2
      have hmv := hAd.moved hTd (by omega)
      rw [hfl] at hmv
      have Hmv := Lib.hid hmv
      have Hall : Hid (allIn (fixed ms i u)) := hall
      have hlt1 := hT1.glt
      have hbR1 : b ≠ w.heap.size := by omega
      have HR := Lib.hid hRW
      clear hmv hall hfl hTd hAd hRW
      go_wp2_with fail
      have hRs : ((W.setCell ⟨b, 2, none⟩ (.slice (some ⟨tg, 0, none⟩) ms.length ms.length)).setCell ⟨w.heap.size, 0, none⟩ (.int .i64 0)).heap[w.heap.size]? = some (.cells #[.int .i64 0] 25 (0, 0)) := by
        have x1 : (W.setCell ⟨b, 2, none⟩ (.slice (some ⟨tg, 0, none⟩) ms.length ms.length)).heap[w.heap.size]? = some (.cells #[.int .i64 0] 25 (0, 0)) := (Below.heap_setCell W ⟨b, 2, none⟩ _ w.heap.size (by show w.heap.size ≠ b; omega)).trans HR.out
        rw [heap_setCell_same _ _ _ _ _ _ _ x1]; rfl
      have hK' := ((KeepsOthers.setCell W ⟨b, 2, none⟩ (.slice (some ⟨tg, 0, none⟩) ms.length ms.length)).trans (KeepsOthers.setCell _ ⟨w.heap.size, 0, none⟩ (.int .i64 0))).same D _ hK rfl
      refine ⟨by simp, .inl ⟨_, _, rfl, run_takeDeferred hK', ?_⟩⟩
      have hc5 := cell_kept (Boxed.cell hRs) (grownBy_putObj' _ D (.deferred none)) (fun r e => by cases e; exact ⟨_, hK', rfl⟩)
      have hg1 := grownBy_putObj' ((W.setCell ⟨b, 2, none⟩ (.slice (some ⟨tg, 0, none⟩) ms.length ms.length)).setCell ⟨w.heap.size, 0, none⟩ (.int .i64 0)) D (.deferred none)
      have hX2 := Hmv.out.chg ((Chg.refl [w.heap.size] _).setCell (p := ⟨w.heap.size, 0, none⟩) (.inl (by simp)) (.int .i64 0)) (by simp; omega) (by simp; omega)
      have hX3 := hX2.chg (S := [D]) ((Chg.refl [D] _).grown hg1 (.inl (by simp))) (by simp; omega) (by simp; omega)
      refine ⟨.int .i64 0, by simp [results, Try.f14, go_sem, hc5], .inl ⟨Hall.out, rfl, tg, hX3, ?_, by omega⟩⟩
      exact (((Below.chg hBW [b]).setCell (p := ⟨b, 2, none⟩) (.inl (by simp)) _).setCell (p := ⟨w.heap.size, 0, none⟩) (.inr (Nat.le_refl _)) _).grown hg1 (.inr (by omega))
    case stop =>
      rintro D c pre W hD ⟨k, hk, rfl⟩ ⟨⟨rfl, x, hx, hbad⟩, hbR', hB⟩ hK
      refine (wpIn_wide (n := 5)).2 ?_
      go_wp2_with fail
      refine ⟨by simp, .inl ⟨_, _, rfl, run_takeDeferred hK, ?_⟩⟩
      have hc5 := cell_kept hbR'.cell (grownBy_putObj' _ D (.deferred none)) (fun r e => by cases e; exact ⟨_, hK, rfl⟩)
      refine ⟨.int .i64 21, by simp [results, Try.f14, go_sem, hc5], .inr ⟨fun h => hbad (h x (pers_mem _ hk hx)), rfl, ?_⟩⟩
      exact hB.trans (belowK_b (w := w) (Nat.le_refl _) W D _ _ (by omega) hK rfl rfl)
end Go.Proofs.Ytodnnfdglkidgaa
