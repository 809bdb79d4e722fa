/- The interest of an account. -/
import Derived.Test.YtodnnfdglkidgaaB
import Derived.Test.YtodnnfdglkidgaaTot
import Derived.Sort.CutIn
import Derived.RangeFuncBox
set_option linter.unusedVariables false
namespace Go.Proofs.Ytodnnfdglkidgaa
open Go.RowKit Go.Shelf
attribute [local go_sem] Oper.semAt_some

theorem lift {F : Fence} (hG : ∀ f, F.fn f) {n : Nat} {P : Program} {f : FuncId} {args : Array Value} {w : World} {R : Ending → World → Prop} (h : Calls P f args w R) : CallsIn { fn := F.fn, alive := false } n P f args w R := by
  have e : F.fn = fun _ => True := funext fun f => propext ⟨fun _ => trivial, fun _ => hG f⟩
  rw [e]
  exact callsIn_wide.2 h
theorem lower {n : Nat} {P : Program} {f : FuncId} {args : Array Value} {w : World} {R : Ending → World → Prop} (h : ∀ F : Fence, (∀ f, F.fn f) → CallsIn { fn := F.fn, alive := false } n P f args w R) : Calls P f args w R :=
  callsIn_wide.1 (h Fence.wide (fun _ => trivial))

set_option maxHeartbeats 400000 in
theorem isDay_yes (d : Int) (w : World) (h1 : 0 ≤ d) (h2 : d ≤ 100000) : Calls Try.prog 27 #[.int .i64 d] w fun e w' => e = .returned (.bool true) ∧ w = w' := by
  go_enter Try.func27, Try.ntmps27
  go_wp2
  go_ret
  exact ⟨rfl, rfl⟩
set_option maxHeartbeats 400000 in
theorem isDay_no (d : Int) (w : World) (h : d < 0 ∨ 100000 < d) : Calls Try.prog 27 #[.int .i64 d] w fun e w' => e = .returned (.bool false) ∧ w = w' := by
  rcases h with h | h
  · go_enter Try.func27, Try.ntmps27
    go_wp2
    go_ret
    exact ⟨rfl, rfl⟩
  · have h' : decide (d ≤ 100000) = false := by simp; omega
    go_enter Try.func27, Try.ntmps27
    go_wp2
    go_ret
    exact ⟨rfl, rfl⟩

theorem three_boxes (w : World) (t : TypeId) (a b c : Value) : Boxed (((w.alloc (.cells #[a] t)).alloc (.cells #[b] t)).alloc (.cells #[c] t)).drew w.heap.size t a ∧
    Boxed (((w.alloc (.cells #[a] t)).alloc (.cells #[b] t)).alloc (.cells #[c] t)).drew (w.heap.size + 1) t b ∧ Boxed (((w.alloc (.cells #[a] t)).alloc (.cells #[b] t)).alloc (.cells #[c] t)).drew (w.heap.size + 1 + 1) t c := by
  have h1 := Boxed.new w t a
  have h2 := Boxed.new (w.alloc (.cells #[a] t)) t b
  have h3 := Boxed.new ((w.alloc (.cells #[a] t)).alloc (.cells #[b] t)) t c
  simp only [World.size_alloc] at h2 h3
  exact ⟨(h1.alloc _).alloc _, h2.alloc _, h3⟩
theorem three_below (w : World) (A B C : Obj) : Below w.heap.size w (((w.alloc A).alloc B).alloc C).drew :=
  ((((Below.refl _ w).alloc (Nat.le_refl _) _).alloc (by simp) _).alloc (by simp; omega) _).drew

set_option maxRecDepth 100000 in
set_option maxHeartbeats 2000000 in
theorem interest_in (F : Fence) (hG : ∀ f, F.fn f) (n : Nat) (hn : 5 ≤ n) (b g cap : Nat) (r v : Int) (ms : List (Int × Int)) (cl : Bool) (hgd : Good ms) (hr1 : 0 ≤ r) (hr2 : r ≤ 10000) (hv1 : 0 ≤ v) (hv2 : v ≤ 10000) (day : Int) (vo : Bool) (hd1 : 0 ≤ day) (hd2 : day ≤ 100000) (w : World) (hA : Acc 58 55 w b g cap r v ms cl) (hE : errTwo cl ms day = 0) :
    CallsIn { fn := F.fn, alive := false } n Try.prog 12 #[.pointer (some ⟨b, 0, none⟩), .int .i64 day, .bool vo] w fun e W' => e = .returned (.tuple #[.int .i64 (interestOf (if vo then v else r) (total ms day)), .int .i64 0]) ∧ Below w.heap.size w W' := by
  have h1 : 1 ≤ n := by omega
  have hl1 := hgd.len1
  have hBn := hgd.bnd
  have H1 := Lib.hid (first2_any w.heap.size b g cap r v ms cl hl1 hBn.len day 0 false)
  have HE := Lib.hid hE
  have hlast : dayAt ms (ms.length - 1) ≤ day := by
    have : ¬ day < dayAt ms (ms.length - 1) := by
      intro h
      unfold errTwo at hE
      rw [errOrder_yes ms day h] at hE
      cases cl <;> simp at hE
    omega
  clear hE
  have HG := Lib.hid hgd
  clear hgd
  refine callsIn_of_wp_marks Try.func12 rfl (hG _) ?_ rfl
  simp only [Try.ntmps12, List.size_toArray, List.length_cons, List.length_nil, Nat.reduceAdd, Nat.reduceSub, Array.replicate_succ, Array.replicate_zero, List.push_toArray, List.append_toArray, List.nil_append, List.cons_append]
  gi_wp2_with (first | (gi_at_call 27; refine (lift hG (isDay_yes day _ hd1 hd2)).mono ?_; rintro e w' ⟨rfl, rfl⟩))
  refine (lift hG (H1.out _ (hA.below ((Below.refl _ w).alloc (Nat.le_refl _) _)) ?_ ?_)).mono ?_
  · rw [cell_of_row _ _ 0 _ _ _ (heap_alloc_new w _)]; rfl
  · rw [cell_of_row _ _ 1 _ _ _ (heap_alloc_new w _)]; rfl
  rw [HE.out]
  rintro e w1 ⟨rfl, hb1⟩
  have hB1 : Below w.heap.size w w1 := ((Below.refl _ w).alloc (Nat.le_refl _) _).trans (hb1.mono (by simp))
  have hs1 : w.heap.size < w1.heap.size := by have := hb1.size; simp at this; omega
  clear hb1
  have hA1 := hA.below hB1
  have hc2 := hA1.c2
  have hd0 := hA1.day 0 (by omega)
  simp only [Nat.zero_mul] at hd0
  have hbl := hA1.blt
  have hgl := hA1.glt
  have hbl' : b < w1.heap.size + 1 := by omega
  have hgl' : g < w1.heap.size + 1 := by omega
  have hbl'' : b < w1.heap.size + 1 + 1 := by omega
  have hgl'' : g < w1.heap.size + 1 + 1 := by omega
  gi_upto_region 6 with fail
  gi_cut [9, 10, 11] from 34 (fun t s h w2 => ∃ T S H : Nat, t = .pointer (some ⟨T, 0, none⟩) ∧ s = .pointer (some ⟨S, 0, none⟩) ∧ h = .pointer (some ⟨H, 0, none⟩) ∧ T ≠ S ∧ T ≠ H ∧ S ≠ H ∧ w.heap.size < T ∧ w.heap.size < S ∧ w.heap.size < H ∧
    Boxed w2 T 3 (.int .i64 0) ∧ Boxed w2 S 3 (.int .i64 (dayAt ms 0)) ∧ Boxed w2 H 3 (.int .i64 0) ∧ Below w.heap.size w w2)
  case first =>
    have key := three_boxes w1 3
    have kb := three_below w1
    gi_region
    all_goals (gi_wp2_with fail; gi_meet)
    all_goals (refine ⟨_, _, _, rfl, rfl, rfl, by omega, by omega, by omega, by omega, by omega, by omega, ?_, ?_, ?_, hB1.trans ((kb _ _ _).mono hB1.size)⟩)
    all_goals first | exact (key _ _ _).1 | exact (key _ _ _).2.1 | exact (key _ _ _).2.2
  case rest =>
    obtain ⟨T, S, H, rfl, rfl, rfl, hTS, hTH, hSH, hT, hS, hH, bT, bS, bH, hBc⟩ := hcut
    have hAc := hA.below hBc
    gi_wp2_with (gi_at_call 31; refine (periods_in { fn := F.fn, alive := false } (n - 1) (hG _) rfl _ _).mono ?_; rintro e w' ⟨rfl, rfl⟩)
    have hsz := hBc.size
    have hb := cell_new_l wc (.pointer (some ⟨b, 0, none⟩)) 24
    have hB2 : Below w.heap.size w (wc.alloc (.cells #[.pointer (some ⟨b, 0, none⟩)] 24)) := hBc.alloc hsz _
    refine' wpIn_rangeFunc_ownF rfl h1 (gf := 42) (lb := #[.pointer (some ⟨wc.heap.size, 0, none⟩)]) rfl (hG 42) (enters_of Try.func42 (by kernel_rfl) rfl)
      (periods_stops { fn := F.fn, alive := false } (n - 1) (hG _) rfl (by omega) wc.heap.size w.heap.size b g cap r v ms cl hBn _ (hA.below hB2) (by simp; omega) hA.glt hb.1 (by simp)) belowK_t (belowK_b (by simp; omega)) (Below.refl _ _) (fun _ => rfl)
      (fun pre W => ((Boxed W T 3 (.int .i64 (wT (dayAt ms 0) pre)) ∧ Boxed W S 3 (.int .i64 (wS (dayAt ms 0) pre))) ∧ Boxed W H 3 (.int .i64 (wH (dayAt ms 0) pre))) ∧ Below w.heap.size w W)
      (fun _ _ _ => False)
      (OwnFrom.and (OwnFrom.and (OwnFrom.and (Own.from (boxed_own _ _ _) _) (Own.from (boxed_own _ _ _) _)) (Own.from (boxed_own _ _ _) _)) (ownFrom_below (Nat.le_refl _) (by simp; omega)))
      (fun _ _ _ _ _ hs _ _ => hs)
      ⟨⟨⟨bT.alloc _, bS.alloc _⟩, bH.alloc _⟩, hB2⟩ _ ?assign ?body ?done ?stop
    case assign =>
      intro l x W K hK
      gi_wp2
      exact hK
    case body =>
      rintro l pre x W ⟨⟨⟨cT, cS⟩, cH⟩, hB⟩ _
      have cT1 := cT.cell
      have cS1 := cS.cell
      have cH1 := cH.cell
      have cT2 := cT.frozen
      have cS2 := cS.frozen
      have cH2 := cH.frozen
      gi_wp2
      exact ⟨(KeepsOthers.setCell _ _ _).trans ((KeepsOthers.setCell _ _ _).trans (KeepsOthers.setCell _ _ _)),
        (((Below.refl w.heap.size W).setCell (p := ⟨T, 0, none⟩) (by simp; omega) _).setCell (p := ⟨S, 0, none⟩) (by simp; omega) _).setCell (p := ⟨H, 0, none⟩) (by simp; omega) _,
        ⟨⟨by rw [wT_snoc]; exact ((cT.set _).other hTS _).other hTH _, by rw [wS_snoc]; exact ((cS.other hTS.symm _).set _).other hSH _⟩, by rw [wH_snoc]; exact ((cH.other hTH.symm _).other hSH.symm _).set _⟩,
        ((hB.setCell (p := ⟨T, 0, none⟩) (by simp; omega) _).setCell (p := ⟨S, 0, none⟩) (by simp; omega) _).setCell (p := ⟨H, 0, none⟩) (by simp; omega) _⟩
    case done =>
      rintro D ys W hD rfl ⟨⟨⟨cT, cS⟩, cH⟩, hB⟩ hK
      obtain ⟨i1, i2, i3, i4, i5, i6⟩ := tot_eq HG.out ms.length (Nat.le_refl _)
      have hdl := HG.out.day (ms.length - 1) (by omega)
      have hbl := HG.out.bal ms.length (Nat.le_refl _)
      have hd0 := HG.out.day 0 (by omega)
      have hp := prod_bd (balTo ms ms.length) (day - dayAt ms (ms.length - 1)) 1000000000000 hbl.1 hbl.2 (by omega)
      have htb := total_bd HG.out day hlast hd2
      have hqr := interest_bd r _ hr1 hr2 htb.1 htb.2
      have hqv := interest_bd v _ hv1 hv2 htb.1 htb.2
      rw [i1] at cT
      rw [i2] at cS
      rw [i3] at cH
      have hz : Hid (total ms day = tot ms ms.length + balTo ms ms.length * (day - dayAt ms (ms.length - 1))) := rfl
      rw [hz.out] at hqr hqv htb
      have HRr : Hid (interestOf r (total ms day) = (tot ms ms.length + balTo ms ms.length * (day - dayAt ms (ms.length - 1))) / 3650000 * r + (tot ms ms.length + balTo ms ms.length * (day - dayAt ms (ms.length - 1))) % 3650000 * r / 3650000) := rfl
      have HRv : Hid (interestOf v (total ms day) = (tot ms ms.length + balTo ms ms.length * (day - dayAt ms (ms.length - 1))) / 3650000 * v + (tot ms ms.length + balTo ms ms.length * (day - dayAt ms (ms.length - 1))) % 3650000 * v / 3650000) := rfl
      clear hz i1 i2 i3
      generalize tot ms ms.length = T0 at *
      generalize balTo ms ms.length = B0 at *
      generalize dayAt ms (ms.length - 1) = L0 at *
      obtain ⟨hp1, hp2⟩ := hp
      obtain ⟨hd1', hd2'⟩ := hdl
      obtain ⟨hb1', hb2'⟩ := hbl
      obtain ⟨⟨hr3, hr4⟩, hr5, hr6⟩ := hqr
      obtain ⟨⟨hv3, hv4⟩, hv5, hv6⟩ := hqv
      obtain ⟨ht1, ht2⟩ := htb
      have hp3 : B0 * (day - L0) ≤ 100000000000000000 := by omega
      have cT1 := cT.cell
      have cS1 := cS.cell
      have cH1 := cH.cell
      have cT2 := cT.frozen
      have hAd := hA.below hB
      have hTne : b ≠ T := by have := hA.blt; omega
      have ha0 := hAd.c0
      have ha1 := hAd.c1
      clear hAd hAc hS hH hTS hTH hSH bT bS bH cT cS cH hb
      cases vo
      · gi_wp2
        have hK' := (KeepsOthers.setCell W ⟨T, 0, none⟩ (.int .i64 (T0 + B0 * (day - L0)))).same D _ hK rfl
        refine ⟨by simp, .inl ⟨_, _, rfl, run_takeDeferred hK', ?_⟩⟩
        exact ⟨_, results_tmp2 rfl _ _ _, by have h := HRr.out; simp [h], (hB.setCell (p := ⟨T, 0, none⟩) (by simp; omega) _).trans (belowK_b (w := w) (Nat.le_refl _) _ D _ _ (by simp at hD; omega) hK' rfl rfl)⟩
      · gi_wp2
        have hK' := (KeepsOthers.setCell W ⟨T, 0, none⟩ (.int .i64 (T0 + B0 * (day - L0)))).same D _ hK rfl
        refine ⟨by simp, .inl ⟨_, _, rfl, run_takeDeferred hK', ?_⟩⟩
        exact ⟨_, results_tmp2 rfl _ _ _, by have h := HRv.out; simp [h], (hB.setCell (p := ⟨T, 0, none⟩) (by simp; omega) _).trans (belowK_b (w := w) (Nat.le_refl _) _ D _ _ (by simp at hD; omega) hK' rfl rfl)⟩
    case stop =>
      rintro D c pre W _ _ h _
      exact h.elim
theorem interest_ok (b g cap : Nat) (r v : Int) (ms : List (Int × Int)) (cl : Bool) (hgd : Good ms) (hr1 : 0 ≤ r) (hr2 : r ≤ 10000) (hv1 : 0 ≤ v) (hv2 : v ≤ 10000) (day : Int) (vo : Bool) (hd1 : 0 ≤ day) (hd2 : day ≤ 100000) (w : World) (hA : Acc 58 55 w b g cap r v ms cl) (hE : errTwo cl ms day = 0) :
    Calls Try.prog 12 #[.pointer (some ⟨b, 0, none⟩), .int .i64 day, .bool vo] w fun e W' => e = .returned (.tuple #[.int .i64 (interestOf (if vo then v else r) (total ms day)), .int .i64 0]) ∧ Below w.heap.size w W' :=
  lower fun F hG => interest_in F hG 5 (by omega) b g cap r v ms cl hgd hr1 hr2 hv1 hv2 day vo hd1 hd2 w hA hE

set_option maxHeartbeats 400000 in
theorem interest_nil (day : Int) (vo : Bool) (w : World) : Calls Try.prog 12 #[.pointer none, .int .i64 day, .bool vo] w fun e w' => e = .returned (.tuple #[.int .i64 0, .int .i64 1]) ∧ w = w' := by
  go_enter Try.func12, Try.ntmps12
  go_wp2
  go_ret2
  exact ⟨rfl, rfl⟩
set_option maxHeartbeats 400000 in
theorem interest_arg (p : Addr) (day : Int) (vo : Bool) (w : World) (h : day < 0 ∨ 100000 < day) : Calls Try.prog 12 #[.pointer (some p), .int .i64 day, .bool vo] w fun e w' => e = .returned (.tuple #[.int .i64 0, .int .i64 1]) ∧ w = w' := by
  have hD := isDay_no day w h
  clear h
  go_enter Try.func12, Try.ntmps12
  go_wp2_with (go_at_call 27; refine hD.mono ?_; rintro e w' ⟨rfl, rfl⟩)
  go_ret2
  exact ⟨rfl, rfl⟩
set_option maxHeartbeats 400000 in
theorem interest_err (b g cap : Nat) (r v : Int) (ms : List (Int × Int)) (cl : Bool) (hgd : Good ms) (day : Int) (vo : Bool) (hd1 : 0 ≤ day) (hd2 : day ≤ 100000) (w : World) (hA : Acc 58 55 w b g cap r v ms cl) (hE : errTwo cl ms day ≠ 0) :
    Calls Try.prog 12 #[.pointer (some ⟨b, 0, none⟩), .int .i64 day, .bool vo] w fun e W' => e = .returned (.tuple #[.int .i64 0, .int .i64 (errTwo cl ms day)]) ∧ Below w.heap.size w W' := by
  have H1 := Lib.hid (first2_any w.heap.size b g cap r v ms cl hgd.len1 hgd.bnd.len day 0 false)
  have hD := isDay_yes day w hd1 hd2
  have hne : (errTwo cl ms day != 0) = true := by simp [hE]
  generalize errTwo cl ms day = E at *
  clear hE hd1 hd2 hgd
  go_enter Try.func12, Try.ntmps12
  go_wp2_with (go_at_call 27; refine hD.mono ?_; rintro e w' ⟨rfl, rfl⟩)
  refine (H1.out _ (hA.below ((Below.refl _ w).alloc (Nat.le_refl _) _)) ?_ ?_).mono ?_
  · rw [cell_of_row _ _ 0 _ _ _ (heap_alloc_new w _)]; rfl
  · rw [cell_of_row _ _ 1 _ _ _ (heap_alloc_new w _)]; rfl
  rintro e w1 ⟨rfl, hb1⟩
  have hB1 : Below w.heap.size w w1 := ((Below.refl _ w).alloc (Nat.le_refl _) _).trans (hb1.mono (by simp))
  clear hb1
  go_wp2_with fail
  go_ret2
  exact ⟨rfl, hB1⟩
end Go.Proofs.Ytodnnfdglkidgaa
