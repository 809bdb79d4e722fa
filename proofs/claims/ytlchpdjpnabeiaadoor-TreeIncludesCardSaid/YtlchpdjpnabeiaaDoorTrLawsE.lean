import Derived.Test.YtlchpdjpnabeiaaDoorTrLawsD
import Derived.Test.YtlchpdjpnabeiaaDoorTrFk
import Derived.BigQuiet
import Derived.Lib.QuietBelow
set_option linter.unusedVariables false
namespace Go.Proofs.YtlchpdjpnabeiaaDoor
open Go Go.RowKit Go.Sort

theorem path_le (l : List ByteArray) (i : Nat) : (pathT l i).length ≤ nd l.length := by
  rw [path_length]; exact len_le _ _ _ (nd_pow _)
theorem check_long {l : List ByteArray} {i : Nat} {s : ByteArray} {R : ByteArray} {x : ByteArray} : checkT R l.length i s (pathT l i ++ [x]) = false := by
  cases h : checkT R l.length i s (pathT l i ++ [x]) with
  | false => rfl
  | true =>
    have := check_len h
    simp only [Int.toNat_natCast] at this
    rw [List.length_append, path_length] at this
    simp at this
theorem check_short {l : List ByteArray} {i : Nat} {s : ByteArray} {R : ByteArray} (hp : 0 < (pathT l i).length) : checkT R l.length i s ((pathT l i).take ((pathT l i).length - 1)) = false := by
  cases h : checkT R l.length i s ((pathT l i).take ((pathT l i).length - 1)) with
  | false => rfl
  | true =>
    have := check_len h
    simp only [Int.toNat_natCast] at this
    rw [List.length_take, path_length] at this
    rw [path_length] at hp
    omega
theorem path_sz2 (l : List ByteArray) (i : Nat) (p : List ByteArray) (h : ∀ s ∈ p, s ∈ pathT l i ∨ s.size = 16) : ∀ s ∈ p, s.size ≤ 1099511627776 := fun s hs => by
  rcases h s hs with h | h
  · have := isS_size (List.all_eq_true.1 (path_isS l i) s h)
    omega
  · omega
theorem path_sz (l : List ByteArray) (i : Nat) : ∀ s ∈ pathT l i, s.size ≤ 1099511627776 := fun s hs => by
  have := isS_size (List.all_eq_true.1 (path_isS l i) s hs)
  omega
theorem lenT_zero {n : Nat} (h : 1 ≤ n) (i : Nat) : lenT n i = 0 ↔ n = 1 := by
  constructor
  · intro e
    rcases Nat.lt_or_ge n 2 with h2 | h2
    · omega
    · have := len_pos h2 i; omega
  · intro e; subst e; exact len_one i
set_option maxRecDepth 100000 in
set_option maxHeartbeats 8000000 in
theorem includes_law (va : Value) (l : List ByteArray) (r : Nat) (w : World) (ha : IsStrC w va l) (hr : r ≤ 255) (hT : Tabs w) :
    Calls Tryd.prog 3 #[va, .int .u8 (r : Int)] w (HeadPost w) := by
  have HT := Lib.hid hT
  have HA := Lib.hid ha
  clear hT
  cases hfa : fewL l with
  | false =>
    have HFA := Lib.hid hfa
    obtain ⟨aA, cA, rfl⟩ := strc_form ha
    clear hfa ha
    have H0 : Hid (Below w.heap.size w w) := Lib.hid (Below.refl w.heap.size w)
    have HA0 := Lib.hid HA.out
    go_enter Tryd.func3, Tryd.ntmps3
    go_wp2_with fail
    refine (head_calls w (HT.out.on H0.out)).mono ?_
    rintro e w1 ⟨rfl, hB⟩
    have H1 := Lib.hid (H0.out.trans (hB.mono H0.out.size))
    have HA1 := Lib.hid (HA0.out.on hB)
    clear hB H0 HA0
    go_wp2_with fail
    refine (few02_calls _ l w1 HA1.out).mono ?_
    rintro e w2 ⟨rfl, rfl⟩
    have H2 := Lib.hid H1.out
    have HA2 := Lib.hid HA1.out
    clear H1 HA1
    rw [HFA.out]
    go_wp2
    go_ret
    exact ⟨rfl, H2.out⟩
  | true =>
    have HLA := Lib.hid (fewL_len hfa)
    have HFA := Lib.hid hfa
    have hla := HLA.out.1
    clear hfa
    by_cases h0 : l.length = 0
    · obtain ⟨aA, cA, rfl⟩ := strc_form ha
      clear ha
      have hd0 : ((l.length : Int) == 0) = true := by rw [h0]; rfl
      clear h0
      have H0 : Hid (Below w.heap.size w w) := Lib.hid (Below.refl w.heap.size w)
      have HA0 := Lib.hid HA.out
      go_enter Tryd.func3, Tryd.ntmps3
      go_wp2_with fail
      refine (head_calls w (HT.out.on H0.out)).mono ?_
      rintro e w1 ⟨rfl, hB⟩
      have H1 := Lib.hid (H0.out.trans (hB.mono H0.out.size))
      have HA1 := Lib.hid (HA0.out.on hB)
      clear hB H0 HA0
      go_wp2_with fail
      refine (few02_calls _ l w1 HA1.out).mono ?_
      rintro e w2 ⟨rfl, rfl⟩
      have H2 := Lib.hid H1.out
      have HA2 := Lib.hid HA1.out
      clear H1 HA1
      rw [HFA.out]
      go_wp2
      go_ret
      exact ⟨rfl, H2.out⟩
    · obtain ⟨b, o, cA, rfl, hlc, hcm⟩ := strc_some ha (by omega)
      have hbw : b < w.heap.size := by
        obtain ⟨ao, c, e, _, _, hc⟩ := ha
        cases e
        obtain ⟨b', o', e, hlt, _⟩ := hc 0 (by omega)
        cases e
        exact hlt
      clear ha
      obtain ⟨n, hn⟩ : ∃ n, n = l.length := ⟨_, rfl⟩
      have HN : Hid (l.length = n) := Lib.hid hn.symm
      rw [← hn] at HA hla h0 hlc ⊢
      clear hn
      have hd0 : ((n : Int) == 0) = false := by rw [beq_eq_false_iff_ne]; omega
      have hn0 : 0 < n := by omega
      obtain ⟨i, hi⟩ : ∃ i, i = r % n := ⟨_, rfl⟩
      have hin : i < n := by rw [hi]; exact Nat.mod_lt _ (by omega)
      have hmod : (r : Int) % (n : Int) = (i : Int) := by rw [hi]; rfl
      have hil : i < l.length := by rw [HN.out]; exact hin
      have HIL := Lib.hid hil
      obtain ⟨t, ht⟩ : ∃ t, t = l.getD i ByteArray.empty := ⟨_, rfl⟩
      have HT2 := Lib.hid ht
      have hts : t.size ≤ 100 := by rw [ht]; exact getD_size HLA.out.2 i
      have HC1 : Hid (checkT (rootT l) n i t (pathT l i) = true) := Lib.hid (by
        have := check_path l i hil (by have := HN.out; omega)
        rw [HN.out] at this
        rw [ht]; exact this)
      have HC2 : Hid (∀ x, checkT (rootT l) n i t (pathT l i ++ [x]) = false) := Lib.hid (fun x => by
        have := check_long (l := l) (i := i) (s := t) (R := rootT l) (x := x)
        rw [HN.out] at this
        exact this)
      obtain ⟨q, hq⟩ : ∃ q, q = (pathT l i).length := ⟨_, rfl⟩
      have HQ : Hid ((pathT l i).length = q) := Lib.hid hq.symm
      have hqd : q ≤ nd n := by rw [hq]; have := path_le l i; rw [HN.out] at this; exact this
      have HQ1 : Hid (q = 0 ↔ n = 1) := Lib.hid (by rw [hq, path_length, HN.out]; exact lenT_zero hn0 i)
      have HC3 : Hid (0 < q → checkT (rootT l) n i t ((pathT l i).take (q - 1)) = false) := Lib.hid (fun h => by
        rw [hq] at h ⊢
        have := check_short (l := l) (i := i) (s := t) (R := rootT l) h
        rw [HN.out] at this
        exact this)
      have hnd := nd_le n
      clear hi h0 hil ht hq
      have H0 : Hid (Below w.heap.size w w) := Lib.hid (Below.refl w.heap.size w)
      have HA0 := Lib.hid HA.out
      go_enter Tryd.func3, Tryd.ntmps3
      go_wp2_with fail
      refine (head_calls w (HT.out.on H0.out)).mono ?_
      rintro e w1 ⟨rfl, hB⟩
      have H1 := Lib.hid (H0.out.trans (hB.mono H0.out.size))
      have HA1 := Lib.hid (HA0.out.on hB)
      clear hB H0 HA0
      go_wp2_with fail
      refine (few02_calls _ l w1 HA1.out).mono ?_
      rintro e w2 ⟨rfl, rfl⟩
      have H2 := Lib.hid H1.out
      have HA2 := Lib.hid HA1.out
      clear H1 HA1
      rw [HFA.out]
      go_wp2_with fail
      refine (path_ok l _ i w2 HA2.out (big HLA.out.2 (by decide)) (by have := HN.out; omega) HIL.out (HT.out.on H2.out)).mono ?_
      rintro e w3 ⟨v1, rfl, hp1, hB⟩
      have H3 := Lib.hid (H2.out.trans (hB.mono H2.out.size))
      have HA3 := Lib.hid (HA2.out.on hB)
      have HX3 := Lib.hid hp1
      clear hB H2 HA2
      obtain ⟨ao1, c1, rfl, hqc, hcm1, hz1⟩ := hp1
      clear hz1
      rw [HQ.out] at HX3 hqc
      rw [HQ.out]
      go_wp2_with fail
      have hc3 := strc_cell HA3.out i HIL.out
      rw [← HT2.out] at hc3
      have kc := cell_regrown hc3
      have cR : ∀ d os, Calls Tryd.prog 12 #[.slice (some ⟨b, o, none⟩) n cA] (grow (redrawn w3 d) os) fun e w'' => e = .returned (.string (rootT l)) ∧ ∃ p : Regrown, w'' = grow (redrawn w3 p.d) p.os := fun d os => Calls.regrown_of (root_calls _ l _ _ rfl (HA3.out.on (below_regrown w3 d os)) (big HLA.out.2 (by decide)) (by have := HN.out; omega) ((HT.out.on H3.out).on (below_regrown w3 d os)))
      have cK : ∀ d os, Calls Tryd.prog 11 #[.string (rootT l), .int .i64 (n : Int), .int .i64 (i : Int), .string t, .slice ao1 q c1] (grow (redrawn w3 d) os) fun e w'' => e = .returned (.bool true) ∧ ∃ p : Regrown, w'' = grow (redrawn w3 p.d) p.os := fun d os => Calls.regrown_of (by have := check_calls (rootT l) n i t (.slice ao1 q c1) (pathT l i) (grow (redrawn w3 d) os) (HX3.out.on (below_regrown w3 d os)) (by have := HQ.out; omega) (path_sz l i) (by omega) ((HT.out.on H3.out).on (below_regrown w3 d os)); rw [HC1.out] at this; exact this)
      refine wp_region_quiet_below (by kernel_rfl) (by kernel_rfl) ?_
      repeat (first | go_big_quiet_step ((first | exact cR _ _ | exact cK _ _)) | quiet_step ((first | exact cR _ _ | exact cK _ _)))
      refine wpQuiet_nil ?_
      intro _ hw'
      obtain ⟨⟨dq, osq⟩, hw''⟩ := hw'
      subst hw''
      have hB := below_regrown w3 dq osq
      clear kc hc3 cR cK
      have H4 := Lib.hid (H3.out.trans (hB.mono H3.out.size))
      have HA4 := Lib.hid (HA3.out.on hB)
      have HX4 := Lib.hid (HX3.out.on hB)
      clear hB H3 HA3 HX3
      generalize grow (redrawn w3 dq) osq = w4 at *
      go_wp2_with fail
      go_loop [9, 10] (fun v9 v10 => ∃ d j : Nat, v9 = .int .i64 (d : Int) ∧ v10 = .int .i64 (j : Int) ∧ d ≤ 20 ∧ j ≤ n ∧ Hid (d + nd j = nd n)) (fun _ v10 => (RowKit.intOf v10).toNat)
      case atStart => exact ⟨0, n, rfl, rfl, by omega, Nat.le_refl _, Lib.hid (by omega)⟩
      case round =>
        obtain ⟨d, j, rfl, rfl, hd, hj, HD⟩ := hrel
        by_cases hj0 : 0 < j
        · have HD2 : Hid (d + 1 + nd (j / 2) = nd n) := Lib.hid (by have := HD.out; rw [nd_pos hj0] at this; omega)
          have hdl : d + 1 ≤ 20 := by have := HD2.out; omega
          have hj0' : (0 : Int) < (j : Int) := by omega
          go_wp2
          go_round
          case rel => exact ⟨d + 1, j / 2, by go_num, by congr 1, hdl, by omega, HD2⟩
          case measure => simp only [RowKit.intOf]; omega
        · have hj00 : j = 0 := by omega
          have hdn : d = nd n := by have := HD.out; rw [hj00, nd_zero] at this; omega
          have hq1 : decide ((d : Int) < (q : Int)) = false := decide_eq_false (by omega)
          have hq2 : decide (d < q) = false := decide_eq_false (by omega)
          have hj0' : ¬ (0 : Int) < (j : Int) := by omega
          clear hj00 hdn HD
          go_wp2_with fail
          have hcl := strc_cell HA4.out i HIL.out
          rw [← HT2.out] at hcl
          have hbl : b < w4.heap.size := Nat.lt_of_lt_of_le hbw H4.out.size
          have HCELL := Lib.hid hcl
          clear hcl
          have HXd := Lib.hid (HX4.out.on (Below.refl w4.heap.size w4).drew)
          have HAd := Lib.hid (HA4.out.on (Below.refl w4.heap.size w4).drew)
          have Hd := Lib.hid H4.out.drew
          refine wp_region_free w4.heap.size (fun ii => [valF (.slice ao1 q c1), valF (.int .i64 (q : Int)), valF (.int .i64 (d : Int)), valF (.bool false), valF (.bool false), valF (.slice (some ⟨b, o, none⟩) n cA), valF (.string (rootT l)), valF (.slice (some ⟨b, o, none⟩) n cA), valF (.int .i64 (n : Int)), valF (.int .i64 (i : Int)), valF (.slice (some ⟨b, o, none⟩) n cA), valF (.int .i64 (i : Int)), valF (.pointer (some ⟨b, o + i, none⟩)), valF (.string t), OwnF w4.heap.size [], valF (.slice ao1 q c1), OwnF w4.heap.size (pathT l i), valF (.string (dg [sEmpty])), OwnF w4.heap.size [dg [sEmpty]], OwnF w4.heap.size (pathT l i ++ [dg [sEmpty]]), valF (.bool false), valF (.bool false)].getD ii anyF) (fun jj ii => (jj == 16 && ii == 14) || (jj == 19 && ii == 16)) (by kernel_rfl) (by kernel_rfl) (by kernel_rfl) (by kernel_rfl) (by kernel_rfl) (Nat.le_refl _) ?_ ?_ ?_
          · intro ii hii
            refine AllStable.at ?_ ii
            exact ⟨valF_stable _ _, valF_stable _ _, valF_stable _ _, valF_stable _ _, valF_stable _ _, valF_stable _ _, valF_stable _ _, valF_stable _ _, valF_stable _ _, valF_stable _ _, valF_stable _ _, valF_stable _ _, valF_stable _ _, valF_stable _ _, ownF_stable _ _, valF_stable _ _, ownF_stable _ _, valF_stable _ _, ownF_stable _ _, ownF_stable _ _, valF_stable _ _, valF_stable _ _, trivial⟩
          · refine And.intro (fun u W A hW hBW hd hv => ?_) ?_
            · have t7 : A.eval (.tmp 7) = .slice ao1 q c1 := (hv 7 (by kernel_rfl)).trans (by kernel_rfl)
              clear hd hv
              have s7 := evalT t7
              clear t7
              refine fk_run ?_
              go_simp
            refine And.intro (fun u W A hW hBW hd hv => ?_) ?_
            · have e0 : u 0 = .slice ao1 q c1 := hd 0 (by decide) (by kernel_rfl)
              have t56 : A.eval (.tmp 56) = .slice ao1 q c1 := (hv 56 (by kernel_rfl)).trans ((by kernel_rfl : slotV _ _ _ u 56 = u 0).trans e0)
              clear hd hv
              have s56 := evalT t56
              clear t56
              refine fk_run ?_
              go_simp
            refine And.intro (fun u W A hW hBW hd hv => ?_) ?_
            · have t9 : A.eval (.tmp 9) = .int .i64 (d : Int) := (hv 9 (by kernel_rfl)).trans (by kernel_rfl)
              clear hd hv
              have s9 := evalT t9
              clear t9
              refine fk_run ?_
              go_simp
            refine And.intro (fun u W A hW hBW hd hv => ?_) ?_
            · have e1 : u 1 = .int .i64 (q : Int) := hd 1 (by decide) (by kernel_rfl)
              have e2 : u 2 = .int .i64 (d : Int) := hd 2 (by decide) (by kernel_rfl)
              have t57 : A.eval (.tmp 57) = .int .i64 (q : Int) := (hv 57 (by kernel_rfl)).trans ((by kernel_rfl : slotV _ _ _ u 57 = u 1).trans e1)
              have t58 : A.eval (.tmp 58) = .int .i64 (d : Int) := (hv 58 (by kernel_rfl)).trans ((by kernel_rfl : slotV _ _ _ u 58 = u 2).trans e2)
              clear hd hv
              have s57 := evalT t57
              have s58 := evalT t58
              clear t57 t58
              refine fk_run ?_
              go_simp
            refine And.intro (fun u W A hW hBW hd hv => ?_) ?_
            · have e3 : u 3 = .bool false := hd 3 (by decide) (by kernel_rfl)
              have t59 : A.eval (.tmp 59) = .bool false := (hv 59 (by kernel_rfl)).trans ((by kernel_rfl : slotV _ _ _ u 59 = u 3).trans e3)
              clear hd hv
              have s59 := evalT t59
              clear t59
              refine fk_run ?_
              go_simp
            refine And.intro (fun u W A hW hBW hd hv => ?_) ?_
            · have e4 : u 4 = .bool false := hd 4 (by decide) (by kernel_rfl)
              have t0 : A.eval (.tmp 0) = .slice (some ⟨b, o, none⟩) n cA := (hv 0 (by kernel_rfl)).trans (by kernel_rfl)
              clear hd hv
              have s0 := evalT t0
              clear t0
              refine Or.inl ⟨e4, ?_⟩
              refine fk_run ?_
              go_simp
            refine And.intro (fun u W A hW hBW hd hv => ?_) ?_
            · have e4 : u 4 = .bool false := hd 4 (by decide) (by kernel_rfl)
              have e5 : u 5 = .slice (some ⟨b, o, none⟩) n cA := hd 5 (by decide) (by kernel_rfl)
              have t61 : A.eval (.tmp 61) = .slice (some ⟨b, o, none⟩) n cA := (hv 61 (by kernel_rfl)).trans ((by kernel_rfl : slotV _ _ _ u 61 = u 5).trans e5)
              clear hd hv
              have s61 := evalT t61
              clear t61
              refine Or.inl ⟨e4, ?_⟩
              refine fk_enter (f := 12) (args := #[.slice (some ⟨b, o, none⟩) n cA]) (by go_simp) (fk_val ?_)
              exact root_calls _ l _ W rfl (HAd.out.on hW) (big HLA.out.2 (by decide)) (by have := HN.out; omega) (HT.out.on (Hd.out.trans (hW.mono Hd.out.size)))
            refine And.intro (fun u W A hW hBW hd hv => ?_) ?_
            · have e4 : u 4 = .bool false := hd 4 (by decide) (by kernel_rfl)
              have t0 : A.eval (.tmp 0) = .slice (some ⟨b, o, none⟩) n cA := (hv 0 (by kernel_rfl)).trans (by kernel_rfl)
              clear hd hv
              have s0 := evalT t0
              clear t0
              refine Or.inl ⟨e4, ?_⟩
              refine fk_run ?_
              go_simp
            refine And.intro (fun u W A hW hBW hd hv => ?_) ?_
            · have e4 : u 4 = .bool false := hd 4 (by decide) (by kernel_rfl)
              have e7 : u 7 = .slice (some ⟨b, o, none⟩) n cA := hd 7 (by decide) (by kernel_rfl)
              have t63 : A.eval (.tmp 63) = .slice (some ⟨b, o, none⟩) n cA := (hv 63 (by kernel_rfl)).trans ((by kernel_rfl : slotV _ _ _ u 63 = u 7).trans e7)
              clear hd hv
              have s63 := evalT t63
              clear t63
              refine Or.inl ⟨e4, ?_⟩
              refine fk_run ?_
              go_simp
            refine And.intro (fun u W A hW hBW hd hv => ?_) ?_
            · have e4 : u 4 = .bool false := hd 4 (by decide) (by kernel_rfl)
              have t6 : A.eval (.tmp 6) = .int .i64 (i : Int) := (hv 6 (by kernel_rfl)).trans (by kernel_rfl)
              clear hd hv
              have s6 := evalT t6
              clear t6
              refine Or.inl ⟨e4, ?_⟩
              refine fk_run ?_
              go_simp
            refine And.intro (fun u W A hW hBW hd hv => ?_) ?_
            · have e4 : u 4 = .bool false := hd 4 (by decide) (by kernel_rfl)
              have t0 : A.eval (.tmp 0) = .slice (some ⟨b, o, none⟩) n cA := (hv 0 (by kernel_rfl)).trans (by kernel_rfl)
              clear hd hv
              have s0 := evalT t0
              clear t0
              refine Or.inl ⟨e4, ?_⟩
              refine fk_run ?_
              go_simp
            refine And.intro (fun u W A hW hBW hd hv => ?_) ?_
            · have e4 : u 4 = .bool false := hd 4 (by decide) (by kernel_rfl)
              have t6 : A.eval (.tmp 6) = .int .i64 (i : Int) := (hv 6 (by kernel_rfl)).trans (by kernel_rfl)
              clear hd hv
              have s6 := evalT t6
              clear t6
              refine Or.inl ⟨e4, ?_⟩
              refine fk_run ?_
              go_simp
            refine And.intro (fun u W A hW hBW hd hv => ?_) ?_
            · have e4 : u 4 = .bool false := hd 4 (by decide) (by kernel_rfl)
              have e10 : u 10 = .slice (some ⟨b, o, none⟩) n cA := hd 10 (by decide) (by kernel_rfl)
              have e11 : u 11 = .int .i64 (i : Int) := hd 11 (by decide) (by kernel_rfl)
              have t66 : A.eval (.tmp 66) = .slice (some ⟨b, o, none⟩) n cA := (hv 66 (by kernel_rfl)).trans ((by kernel_rfl : slotV _ _ _ u 66 = u 10).trans e10)
              have t67 : A.eval (.tmp 67) = .int .i64 (i : Int) := (hv 67 (by kernel_rfl)).trans ((by kernel_rfl : slotV _ _ _ u 67 = u 11).trans e11)
              clear hd hv
              have s66 := evalT t66
              have s67 := evalT t67
              clear t66 t67
              refine Or.inl ⟨e4, ?_⟩
              refine fk_run ?_
              go_simp
            refine And.intro (fun u W A hW hBW hd hv => ?_) ?_
            · have e4 : u 4 = .bool false := hd 4 (by decide) (by kernel_rfl)
              have e12 : u 12 = .pointer (some ⟨b, o + i, none⟩) := hd 12 (by decide) (by kernel_rfl)
              have t68 : A.eval (.tmp 68) = .pointer (some ⟨b, o + i, none⟩) := (hv 68 (by kernel_rfl)).trans ((by kernel_rfl : slotV _ _ _ u 68 = u 12).trans e12)
              clear hd hv
              have s68 := evalT t68
              clear t68
              refine Or.inl ⟨e4, ?_⟩
              have hcW : W.cell? ⟨b, o + i, none⟩ = some (.string t) := by rw [hW.cell (p := ⟨b, o + i, none⟩) hbl]; exact HCELL.out
              refine fk_run ?_
              go_simp
            refine And.intro (fun u W A hW hBW hd hv => ?_) ?_
            · have e4 : u 4 = .bool false := hd 4 (by decide) (by kernel_rfl)
              clear hd hv
              refine Or.inl ⟨e4, ?_⟩
              exact fk_step (v := .slice (some ⟨W.heap.size, 0, none⟩) 0 0) (w' := W.alloc (.cells #[] 9)) (by go_simp) (fk_own_of hBW (own_lit W [] (by decide)) ((Below.refl _ _).alloc (Nat.le_refl _) _))
            refine And.intro (fun u W A hW hBW hd hv => ?_) ?_
            · have e4 : u 4 = .bool false := hd 4 (by decide) (by kernel_rfl)
              have t7 : A.eval (.tmp 7) = .slice ao1 q c1 := (hv 7 (by kernel_rfl)).trans (by kernel_rfl)
              clear hd hv
              have s7 := evalT t7
              clear t7
              refine Or.inl ⟨e4, ?_⟩
              refine fk_run ?_
              go_simp
            refine And.intro (fun u W A hW hBW hd hv => ?_) ?_
            · have e4 : u 4 = .bool false := hd 4 (by decide) (by kernel_rfl)
              have e14 : Own w4.heap.size W (u 14) ([]) := hd 14 (by decide) (by kernel_rfl)
              have e15 : u 15 = .slice ao1 q c1 := hd 15 (by decide) (by kernel_rfl)
              have t70 : A.eval (.tmp 70) = u 14 := (hv 70 (by kernel_rfl)).trans (by kernel_rfl)
              have t71 : A.eval (.tmp 71) = .slice ao1 q c1 := (hv 71 (by kernel_rfl)).trans ((by kernel_rfl : slotV _ _ _ u 71 = u 15).trans e15)
              clear hd hv
              refine Or.inl ⟨e4, ?_⟩
              exact fk_append (.tmp 70) (.tmp 71) rfl t70 t71 e14 (HXd.out.on hW) hBW (by have := HQ.out; simp; omega) (fun c hc => ⟨14, by decide, by decide, hc⟩)
            refine And.intro (fun u W A hW hBW hd hv => ?_) ?_
            · have e4 : u 4 = .bool false := hd 4 (by decide) (by kernel_rfl)
              clear hd hv
              refine Or.inl ⟨e4, ?_⟩
              refine fk_enter (f := 12) (args := #[.slice none 0 0]) (by go_simp) (fk_val ?_)
              exact rootnil_calls W (HT.out.on (Hd.out.trans (hW.mono Hd.out.size)))
            refine And.intro (fun u W A hW hBW hd hv => ?_) ?_
            · have e4 : u 4 = .bool false := hd 4 (by decide) (by kernel_rfl)
              have e17 : u 17 = .string (dg [sEmpty]) := hd 17 (by decide) (by kernel_rfl)
              have t73 : A.eval (.tmp 73) = .string (dg [sEmpty]) := (hv 73 (by kernel_rfl)).trans ((by kernel_rfl : slotV _ _ _ u 73 = u 17).trans e17)
              clear hd hv
              have s73 := evalT t73
              clear t73
              refine Or.inl ⟨e4, ?_⟩
              exact fk_step (v := .slice (some ⟨W.heap.size, 0, none⟩) 1 1) (w' := W.alloc (.cells #[.string (dg [sEmpty])] 9)) (by go_simp) (fk_own_of hBW (own_lit W [dg [sEmpty]] (show 1 ≤ maxLen by decide)) ((Below.refl _ _).alloc (Nat.le_refl _) _))
            refine And.intro (fun u W A hW hBW hd hv => ?_) ?_
            · have e4 : u 4 = .bool false := hd 4 (by decide) (by kernel_rfl)
              have e16 : Own w4.heap.size W (u 16) ((pathT l i)) := hd 16 (by decide) (by kernel_rfl)
              have e18 : Own w4.heap.size W (u 18) ([dg [sEmpty]]) := hd 18 (by decide) (by kernel_rfl)
              have t72 : A.eval (.tmp 72) = u 16 := (hv 72 (by kernel_rfl)).trans (by kernel_rfl)
              have t74 : A.eval (.tmp 74) = u 18 := (hv 74 (by kernel_rfl)).trans (by kernel_rfl)
              clear hd hv
              refine Or.inl ⟨e4, ?_⟩
              exact fk_append (.tmp 72) (.tmp 74) rfl t72 t74 e16 e18.strc hBW (by have := HQ.out; simp; omega) (fun c hc => ⟨16, by decide, by decide, hc⟩)
            refine And.intro (fun u W A hW hBW hd hv => ?_) ?_
            · have e4 : u 4 = .bool false := hd 4 (by decide) (by kernel_rfl)
              have e6 : u 6 = .string (rootT l) := hd 6 (by decide) (by kernel_rfl)
              have e8 : u 8 = .int .i64 (n : Int) := hd 8 (by decide) (by kernel_rfl)
              have e9 : u 9 = .int .i64 (i : Int) := hd 9 (by decide) (by kernel_rfl)
              have e13 : u 13 = .string t := hd 13 (by decide) (by kernel_rfl)
              have e19 : Own w4.heap.size W (u 19) ((pathT l i ++ [dg [sEmpty]])) := hd 19 (by decide) (by kernel_rfl)
              have t62 : A.eval (.tmp 62) = .string (rootT l) := (hv 62 (by kernel_rfl)).trans ((by kernel_rfl : slotV _ _ _ u 62 = u 6).trans e6)
              have t64 : A.eval (.tmp 64) = .int .i64 (n : Int) := (hv 64 (by kernel_rfl)).trans ((by kernel_rfl : slotV _ _ _ u 64 = u 8).trans e8)
              have t65 : A.eval (.tmp 65) = .int .i64 (i : Int) := (hv 65 (by kernel_rfl)).trans ((by kernel_rfl : slotV _ _ _ u 65 = u 9).trans e9)
              have t69 : A.eval (.tmp 69) = .string t := (hv 69 (by kernel_rfl)).trans ((by kernel_rfl : slotV _ _ _ u 69 = u 13).trans e13)
              have t75 : A.eval (.tmp 75) = u 19 := (hv 75 (by kernel_rfl)).trans (by kernel_rfl)
              clear hd hv
              have s62 := evalT t62
              have s64 := evalT t64
              have s65 := evalT t65
              have s69 := evalT t69
              have s75 := evalT t75
              clear t62 t64 t65 t69 t75
              refine Or.inl ⟨e4, ?_⟩
              refine fk_enter (f := 11) (args := #[.string (rootT l), .int .i64 (n : Int), .int .i64 (i : Int), .string t, u 19]) (by go_simp) (fk_val ?_)
              have hck := check_calls (rootT l) n i t (u 19) (pathT l i ++ [dg [sEmpty]]) W e19.strc (by rw [List.length_append]; have := HQ.out; simp; omega) (path_sz2 l i _ (fun s hs => by rcases List.mem_append.1 hs with h | h; exact .inl h; right; simp at h; rw [h, dg_size])) (by omega) (HT.out.on (Hd.out.trans (hW.mono Hd.out.size)))
              rw [HC2.out] at hck
              exact hck
            refine And.intro (fun u W A hW hBW hd hv => ?_) ?_
            · have e4 : u 4 = .bool false := hd 4 (by decide) (by kernel_rfl)
              have e20 : u 20 = .bool false := hd 20 (by decide) (by kernel_rfl)
              have t60 : A.eval (.tmp 60) = .bool false := (hv 60 (by kernel_rfl)).trans ((by kernel_rfl : slotV _ _ _ u 60 = u 4).trans e4)
              have t76 : A.eval (.tmp 76) = .bool false := (hv 76 (by kernel_rfl)).trans ((by kernel_rfl : slotV _ _ _ u 76 = u 20).trans e20)
              clear hd hv
              have s60 := evalT t60
              have s76 := evalT t76
              clear t60 t76
              refine fk_run ?_
              go_simp
            exact trivial
          · intro u w5 hb5 hf5
            have e21 : u 21 = .bool false := hf5 21 (by decide) (by decide)
            clear hf5
            have H5 := Lib.hid (Hd.out.trans (hb5.mono Hd.out.size))
            have HA5 := Lib.hid (HAd.out.on hb5)
            have HX5 := Lib.hid (HXd.out.on hb5)
            clear hb5 HXd HAd Hd HCELL H4 HA4 HX4
            simp only [lexPut, Nat.zero_add, Nat.reduceAdd, e21, Act.put, List.setIfInBounds_toArray, List.set_cons_succ, List.set_cons_zero]
            clear e21
            by_cases hq0 : q = 0
            · have hq0' : ((q : Int) == 0) = true := by rw [hq0]; rfl
              have hn1 : ((n : Int) == 1) = true := by rw [HQ1.out.1 hq0]; rfl
              clear hq0
              go_wp2_with fail
              go_quiet (fail)
              go_wp2
              go_ret
              exact ⟨rfl, below_drewN H5.out _⟩
            · have hq0' : ((q : Int) == 0) = false := by rw [beq_eq_false_iff_ne]; omega
              have hn1 : ((n : Int) == 1) = false := by rw [beq_eq_false_iff_ne]; intro e; exact hq0 (HQ1.out.2 (by omega))
              obtain ⟨q1, rfl⟩ : ∃ q1, q = q1 + 1 := ⟨q - 1, by omega⟩
              have hsl := fun W => run_cut (k := q1) HX5.out HQ.out hqc (by omega) W
              have HSL := Lib.hid hsl
              have HC4 : Hid (checkT (rootT l) n i t ((pathT l i).take q1) = false) := Lib.hid (HC3.out (Nat.succ_pos _))
              clear hsl hq0
              go_wp2_with fail
              have hz : ¬ ((q1 : Int) + 1 = 0) := by omega
              have hwr : IntKind.i64.wrap (q1 : Int) = q1 := by have := HQ.out; exact IntWalk.i64_in _ (by omega)
              have hq10 : 0 ≤ (q1 : Int) := by omega
              have hq1c : (q1 : Int) ≤ (c1 : Int) := by omega
              have hc5 := strc_cell HA5.out i HIL.out
              rw [← HT2.out] at hc5
              have kc := cell_regrown hc5
              have cR : ∀ d os, Calls Tryd.prog 12 #[.slice (some ⟨b, o, none⟩) n cA] (grow (redrawn w5 d) os) fun e w'' => e = .returned (.string (rootT l)) ∧ ∃ p : Regrown, w'' = grow (redrawn w5 p.d) p.os := fun d os => Calls.regrown_of (root_calls _ l _ _ rfl (HA5.out.on (below_regrown w5 d os)) (big HLA.out.2 (by decide)) (by have := HN.out; omega) ((HT.out.on H5.out).on (below_regrown w5 d os)))
              have cK : ∀ d os, Calls Tryd.prog 11 #[.string (rootT l), .int .i64 (n : Int), .int .i64 (i : Int), .string t, .slice ao1 q1 c1] (grow (redrawn w5 d) os) fun e w'' => e = .returned (.bool false) ∧ ∃ p : Regrown, w'' = grow (redrawn w5 p.d) p.os := fun d os => Calls.regrown_of (by have := check_calls (rootT l) n i t (.slice ao1 q1 c1) ((pathT l i).take q1) (grow (redrawn w5 d) os) ((strc_take HX5.out (by omega)).on (below_regrown w5 d os)) (by rw [List.length_take]; have := HQ.out; omega) (fun s hs => path_sz l i s (List.mem_of_mem_take hs)) (by omega) ((HT.out.on H5.out).on (below_regrown w5 d os)); rw [HC4.out] at this; exact this)
              refine wp_region_quiet_below (by kernel_rfl) (by kernel_rfl) ?_
              repeat (first | go_big_quiet_step ((first | exact cR _ _ | exact cK _ _)) | quiet_step ((first | exact cR _ _ | exact cK _ _)))
              refine wpQuiet_nil ?_
              intro _ hw'
              obtain ⟨⟨dq, osq⟩, hw''⟩ := hw'
              subst hw''
              have hB := below_regrown w5 dq osq
              clear kc hc5 cR cK
              have H6 := Lib.hid (H5.out.trans (hB.mono H5.out.size))
              have HA6 := Lib.hid (HA5.out.on hB)
              have HX6 := Lib.hid (HX5.out.on hB)
              clear hB H5 HA5 HX5
              generalize grow (redrawn w5 dq) osq = w6 at *
              go_wp2
              go_ret
              exact ⟨rfl, H6.out⟩
namespace treeIncludes
theorem walk {w : World} (hT : Tabs w) (va : Value) (l : List ByteArray) (ha : IsStrC w va l) (n : Int) (wn : (Lit.int .u8 n).wf = true) :
    Calls Tryd.prog 3 #[va, .int .u8 n] w fun e w' => e = .returned (.bool true) ∧ Below w.heap.size w w' := by
  have h1 : 0 ≤ n ∧ n ≤ 255 := by simpa [Lit.wf, IntKind.min, IntKind.max, IntKind.signed, IntKind.bits] using wn
  obtain ⟨r, rfl⟩ := Int.eq_ofNat_of_zero_le h1.1
  exact includes_law va l r w ha (by omega) hT
end treeIncludes
end Go.Proofs.YtlchpdjpnabeiaaDoor
