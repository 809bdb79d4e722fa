import Derived.Test.YtlchpdjpnabeiaaGreatDoorTrRefE
set_option linter.unusedVariables false
namespace Go.Proofs.YtlchpdjpnabeiaaGreatDoor
open Go Go.RowKit

theorem fewL_len {l : List ByteArray} (h : fewL l = true) : l.length ≤ 20 ∧ ∀ s ∈ l, s.size ≤ 100 := by
  unfold fewL fewB at h
  simp only [Bool.and_eq_true, List.all_eq_true, decide_eq_true_eq] at h
  exact ⟨h.1, h.2.1⟩
theorem big {l : List ByteArray} {M : Nat} (h : ∀ s ∈ l, s.size ≤ M) (hM : M ≤ 1099511627776) : ∀ s ∈ l, s.size ≤ 1099511627776 := fun s hs => Nat.le_trans (h s hs) hM
theorem strc_form {w : World} {v : Value} {l : List ByteArray} (h : IsStrC w v l) : ∃ ao cap, v = .slice ao l.length cap := by
  obtain ⟨ao, cap, e, _⟩ := h
  exact ⟨ao, cap, e⟩
theorem Path_any (l : List ByteArray) (v : Value) (i : Int) (w : World) (hv : IsStrC w v l) (hs : ∀ s ∈ l, s.size ≤ 1099511627776) (hl : l.length ≤ 1099511627776) (hT : Tabs w) :
    Calls Tryz.prog 6 #[v, .int .i64 i] w fun e w' => ∃ v', e = .returned (.tuple #[v', .int .i64 (if 0 ≤ i ∧ i < l.length then 0 else 1)]) ∧ IsStrC w' v' (if 0 ≤ i ∧ i < l.length then pathT l i.toNat else []) ∧ Below w.heap.size w w' := by
  by_cases hi : 0 ≤ i ∧ i < l.length
  · rw [if_pos hi, if_pos hi]
    obtain ⟨j, rfl⟩ := Int.eq_ofNat_of_zero_le hi.1
    rw [Int.toNat_natCast]
    exact path_ok l v j w hv hs hl (by omega) hT
  · rw [if_neg hi, if_neg hi]
    refine (path_bad l v i w hv hl hi).mono ?_
    rintro e w' ⟨rfl, rfl⟩
    exact ⟨_, rfl, strc_nil _, Below.refl _ _⟩
theorem Link_any (l : List ByteArray) (v : Value) (i : Int) (w : World) (hv : IsStrC w v l) (hs : ∀ s ∈ l, s.size ≤ 1099511627776) (hl : l.length ≤ 1099511627776) (hT : Tabs w) :
    Calls Tryz.prog 8 #[v, .int .i64 i] w fun e w' => ∃ v', e = .returned (.tuple #[v', .int .i64 (if 0 ≤ i ∧ i ≤ l.length then 0 else 1)]) ∧ IsStrC w' v' (linkS l i) ∧ Below w.heap.size w w' := by
  by_cases hi : 0 ≤ i ∧ i ≤ l.length
  · rw [if_pos hi]
    obtain ⟨j, rfl⟩ := Int.eq_ofNat_of_zero_le hi.1
    by_cases h0 : j = 0
    · subst h0
      have HE : linkS l ((0 : Nat) : Int) = [] := if_neg (by omega)
      rw [HE]
      refine (link_zero l v w hv hl).mono ?_
      rintro e w' ⟨rfl, rfl⟩
      exact ⟨_, rfl, strc_nil _, Below.refl _ _⟩
    · have HE : linkS l (j : Int) = linkT l j true := by unfold linkS; rw [if_pos (by omega), Int.toNat_natCast]
      rw [HE]
      exact link_ok l v j w hv hs hl (by omega) (by omega) hT
  · rw [if_neg hi]
    have HE : linkS l i = [] := if_neg (by omega)
    rw [HE]
    refine (link_bad l v i w hv hl hi).mono ?_
    rintro e w' ⟨rfl, rfl⟩
    exact ⟨_, rfl, strc_nil _, Below.refl _ _⟩
set_option maxRecDepth 100000 in
set_option maxHeartbeats 8000000 in
theorem match02_law (va : Value) (l : List ByteArray) (i m n : Int) (root old s : ByteArray) (vp : Value) (p : List ByteArray) (w : World) (ha : IsStrC w va l) (hp : IsStrC w vp p)
    (hrs : root.size ≤ 9223372036854775807) (hos : old.size ≤ 9223372036854775807) (hss : s.size ≤ 9223372036854775807) (hT : Tabs w) :
    Calls Tryz.prog 3 #[va, .int .i64 i, .int .i64 m, .int .i64 n, .string root, .string old, .string s, vp] w (HeadPost w) := by
  have HT := Lib.hid hT
  have HA := Lib.hid ha
  have HP := Lib.hid hp
  obtain ⟨aA, cA, rfl⟩ := strc_form ha
  obtain ⟨aP, cP, rfl⟩ := strc_form hp
  clear ha hp hT
  cases hfa : fewL l with
  | false =>
    have HFA := Lib.hid hfa
    clear hfa
    have H0 : Hid (Below w.heap.size w w) := Lib.hid (Below.refl w.heap.size w)
    have HA0 := Lib.hid HA.out
    have HP0 := Lib.hid HP.out
    go_enter Tryz.func3, Tryz.ntmps3
    go_wp2_with fail
    refine (head_calls w (HT.out.on H0.out)).mono ?_
    rintro e w1 ⟨rfl, hB⟩
    have H1 := Lib.hid (H0.out.trans (hB.mono H0.out.size))
    have HA1 := Lib.hid (HA0.out.on hB)
    have HP1 := Lib.hid (HP0.out.on hB)
    clear hB H0 HA0 HP0
    go_wp2_with fail
    refine (few02_calls _ l w1 HA1.out).mono ?_
    rintro e w2 ⟨rfl, rfl⟩
    have H2 := Lib.hid H1.out
    have HA2 := Lib.hid HA1.out
    have HP2 := Lib.hid HP1.out
    clear H1 HA1 HP1
    rw [HFA.out]
    go_wp2
    go_ret
    exact ⟨rfl, H2.out⟩
  | true =>
    have HLA := Lib.hid (fewL_len hfa)
    have HFA := Lib.hid hfa
    have hla := HLA.out.1
    clear hfa
    cases hfb : fewL p with
    | false =>
      have HFB := Lib.hid hfb
      clear hfb
      have H0 : Hid (Below w.heap.size w w) := Lib.hid (Below.refl w.heap.size w)
      have HA0 := Lib.hid HA.out
      have HP0 := Lib.hid HP.out
      go_enter Tryz.func3, Tryz.ntmps3
      go_wp2_with fail
      refine (head_calls w (HT.out.on H0.out)).mono ?_
      rintro e w1 ⟨rfl, hB⟩
      have H1 := Lib.hid (H0.out.trans (hB.mono H0.out.size))
      have HA1 := Lib.hid (HA0.out.on hB)
      have HP1 := Lib.hid (HP0.out.on hB)
      clear hB H0 HA0 HP0
      go_wp2_with fail
      refine (few02_calls _ l w1 HA1.out).mono ?_
      rintro e w2 ⟨rfl, rfl⟩
      have H2 := Lib.hid H1.out
      have HA2 := Lib.hid HA1.out
      have HP2 := Lib.hid HP1.out
      clear H1 HA1 HP1
      rw [HFA.out]
      go_wp2_with fail
      refine (few02_calls _ p w2 HP2.out).mono ?_
      rintro e w3 ⟨rfl, rfl⟩
      have H3 := Lib.hid H2.out
      have HA3 := Lib.hid HA2.out
      have HP3 := Lib.hid HP2.out
      clear H2 HA2 HP2
      rw [HFB.out]
      go_wp2
      go_ret
      exact ⟨rfl, H3.out⟩
    | true =>
      have HLB := Lib.hid (fewL_len hfb)
      have HFB := Lib.hid hfb
      have hlb := HLB.out.1
      clear hfb
      by_cases h1 : 100 < root.size
      · have H0 : Hid (Below w.heap.size w w) := Lib.hid (Below.refl w.heap.size w)
        have HA0 := Lib.hid HA.out
        have HP0 := Lib.hid HP.out
        go_enter Tryz.func3, Tryz.ntmps3
        go_wp2_with fail
        refine (head_calls w (HT.out.on H0.out)).mono ?_
        rintro e w1 ⟨rfl, hB⟩
        have H1 := Lib.hid (H0.out.trans (hB.mono H0.out.size))
        have HA1 := Lib.hid (HA0.out.on hB)
        have HP1 := Lib.hid (HP0.out.on hB)
        clear hB H0 HA0 HP0
        go_wp2_with fail
        refine (few02_calls _ l w1 HA1.out).mono ?_
        rintro e w2 ⟨rfl, rfl⟩
        have H2 := Lib.hid H1.out
        have HA2 := Lib.hid HA1.out
        have HP2 := Lib.hid HP1.out
        clear H1 HA1 HP1
        rw [HFA.out]
        go_wp2_with fail
        refine (few02_calls _ p w2 HP2.out).mono ?_
        rintro e w3 ⟨rfl, rfl⟩
        have H3 := Lib.hid H2.out
        have HA3 := Lib.hid HA2.out
        have HP3 := Lib.hid HP2.out
        clear H2 HA2 HP2
        rw [HFB.out]
        go_wp2
        go_ret
        exact ⟨rfl, H3.out⟩
      · by_cases h2 : 100 < old.size
        · have H0 : Hid (Below w.heap.size w w) := Lib.hid (Below.refl w.heap.size w)
          have HA0 := Lib.hid HA.out
          have HP0 := Lib.hid HP.out
          go_enter Tryz.func3, Tryz.ntmps3
          go_wp2_with fail
          refine (head_calls w (HT.out.on H0.out)).mono ?_
          rintro e w1 ⟨rfl, hB⟩
          have H1 := Lib.hid (H0.out.trans (hB.mono H0.out.size))
          have HA1 := Lib.hid (HA0.out.on hB)
          have HP1 := Lib.hid (HP0.out.on hB)
          clear hB H0 HA0 HP0
          go_wp2_with fail
          refine (few02_calls _ l w1 HA1.out).mono ?_
          rintro e w2 ⟨rfl, rfl⟩
          have H2 := Lib.hid H1.out
          have HA2 := Lib.hid HA1.out
          have HP2 := Lib.hid HP1.out
          clear H1 HA1 HP1
          rw [HFA.out]
          go_wp2_with fail
          refine (few02_calls _ p w2 HP2.out).mono ?_
          rintro e w3 ⟨rfl, rfl⟩
          have H3 := Lib.hid H2.out
          have HA3 := Lib.hid HA2.out
          have HP3 := Lib.hid HP2.out
          clear H2 HA2 HP2
          rw [HFB.out]
          go_wp2
          go_ret
          exact ⟨rfl, H3.out⟩
        · by_cases h3 : 100 < s.size
          · have H0 : Hid (Below w.heap.size w w) := Lib.hid (Below.refl w.heap.size w)
            have HA0 := Lib.hid HA.out
            have HP0 := Lib.hid HP.out
            go_enter Tryz.func3, Tryz.ntmps3
            go_wp2_with fail
            refine (head_calls w (HT.out.on H0.out)).mono ?_
            rintro e w1 ⟨rfl, hB⟩
            have H1 := Lib.hid (H0.out.trans (hB.mono H0.out.size))
            have HA1 := Lib.hid (HA0.out.on hB)
            have HP1 := Lib.hid (HP0.out.on hB)
            clear hB H0 HA0 HP0
            go_wp2_with fail
            refine (few02_calls _ l w1 HA1.out).mono ?_
            rintro e w2 ⟨rfl, rfl⟩
            have H2 := Lib.hid H1.out
            have HA2 := Lib.hid HA1.out
            have HP2 := Lib.hid HP1.out
            clear H1 HA1 HP1
            rw [HFA.out]
            go_wp2_with fail
            refine (few02_calls _ p w2 HP2.out).mono ?_
            rintro e w3 ⟨rfl, rfl⟩
            have H3 := Lib.hid H2.out
            have HA3 := Lib.hid HA2.out
            have HP3 := Lib.hid HP2.out
            clear H2 HA2 HP2
            rw [HFB.out]
            go_wp2
            go_ret
            exact ⟨rfl, H3.out⟩
          · have HLA2 := Lib.hid (big HLA.out.2 (by decide))
            have HLB2 := Lib.hid (big HLB.out.2 (by decide))
            obtain ⟨e1, he1⟩ : ∃ e : Int, e = (if 0 ≤ i ∧ i < l.length then 0 else 1) := ⟨_, rfl⟩
            obtain ⟨p1, hp1⟩ : ∃ e, e = (if 0 ≤ i ∧ i < l.length then pathT l i.toNat else []) := ⟨_, rfl⟩
            obtain ⟨e2, he2⟩ : ∃ e : Int, e = (if 0 ≤ m ∧ m ≤ l.length then 0 else 1) := ⟨_, rfl⟩
            have C1 := fun w hv hT => Path_any l (.slice aA l.length cA) i w hv HLA2.out (by omega) hT
            have C2 := fun w hv => rPath_any l (.slice aA l.length cA) i w hv HLA2.out (by omega)
            have C3 := fun w hv hT => Link_any l (.slice aA l.length cA) m w hv HLA2.out (by omega) hT
            have C4 := fun w hv => rLink_any l (.slice aA l.length cA) m w hv HLA2.out (by omega)
            rw [← he1, ← hp1] at C1 C2
            rw [← he2] at C3 C4
            have D1 := Lib.hid C1
            have D2 := Lib.hid C2
            have D3 := Lib.hid C3
            have D4 := Lib.hid C4
            have K1 := Lib.hid (fun w hv hT => check_calls root n i s (.slice aP p.length cP) p w hv (by omega) HLB2.out (by omega) hT)
            have K2 := Lib.hid (fun w hv => rcheck_calls root n i s (.slice aP p.length cP) p w hv (by omega) HLB2.out (by omega))
            have K3 := Lib.hid (fun w hv hT => check_calls (rootT l) l.length i s (.slice aP p.length cP) p w hv (by omega) HLB2.out (by omega) hT)
            have K4 := Lib.hid (fun w hv => rcheck_calls (rootT l) l.length i s (.slice aP p.length cP) p w hv (by omega) HLB2.out (by omega))
            have X1 := Lib.hid (fun w hv hT => ext_calls old m root n (.slice aP p.length cP) p w hv (by omega) HLB2.out (by omega) (by omega) hT)
            have X2 := Lib.hid (fun w hv => rext_calls old m root n (.slice aP p.length cP) p w hv (by omega) HLB2.out (by omega) (by omega))
            have X3 := Lib.hid (fun w hv hT => ext_calls old m (rootT l) l.length (.slice aP p.length cP) p w hv (by omega) HLB2.out (by omega) (by rw [root_size]; omega) hT)
            have X4 := Lib.hid (fun w hv => rext_calls old m (rootT l) l.length (.slice aP p.length cP) p w hv (by omega) HLB2.out (by omega) (by rw [root_size]; omega))
            have R1 := Lib.hid (fun w hv hT => root_calls _ l (.slice aA l.length cA) w rfl hv HLA2.out (by omega) hT)
            have R2 := Lib.hid (fun w hv => rroot_calls _ l (.slice aA l.length cA) w rfl hv HLA2.out (by omega))
            generalize linkS l m = p2 at *
            generalize checkT root n i s p = b1 at *
            generalize checkT (rootT l) l.length i s p = b2 at *
            generalize extT old m root n p = b3 at *
            generalize extT old m (rootT l) l.length p = b4 at *
            generalize rootT l = R at *
            clear C1 C2 C3 C4 he1 hp1 he2
            have H0 : Hid (Below w.heap.size w w) := Lib.hid (Below.refl w.heap.size w)
            have HA0 := Lib.hid HA.out
            have HP0 := Lib.hid HP.out
            go_enter Tryz.func3, Tryz.ntmps3
            go_wp2_with fail
            refine (head_calls w (HT.out.on H0.out)).mono ?_
            rintro e w1 ⟨rfl, hB⟩
            have H1 := Lib.hid (H0.out.trans (hB.mono H0.out.size))
            have HA1 := Lib.hid (HA0.out.on hB)
            have HP1 := Lib.hid (HP0.out.on hB)
            clear hB H0 HA0 HP0
            go_wp2_with fail
            refine (few02_calls _ l w1 HA1.out).mono ?_
            rintro e w2 ⟨rfl, rfl⟩
            have H2 := Lib.hid H1.out
            have HA2 := Lib.hid HA1.out
            have HP2 := Lib.hid HP1.out
            clear H1 HA1 HP1
            rw [HFA.out]
            go_wp2_with fail
            refine (few02_calls _ p w2 HP2.out).mono ?_
            rintro e w3 ⟨rfl, rfl⟩
            have H3 := Lib.hid H2.out
            have HA3 := Lib.hid HA2.out
            have HP3 := Lib.hid HP2.out
            clear H2 HA2 HP2
            rw [HFB.out]
            go_wp2_with fail
            refine (D1.out _ HA3.out (HT.out.on H3.out)).mono ?_
            rintro e w4 ⟨v1, rfl, hx, hB⟩
            have H4 := Lib.hid (H3.out.trans (hB.mono H3.out.size))
            have HA4 := Lib.hid (HA3.out.on hB)
            have HP4 := Lib.hid (HP3.out.on hB)
            have HX1_4 := Lib.hid hx
            clear hx
            clear hB H3 HA3 HP3
            go_wp2_with fail
            refine (D2.out _ HA4.out).mono ?_
            rintro e w5 ⟨v2, rfl, hx, hB⟩
            have H5 := Lib.hid (H4.out.trans (hB.mono H4.out.size))
            have HA5 := Lib.hid (HA4.out.on hB)
            have HP5 := Lib.hid (HP4.out.on hB)
            have HX1_5 := Lib.hid (HX1_4.out.on hB)
            have HX2_5 := Lib.hid hx
            clear hx
            clear hB H4 HA4 HP4 HX1_4
            go_wp2_with fail
            refine (D3.out _ HA5.out (HT.out.on H5.out)).mono ?_
            rintro e w6 ⟨v3, rfl, hx, hB⟩
            have H6 := Lib.hid (H5.out.trans (hB.mono H5.out.size))
            have HA6 := Lib.hid (HA5.out.on hB)
            have HP6 := Lib.hid (HP5.out.on hB)
            have HX1_6 := Lib.hid (HX1_5.out.on hB)
            have HX2_6 := Lib.hid (HX2_5.out.on hB)
            have HX3_6 := Lib.hid hx
            clear hx
            clear hB H5 HA5 HP5 HX1_5 HX2_5
            go_wp2_with fail
            refine (D4.out _ HA6.out).mono ?_
            rintro e w7 ⟨v4, rfl, hx, hB⟩
            have H7 := Lib.hid (H6.out.trans (hB.mono H6.out.size))
            have HA7 := Lib.hid (HA6.out.on hB)
            have HP7 := Lib.hid (HP6.out.on hB)
            have HX1_7 := Lib.hid (HX1_6.out.on hB)
            have HX2_7 := Lib.hid (HX2_6.out.on hB)
            have HX3_7 := Lib.hid (HX3_6.out.on hB)
            have HX4_7 := Lib.hid hx
            clear hx
            clear hB H6 HA6 HP6 HX1_6 HX2_6 HX3_6
            go_wp2_with fail
            refine (R1.out _ HA7.out (HT.out.on H7.out)).mono ?_
            rintro e w8 ⟨rfl, hB⟩
            have H8 := Lib.hid (H7.out.trans (hB.mono H7.out.size))
            have HA8 := Lib.hid (HA7.out.on hB)
            have HP8 := Lib.hid (HP7.out.on hB)
            have HX1_8 := Lib.hid (HX1_7.out.on hB)
            have HX2_8 := Lib.hid (HX2_7.out.on hB)
            have HX3_8 := Lib.hid (HX3_7.out.on hB)
            have HX4_8 := Lib.hid (HX4_7.out.on hB)
            clear hB H7 HA7 HP7 HX1_7 HX2_7 HX3_7 HX4_7
            go_wp2_with fail
            refine (R2.out _ HA8.out).mono ?_
            rintro e w9 ⟨rfl, hB⟩
            have H9 := Lib.hid (H8.out.trans (hB.mono H8.out.size))
            have HA9 := Lib.hid (HA8.out.on hB)
            have HP9 := Lib.hid (HP8.out.on hB)
            have HX1_9 := Lib.hid (HX1_8.out.on hB)
            have HX2_9 := Lib.hid (HX2_8.out.on hB)
            have HX3_9 := Lib.hid (HX3_8.out.on hB)
            have HX4_9 := Lib.hid (HX4_8.out.on hB)
            clear hB H8 HA8 HP8 HX1_8 HX2_8 HX3_8 HX4_8
            go_wp2_with fail
            refine (same_calls v1 v2 p1 p1 _ HX1_9.out.strs HX2_9.out.strs).mono ?_
            rintro e w10 ⟨rfl, hB⟩
            have H10 := Lib.hid (H9.out.trans (hB.mono H9.out.size))
            have HA10 := Lib.hid (HA9.out.on hB)
            have HP10 := Lib.hid (HP9.out.on hB)
            have HX1_10 := Lib.hid (HX1_9.out.on hB)
            have HX2_10 := Lib.hid (HX2_9.out.on hB)
            have HX3_10 := Lib.hid (HX3_9.out.on hB)
            have HX4_10 := Lib.hid (HX4_9.out.on hB)
            clear hB H9 HA9 HP9 HX1_9 HX2_9 HX3_9 HX4_9
            rw [sameB_refl]
            go_wp2_with fail
            refine (same_calls v3 v4 p2 p2 _ HX3_10.out.strs HX4_10.out.strs).mono ?_
            rintro e w11 ⟨rfl, hB⟩
            have H11 := Lib.hid (H10.out.trans (hB.mono H10.out.size))
            have HA11 := Lib.hid (HA10.out.on hB)
            have HP11 := Lib.hid (HP10.out.on hB)
            have HX1_11 := Lib.hid (HX1_10.out.on hB)
            have HX2_11 := Lib.hid (HX2_10.out.on hB)
            have HX3_11 := Lib.hid (HX3_10.out.on hB)
            have HX4_11 := Lib.hid (HX4_10.out.on hB)
            clear hB H10 HA10 HP10 HX1_10 HX2_10 HX3_10 HX4_10
            rw [sameB_refl]
            go_wp2_with fail
            refine (K1.out _ HP11.out (HT.out.on H11.out)).mono ?_
            rintro e w12 ⟨rfl, hB⟩
            have H12 := Lib.hid (H11.out.trans (hB.mono H11.out.size))
            have HA12 := Lib.hid (HA11.out.on hB)
            have HP12 := Lib.hid (HP11.out.on hB)
            have HX1_12 := Lib.hid (HX1_11.out.on hB)
            have HX2_12 := Lib.hid (HX2_11.out.on hB)
            have HX3_12 := Lib.hid (HX3_11.out.on hB)
            have HX4_12 := Lib.hid (HX4_11.out.on hB)
            clear hB H11 HA11 HP11 HX1_11 HX2_11 HX3_11 HX4_11
            go_wp2_with fail
            refine (K2.out _ HP12.out).mono ?_
            rintro e w13 ⟨rfl, hB⟩
            have H13 := Lib.hid (H12.out.trans (hB.mono H12.out.size))
            have HA13 := Lib.hid (HA12.out.on hB)
            have HP13 := Lib.hid (HP12.out.on hB)
            have HX1_13 := Lib.hid (HX1_12.out.on hB)
            have HX2_13 := Lib.hid (HX2_12.out.on hB)
            have HX3_13 := Lib.hid (HX3_12.out.on hB)
            have HX4_13 := Lib.hid (HX4_12.out.on hB)
            clear hB H12 HA12 HP12 HX1_12 HX2_12 HX3_12 HX4_12
            go_wp2_with fail
            refine (R1.out _ HA13.out (HT.out.on H13.out)).mono ?_
            rintro e w14 ⟨rfl, hB⟩
            have H14 := Lib.hid (H13.out.trans (hB.mono H13.out.size))
            have HA14 := Lib.hid (HA13.out.on hB)
            have HP14 := Lib.hid (HP13.out.on hB)
            have HX1_14 := Lib.hid (HX1_13.out.on hB)
            have HX2_14 := Lib.hid (HX2_13.out.on hB)
            have HX3_14 := Lib.hid (HX3_13.out.on hB)
            have HX4_14 := Lib.hid (HX4_13.out.on hB)
            clear hB H13 HA13 HP13 HX1_13 HX2_13 HX3_13 HX4_13
            go_wp2_with fail
            refine (K3.out _ HP14.out (HT.out.on H14.out)).mono ?_
            rintro e w15 ⟨rfl, hB⟩
            have H15 := Lib.hid (H14.out.trans (hB.mono H14.out.size))
            have HA15 := Lib.hid (HA14.out.on hB)
            have HP15 := Lib.hid (HP14.out.on hB)
            have HX1_15 := Lib.hid (HX1_14.out.on hB)
            have HX2_15 := Lib.hid (HX2_14.out.on hB)
            have HX3_15 := Lib.hid (HX3_14.out.on hB)
            have HX4_15 := Lib.hid (HX4_14.out.on hB)
            clear hB H14 HA14 HP14 HX1_14 HX2_14 HX3_14 HX4_14
            go_wp2_with fail
            refine (R2.out _ HA15.out).mono ?_
            rintro e w16 ⟨rfl, hB⟩
            have H16 := Lib.hid (H15.out.trans (hB.mono H15.out.size))
            have HA16 := Lib.hid (HA15.out.on hB)
            have HP16 := Lib.hid (HP15.out.on hB)
            have HX1_16 := Lib.hid (HX1_15.out.on hB)
            have HX2_16 := Lib.hid (HX2_15.out.on hB)
            have HX3_16 := Lib.hid (HX3_15.out.on hB)
            have HX4_16 := Lib.hid (HX4_15.out.on hB)
            clear hB H15 HA15 HP15 HX1_15 HX2_15 HX3_15 HX4_15
            go_wp2_with fail
            refine (K4.out _ HP16.out).mono ?_
            rintro e w17 ⟨rfl, hB⟩
            have H17 := Lib.hid (H16.out.trans (hB.mono H16.out.size))
            have HA17 := Lib.hid (HA16.out.on hB)
            have HP17 := Lib.hid (HP16.out.on hB)
            have HX1_17 := Lib.hid (HX1_16.out.on hB)
            have HX2_17 := Lib.hid (HX2_16.out.on hB)
            have HX3_17 := Lib.hid (HX3_16.out.on hB)
            have HX4_17 := Lib.hid (HX4_16.out.on hB)
            clear hB H16 HA16 HP16 HX1_16 HX2_16 HX3_16 HX4_16
            go_wp2_with fail
            refine (X1.out _ HP17.out (HT.out.on H17.out)).mono ?_
            rintro e w18 ⟨rfl, hB⟩
            have H18 := Lib.hid (H17.out.trans (hB.mono H17.out.size))
            have HA18 := Lib.hid (HA17.out.on hB)
            have HP18 := Lib.hid (HP17.out.on hB)
            have HX1_18 := Lib.hid (HX1_17.out.on hB)
            have HX2_18 := Lib.hid (HX2_17.out.on hB)
            have HX3_18 := Lib.hid (HX3_17.out.on hB)
            have HX4_18 := Lib.hid (HX4_17.out.on hB)
            clear hB H17 HA17 HP17 HX1_17 HX2_17 HX3_17 HX4_17
            go_wp2_with fail
            refine (X2.out _ HP18.out).mono ?_
            rintro e w19 ⟨rfl, hB⟩
            have H19 := Lib.hid (H18.out.trans (hB.mono H18.out.size))
            have HA19 := Lib.hid (HA18.out.on hB)
            have HP19 := Lib.hid (HP18.out.on hB)
            have HX1_19 := Lib.hid (HX1_18.out.on hB)
            have HX2_19 := Lib.hid (HX2_18.out.on hB)
            have HX3_19 := Lib.hid (HX3_18.out.on hB)
            have HX4_19 := Lib.hid (HX4_18.out.on hB)
            clear hB H18 HA18 HP18 HX1_18 HX2_18 HX3_18 HX4_18
            go_wp2_with fail
            refine (R1.out _ HA19.out (HT.out.on H19.out)).mono ?_
            rintro e w20 ⟨rfl, hB⟩
            have H20 := Lib.hid (H19.out.trans (hB.mono H19.out.size))
            have HA20 := Lib.hid (HA19.out.on hB)
            have HP20 := Lib.hid (HP19.out.on hB)
            have HX1_20 := Lib.hid (HX1_19.out.on hB)
            have HX2_20 := Lib.hid (HX2_19.out.on hB)
            have HX3_20 := Lib.hid (HX3_19.out.on hB)
            have HX4_20 := Lib.hid (HX4_19.out.on hB)
            clear hB H19 HA19 HP19 HX1_19 HX2_19 HX3_19 HX4_19
            go_wp2_with fail
            refine (X3.out _ HP20.out (HT.out.on H20.out)).mono ?_
            rintro e w21 ⟨rfl, hB⟩
            have H21 := Lib.hid (H20.out.trans (hB.mono H20.out.size))
            have HA21 := Lib.hid (HA20.out.on hB)
            have HP21 := Lib.hid (HP20.out.on hB)
            have HX1_21 := Lib.hid (HX1_20.out.on hB)
            have HX2_21 := Lib.hid (HX2_20.out.on hB)
            have HX3_21 := Lib.hid (HX3_20.out.on hB)
            have HX4_21 := Lib.hid (HX4_20.out.on hB)
            clear hB H20 HA20 HP20 HX1_20 HX2_20 HX3_20 HX4_20
            go_wp2_with fail
            refine (R2.out _ HA21.out).mono ?_
            rintro e w22 ⟨rfl, hB⟩
            have H22 := Lib.hid (H21.out.trans (hB.mono H21.out.size))
            have HA22 := Lib.hid (HA21.out.on hB)
            have HP22 := Lib.hid (HP21.out.on hB)
            have HX1_22 := Lib.hid (HX1_21.out.on hB)
            have HX2_22 := Lib.hid (HX2_21.out.on hB)
            have HX3_22 := Lib.hid (HX3_21.out.on hB)
            have HX4_22 := Lib.hid (HX4_21.out.on hB)
            clear hB H21 HA21 HP21 HX1_21 HX2_21 HX3_21 HX4_21
            go_wp2_with fail
            refine (X4.out _ HP22.out).mono ?_
            rintro e w23 ⟨rfl, hB⟩
            have H23 := Lib.hid (H22.out.trans (hB.mono H22.out.size))
            have HA23 := Lib.hid (HA22.out.on hB)
            have HP23 := Lib.hid (HP22.out.on hB)
            have HX1_23 := Lib.hid (HX1_22.out.on hB)
            have HX2_23 := Lib.hid (HX2_22.out.on hB)
            have HX3_23 := Lib.hid (HX3_22.out.on hB)
            have HX4_23 := Lib.hid (HX4_22.out.on hB)
            clear hB H22 HA22 HP22 HX1_22 HX2_22 HX3_22 HX4_22
            go_wp2
            go_ret
            exact ⟨rfl, H23.out⟩
namespace treeMatchesReference
theorem walk {w : World} (hT : Tabs w) (va : Value) (l : List ByteArray) (ha : IsStrC w va l) (i : Int) (wi : (Lit.int .i64 i).wf = true) (m : Int) (wm : (Lit.int .i64 m).wf = true) (n : Int) (wn : (Lit.int .i64 n).wf = true)
    (root : ByteArray) (wr : root.size ≤ maxLen) (old : ByteArray) (wo : old.size ≤ maxLen) (s : ByteArray) (ws : s.size ≤ maxLen) (vp : Value) (p : List ByteArray) (hp : IsStrC w vp p) :
    Calls Tryz.prog 3 #[va, .int .i64 i, .int .i64 m, .int .i64 n, .string root, .string old, .string s, vp] w fun e w' => e = .returned (.bool true) ∧ Below w.heap.size w w' :=
  match02_law va l i m n root old s vp p w ha hp wr wo ws hT
end treeMatchesReference
end Go.Proofs.YtlchpdjpnabeiaaGreatDoor
