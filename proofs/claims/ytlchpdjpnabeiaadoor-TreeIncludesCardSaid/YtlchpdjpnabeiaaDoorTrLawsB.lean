import Derived.Test.YtlchpdjpnabeiaaDoorTrLawsA
set_option linter.unusedVariables false
namespace Go.Proofs.YtlchpdjpnabeiaaDoor
open Go Go.RowKit

set_option maxRecDepth 100000 in
set_option maxHeartbeats 4000000 in
theorem binds_law (va : Value) (l : List ByteArray) (r : Nat) (s : ByteArray) (vp : Value) (p : List ByteArray) (w : World) (ha : IsStrC w va l) (hp : IsStrC w vp p) (hr : r ≤ 255) (hsm : s.size ≤ 9223372036854775807) (hT : Tabs w) :
    Calls Tryd.prog 4 #[va, .int .u8 (r : Int), .string s, vp] w (HeadPost w) := by
  have HT := Lib.hid hT
  have HA := Lib.hid ha
  have HP := Lib.hid hp
  obtain ⟨aP, cP, rfl⟩ := strc_form hp
  clear hp hT
  cases hfa : fewL l with
  | false =>
    have HFA := Lib.hid hfa
    obtain ⟨aA, cA, rfl⟩ := strc_form ha
    clear hfa ha
    have H0 : Hid (Below w.heap.size w w) := Lib.hid (Below.refl w.heap.size w)
    have HA0 := Lib.hid HA.out
    have HP0 := Lib.hid HP.out
    go_enter Tryd.func4, Tryd.ntmps4
    go_wp2_with fail
    refine (head_calls w (HT.out.on H0.out)).mono ?_
    rintro e w1 ⟨rfl, hB⟩
    have H1 := Lib.hid (H0.out.trans (hB.mono H0.out.size))
    have HA1 := Lib.hid (HA0.out.on hB)
    have HP1 := Lib.hid (HP0.out.on hB)
    clear hB H0 HA0 HP0
    go_wp2_with fail
    refine (few02_calls _ l w1 HA1.out).mono ?_
    rintro e w2 ⟨rfl, rfl⟩
    have H2 := Lib.hid H1.out
    have HA2 := Lib.hid HA1.out
    have HP2 := Lib.hid HP1.out
    clear H1 HA1 HP1
    rw [HFA.out]
    go_wp2
    go_ret
    exact ⟨rfl, H2.out⟩
  | true =>
    have HLA := Lib.hid (fewL_len hfa)
    have HFA := Lib.hid hfa
    have hla := HLA.out.1
    clear hfa
    cases hfb : fewL p with
    | false =>
      have HFB := Lib.hid hfb
      obtain ⟨aA, cA, rfl⟩ := strc_form ha
      clear hfb ha
      have H0 : Hid (Below w.heap.size w w) := Lib.hid (Below.refl w.heap.size w)
      have HA0 := Lib.hid HA.out
      have HP0 := Lib.hid HP.out
      go_enter Tryd.func4, Tryd.ntmps4
      go_wp2_with fail
      refine (head_calls w (HT.out.on H0.out)).mono ?_
      rintro e w1 ⟨rfl, hB⟩
      have H1 := Lib.hid (H0.out.trans (hB.mono H0.out.size))
      have HA1 := Lib.hid (HA0.out.on hB)
      have HP1 := Lib.hid (HP0.out.on hB)
      clear hB H0 HA0 HP0
      go_wp2_with fail
      refine (few02_calls _ l w1 HA1.out).mono ?_
      rintro e w2 ⟨rfl, rfl⟩
      have H2 := Lib.hid H1.out
      have HA2 := Lib.hid HA1.out
      have HP2 := Lib.hid HP1.out
      clear H1 HA1 HP1
      rw [HFA.out]
      go_wp2_with fail
      refine (few02_calls _ p w2 HP2.out).mono ?_
      rintro e w3 ⟨rfl, rfl⟩
      have H3 := Lib.hid H2.out
      have HA3 := Lib.hid HA2.out
      have HP3 := Lib.hid HP2.out
      clear H2 HA2 HP2
      rw [HFB.out]
      go_wp2
      go_ret
      exact ⟨rfl, H3.out⟩
    | true =>
      have HLB := Lib.hid (fewL_len hfb)
      have HFB := Lib.hid hfb
      have hlb := HLB.out.1
      clear hfb
      by_cases hs : 100 < s.size
      · obtain ⟨aA, cA, rfl⟩ := strc_form ha
        clear ha
        have H0 : Hid (Below w.heap.size w w) := Lib.hid (Below.refl w.heap.size w)
        have HA0 := Lib.hid HA.out
        have HP0 := Lib.hid HP.out
        go_enter Tryd.func4, Tryd.ntmps4
        go_wp2_with fail
        refine (head_calls w (HT.out.on H0.out)).mono ?_
        rintro e w1 ⟨rfl, hB⟩
        have H1 := Lib.hid (H0.out.trans (hB.mono H0.out.size))
        have HA1 := Lib.hid (HA0.out.on hB)
        have HP1 := Lib.hid (HP0.out.on hB)
        clear hB H0 HA0 HP0
        go_wp2_with fail
        refine (few02_calls _ l w1 HA1.out).mono ?_
        rintro e w2 ⟨rfl, rfl⟩
        have H2 := Lib.hid H1.out
        have HA2 := Lib.hid HA1.out
        have HP2 := Lib.hid HP1.out
        clear H1 HA1 HP1
        rw [HFA.out]
        go_wp2_with fail
        refine (few02_calls _ p w2 HP2.out).mono ?_
        rintro e w3 ⟨rfl, rfl⟩
        have H3 := Lib.hid H2.out
        have HA3 := Lib.hid HA2.out
        have HP3 := Lib.hid HP2.out
        clear H2 HA2 HP2
        rw [HFB.out]
        go_wp2
        go_ret
        exact ⟨rfl, H3.out⟩
      · by_cases h0 : l.length = 0
        · obtain ⟨aA, cA, rfl⟩ := strc_form ha
          clear ha
          have hd0 : ((l.length : Int) == 0) = true := by rw [h0]; rfl
          clear h0
          have H0 : Hid (Below w.heap.size w w) := Lib.hid (Below.refl w.heap.size w)
          have HA0 := Lib.hid HA.out
          have HP0 := Lib.hid HP.out
          go_enter Tryd.func4, Tryd.ntmps4
          go_wp2_with fail
          refine (head_calls w (HT.out.on H0.out)).mono ?_
          rintro e w1 ⟨rfl, hB⟩
          have H1 := Lib.hid (H0.out.trans (hB.mono H0.out.size))
          have HA1 := Lib.hid (HA0.out.on hB)
          have HP1 := Lib.hid (HP0.out.on hB)
          clear hB H0 HA0 HP0
          go_wp2_with fail
          refine (few02_calls _ l w1 HA1.out).mono ?_
          rintro e w2 ⟨rfl, rfl⟩
          have H2 := Lib.hid H1.out
          have HA2 := Lib.hid HA1.out
          have HP2 := Lib.hid HP1.out
          clear H1 HA1 HP1
          rw [HFA.out]
          go_wp2_with fail
          refine (few02_calls _ p w2 HP2.out).mono ?_
          rintro e w3 ⟨rfl, rfl⟩
          have H3 := Lib.hid H2.out
          have HA3 := Lib.hid HA2.out
          have HP3 := Lib.hid HP2.out
          clear H2 HA2 HP2
          rw [HFB.out]
          go_wp2
          go_ret
          exact ⟨rfl, H3.out⟩
        · obtain ⟨b, o, cA, rfl, hlc, hcm⟩ := strc_some ha (by omega)
          clear ha
          obtain ⟨n, hn⟩ : ∃ n, n = l.length := ⟨_, rfl⟩
          have HN : Hid (l.length = n) := Lib.hid hn.symm
          rw [← hn] at HA hla h0 hlc ⊢
          clear hn
          have hd0 : ((n : Int) == 0) = false := by rw [beq_eq_false_iff_ne]; omega
          have hn0 : 0 < n := by omega
          obtain ⟨i, hi⟩ : ∃ i, i = r % n := ⟨_, rfl⟩
          have hin : i < n := by rw [hi]; exact Nat.mod_lt _ (by omega)
          have hmod : (r : Int) % (n : Int) = (i : Int) := by rw [hi]; rfl
          have hil : i < l.length := by rw [HN.out]; exact hin
          have HIL := Lib.hid hil
          clear hi h0 hil
          obtain ⟨t, ht⟩ : ∃ t, t = l.getD i ByteArray.empty := ⟨_, rfl⟩
          have HT2 := Lib.hid ht
          clear ht
          by_cases he : s = t
          · subst he
            have H0 : Hid (Below w.heap.size w w) := Lib.hid (Below.refl w.heap.size w)
            have HA0 := Lib.hid HA.out
            have HP0 := Lib.hid HP.out
            go_enter Tryd.func4, Tryd.ntmps4
            go_wp2_with fail
            refine (head_calls w (HT.out.on H0.out)).mono ?_
            rintro e w1 ⟨rfl, hB⟩
            have H1 := Lib.hid (H0.out.trans (hB.mono H0.out.size))
            have HA1 := Lib.hid (HA0.out.on hB)
            have HP1 := Lib.hid (HP0.out.on hB)
            clear hB H0 HA0 HP0
            go_wp2_with fail
            refine (few02_calls _ l w1 HA1.out).mono ?_
            rintro e w2 ⟨rfl, rfl⟩
            have H2 := Lib.hid H1.out
            have HA2 := Lib.hid HA1.out
            have HP2 := Lib.hid HP1.out
            clear H1 HA1 HP1
            rw [HFA.out]
            go_wp2_with fail
            refine (few02_calls _ p w2 HP2.out).mono ?_
            rintro e w3 ⟨rfl, rfl⟩
            have H3 := Lib.hid H2.out
            have HA3 := Lib.hid HA2.out
            have HP3 := Lib.hid HP2.out
            clear H2 HA2 HP2
            rw [HFB.out]
            have hc := strc_cell HA3.out i HIL.out
            rw [← HT2.out] at hc
            go_wp2
            go_ret
            exact ⟨rfl, H3.out⟩
          · have hne := strne he
            cases hck : checkT (rootT l) n i s p with
            | false =>
              have HCK := Lib.hid hck
              clear hck
              have H0 : Hid (Below w.heap.size w w) := Lib.hid (Below.refl w.heap.size w)
              have HA0 := Lib.hid HA.out
              have HP0 := Lib.hid HP.out
              go_enter Tryd.func4, Tryd.ntmps4
              go_wp2_with fail
              refine (head_calls w (HT.out.on H0.out)).mono ?_
              rintro e w1 ⟨rfl, hB⟩
              have H1 := Lib.hid (H0.out.trans (hB.mono H0.out.size))
              have HA1 := Lib.hid (HA0.out.on hB)
              have HP1 := Lib.hid (HP0.out.on hB)
              clear hB H0 HA0 HP0
              go_wp2_with fail
              refine (few02_calls _ l w1 HA1.out).mono ?_
              rintro e w2 ⟨rfl, rfl⟩
              have H2 := Lib.hid H1.out
              have HA2 := Lib.hid HA1.out
              have HP2 := Lib.hid HP1.out
              clear H1 HA1 HP1
              rw [HFA.out]
              go_wp2_with fail
              refine (few02_calls _ p w2 HP2.out).mono ?_
              rintro e w3 ⟨rfl, rfl⟩
              have H3 := Lib.hid H2.out
              have HA3 := Lib.hid HA2.out
              have HP3 := Lib.hid HP2.out
              clear H2 HA2 HP2
              rw [HFB.out]
              have hc := strc_cell HA3.out i HIL.out
              rw [← HT2.out] at hc
              go_wp2_with fail
              refine (root_calls _ l _ w3 rfl HA3.out (big HLA.out.2 (by decide)) (by have := HN.out; omega) (HT.out.on H3.out)).mono ?_
              rintro e w4 ⟨rfl, hB⟩
              have H4 := Lib.hid (H3.out.trans (hB.mono H3.out.size))
              have HA4 := Lib.hid (HA3.out.on hB)
              have HP4 := Lib.hid (HP3.out.on hB)
              clear hB H3 HA3 HP3
              go_wp2_with fail
              refine (check_calls (rootT l) n i s _ p w4 HP4.out (by have := HLB.out.1; omega) (big HLB.out.2 (by decide)) (by omega) (HT.out.on H4.out)).mono ?_
              rintro e w5 ⟨rfl, hB⟩
              have H5 := Lib.hid (H4.out.trans (hB.mono H4.out.size))
              have HA5 := Lib.hid (HA4.out.on hB)
              have HP5 := Lib.hid (HP4.out.on hB)
              clear hB H4 HA4 HP4
              rw [HCK.out]
              go_wp2
              go_ret
              exact ⟨rfl, H5.out⟩
            | true =>
              have HCK := Lib.hid hck
              have hq := check_len hck
              have hup := check_up hck
              simp only [Int.toNat_natCast] at hq hup
              have HCL : Hid (Clash (textsT l ++ pathTextsT n i s p)) := Lib.hid (by
                have := (binds l i s p HIL.out (by rw [HN.out]; exact hup)).resolve_left (by rw [← HT2.out]; exact he)
                rw [HN.out] at this
                exact this)
              have HQ1 : Hid ((pathT l i).length = p.length) := Lib.hid (by rw [path_length, HN.out, hq])
              have HQ2 := Lib.hid hq
              have HTS := Lib.hid (mem_both (textsT_size l HLA.out.2) (pathTexts_size n i s p (by omega) HLB.out.2))
              have htl := (texts_len l).2
              have hpl := pathTexts_len n i s p
              have htl2 : (textsT l).length ≤ 40 := by have := HN.out; omega
              clear hck hq hup he htl
              have H0 : Hid (Below w.heap.size w w) := Lib.hid (Below.refl w.heap.size w)
              have HA0 := Lib.hid HA.out
              have HP0 := Lib.hid HP.out
              go_enter Tryd.func4, Tryd.ntmps4
              go_wp2_with fail
              refine (head_calls w (HT.out.on H0.out)).mono ?_
              rintro e w1 ⟨rfl, hB⟩
              have H1 := Lib.hid (H0.out.trans (hB.mono H0.out.size))
              have HA1 := Lib.hid (HA0.out.on hB)
              have HP1 := Lib.hid (HP0.out.on hB)
              clear hB H0 HA0 HP0
              go_wp2_with fail
              refine (few02_calls _ l w1 HA1.out).mono ?_
              rintro e w2 ⟨rfl, rfl⟩
              have H2 := Lib.hid H1.out
              have HA2 := Lib.hid HA1.out
              have HP2 := Lib.hid HP1.out
              clear H1 HA1 HP1
              rw [HFA.out]
              go_wp2_with fail
              refine (few02_calls _ p w2 HP2.out).mono ?_
              rintro e w3 ⟨rfl, rfl⟩
              have H3 := Lib.hid H2.out
              have HA3 := Lib.hid HA2.out
              have HP3 := Lib.hid HP2.out
              clear H2 HA2 HP2
              rw [HFB.out]
              have hc := strc_cell HA3.out i HIL.out
              rw [← HT2.out] at hc
              go_wp2_with fail
              refine (root_calls _ l _ w3 rfl HA3.out (big HLA.out.2 (by decide)) (by have := HN.out; omega) (HT.out.on H3.out)).mono ?_
              rintro e w4 ⟨rfl, hB⟩
              have H4 := Lib.hid (H3.out.trans (hB.mono H3.out.size))
              have HA4 := Lib.hid (HA3.out.on hB)
              have HP4 := Lib.hid (HP3.out.on hB)
              clear hB H3 HA3 HP3
              go_wp2_with fail
              refine (check_calls (rootT l) n i s _ p w4 HP4.out (by have := HLB.out.1; omega) (big HLB.out.2 (by decide)) (by omega) (HT.out.on H4.out)).mono ?_
              rintro e w5 ⟨rfl, hB⟩
              have H5 := Lib.hid (H4.out.trans (hB.mono H4.out.size))
              have HA5 := Lib.hid (HA4.out.on hB)
              have HP5 := Lib.hid (HP4.out.on hB)
              clear hB H4 HA4 HP4
              rw [HCK.out]
              go_wp2_with fail
              refine (path_ok l _ i w5 HA5.out (big HLA.out.2 (by decide)) (by have := HN.out; omega) HIL.out (HT.out.on H5.out)).mono ?_
              rintro e w6 ⟨v1, rfl, hp1, hB⟩
              have H6 := Lib.hid (H5.out.trans (hB.mono H5.out.size))
              have HA6 := Lib.hid (HA5.out.on hB)
              have HP6 := Lib.hid (HP5.out.on hB)
              clear hB H5 HA5 HP5
              obtain ⟨ao1, c1, rfl⟩ := strc_form hp1
              rw [HQ1.out]
              clear hp1
              go_wp2_with fail
              refine (texts_calls _ l _ w6 rfl HA6.out (big HLA.out.2 (by decide)) (by have := HN.out; omega)).mono ?_
              rintro e w7 ⟨vt, rfl, hoa, hB⟩
              have H7 := Lib.hid (H6.out.trans (hB.mono H6.out.size))
              have HA7 := Lib.hid (HA6.out.on hB)
              have HP7 := Lib.hid (HP6.out.on hB)
              have HOA := Lib.hid (own_mono hoa H6.out.size)
              clear hoa
              clear hB H6 HA6 HP6
              go_wp2_with fail
              refine (ptexts_calls n i s p _ w7 (by omega) (by omega) hin (by omega) HP7.out (big HLB.out.2 (by decide)) HQ2.out).mono ?_
              rintro e w8 ⟨vq, rfl, hob, hB⟩
              have H8 := Lib.hid (H7.out.trans (hB.mono H7.out.size))
              have HA8 := Lib.hid (HA7.out.on hB)
              have HP8 := Lib.hid (HP7.out.on hB)
              have HOC := Lib.hid hob.strc
              have HOA := Lib.hid (HOA.out.on hB)
              clear hob
              clear hB H7 HA7 HP7
              go_wp2_with (at_builtin; refine appS (by kernel_rfl) (.tmp 74) (.tmp 80) rfl rfl rfl HOA.out HOC.out H8.out (Nat.le_refl _) (by omega) ?_)
              intro v9 w9 ho h
              have HO9 := Lib.hid ho
              have H9 := Lib.hid h
              clear ho h H8
              go_wp2_with fail
              refine (shown_calls (textsT l ++ pathTextsT n i s p) _ w9 HO9.out.strc HTS.out (by rw [List.length_append]; omega) HCL.out).mono ?_
              rintro e w10 ⟨rfl, hB⟩
              have H10 := Lib.hid (H9.out.trans (hB.mono H9.out.size))
              clear hB H9
              go_wp2
              go_ret
              exact ⟨rfl, H10.out⟩
namespace treeBinds
theorem walk {w : World} (hT : Tabs w) (va : Value) (l : List ByteArray) (ha : IsStrC w va l) (n : Int) (wn : (Lit.int .u8 n).wf = true) (s : ByteArray) (ws : s.size ≤ maxLen) (vp : Value) (p : List ByteArray) (hp : IsStrC w vp p) :
    Calls Tryd.prog 4 #[va, .int .u8 n, .string s, vp] w fun e w' => e = .returned (.bool true) ∧ Below w.heap.size w w' := by
  have h1 : 0 ≤ n ∧ n ≤ 255 := by simpa [Lit.wf, IntKind.min, IntKind.max, IntKind.signed, IntKind.bits] using wn
  obtain ⟨r, rfl⟩ := Int.eq_ofNat_of_zero_le h1.1
  exact binds_law va l r s vp p w ha hp (by omega) ws hT
end treeBinds
end Go.Proofs.YtlchpdjpnabeiaaDoor
