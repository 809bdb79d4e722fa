import Derived.Test.YtlchpdjpnabeiaaDoorTrLawsB
set_option linter.unusedVariables false
namespace Go.Proofs.YtlchpdjpnabeiaaDoor
open Go Go.RowKit

theorem run_slice_nil0 {c : Nat} (W : World) : (Instr.slice 22 (.slice none 0 c) none (some (.int .i64 0)) none).run Tryd.prog W = .ok (.slice none 0 c) W := by
  go_simp
theorem strc_take {w : World} {ao : Option Addr} {n cap : Nat} {l : List ByteArray} (h : IsStrC w (.slice ao n cap) l) {k : Nat} (hk : k ≤ n) : IsStrC w (.slice ao k cap) (l.take k) := h.take k hk
theorem ext_parts {old root : ByteArray} {m n : Nat} {p : List ByteArray} (h : extT old m root n p = true) (hm : 0 < m) :
    p.length = longT n m true ∧ (bothT n m true old p).1 = old ∧ (bothT n m true old p).2 = root ∧ p.all isS = true := by
  unfold extT at h
  rw [if_neg (by omega)] at h
  simp only [Bool.and_eq_true, decide_eq_true_eq, Int.toNat_natCast] at h
  exact ⟨h.2.1.1, h.2.1.2, h.2.2, h.1.2⟩
theorem cont_clash {a l p : List ByteArray} (h : extT (rootT a) a.length (rootT l) l.length p = true) (hm : 0 < a.length) (hl : a.length ≤ l.length) (hne : a ≠ l.take a.length) :
    Clash (textsT a ++ textsT l ++ textsT (l.take a.length) ++ linkTextsT l.length a.length true (rootT a) p) := by
  obtain ⟨_, h1, h2, _⟩ := ext_parts h hm
  rcases continues l a.length true (rootT a) p hm hl h2 with e | e
  · rw [h1] at e
    rcases roots a (l.take a.length) (by rw [List.length_take]; omega) e with r | r
    · exact absurd r hne
    · exact r.mono fun x hx => by simp only [List.mem_append] at hx ⊢; rcases hx with hx | hx <;> simp [hx]
  · exact e.mono fun x hx => by simp only [List.mem_append] at hx ⊢; rcases hx with hx | hx <;> simp [hx]
theorem all_16 {p : List ByteArray} (h : p.all isS = true) : ∀ s ∈ p, s.size ≤ 16 := fun s hs => by
  have := isS_size (List.all_eq_true.1 h s hs)
  omega
set_option maxRecDepth 100000 in
set_option maxHeartbeats 8000000 in
theorem continues_law (va vl vp : Value) (a l p : List ByteArray) (w : World) (ha : IsStrC w va a) (hl : IsStrC w vl l) (hp : IsStrC w vp p) (hT : Tabs w) :
    Calls Tryd.prog 7 #[va, vl, vp] w (HeadPost w) := by
  have HT := Lib.hid hT
  have HA := Lib.hid ha
  have HB := Lib.hid hl
  have HP := Lib.hid hp
  obtain ⟨aA, cA, rfl⟩ := strc_form ha
  obtain ⟨aP, cP, rfl⟩ := strc_form hp
  obtain ⟨aB, cB, rfl, hBc, hBm, _⟩ := hl
  clear ha hp hT
  cases hfa : fewL a with
  | false =>
    have HFA := Lib.hid hfa
    clear hfa
    have H0 : Hid (Below w.heap.size w w) := Lib.hid (Below.refl w.heap.size w)
    have HA0 := Lib.hid HA.out
    have HB0 := Lib.hid HB.out
    have HP0 := Lib.hid HP.out
    go_enter Tryd.func7, Tryd.ntmps7
    go_wp2_with fail
    refine (head_calls w (HT.out.on H0.out)).mono ?_
    rintro e w1 ⟨rfl, hB⟩
    have H1 := Lib.hid (H0.out.trans (hB.mono H0.out.size))
    have HA1 := Lib.hid (HA0.out.on hB)
    have HB1 := Lib.hid (HB0.out.on hB)
    have HP1 := Lib.hid (HP0.out.on hB)
    clear hB H0 HA0 HB0 HP0
    go_wp2_with fail
    refine (few02_calls _ a w1 HA1.out).mono ?_
    rintro e w2 ⟨rfl, rfl⟩
    have H2 := Lib.hid H1.out
    have HA2 := Lib.hid HA1.out
    have HB2 := Lib.hid HB1.out
    have HP2 := Lib.hid HP1.out
    clear H1 HA1 HB1 HP1
    rw [HFA.out]
    go_wp2
    go_ret
    exact ⟨rfl, H2.out⟩
  | true =>
    have HLA := Lib.hid (fewL_len hfa)
    have HFA := Lib.hid hfa
    have hla := HLA.out.1
    clear hfa
    cases hfb : fewL l with
    | false =>
      have HFB := Lib.hid hfb
      clear hfb
      have H0 : Hid (Below w.heap.size w w) := Lib.hid (Below.refl w.heap.size w)
      have HA0 := Lib.hid HA.out
      have HB0 := Lib.hid HB.out
      have HP0 := Lib.hid HP.out
      go_enter Tryd.func7, Tryd.ntmps7
      go_wp2_with fail
      refine (head_calls w (HT.out.on H0.out)).mono ?_
      rintro e w1 ⟨rfl, hB⟩
      have H1 := Lib.hid (H0.out.trans (hB.mono H0.out.size))
      have HA1 := Lib.hid (HA0.out.on hB)
      have HB1 := Lib.hid (HB0.out.on hB)
      have HP1 := Lib.hid (HP0.out.on hB)
      clear hB H0 HA0 HB0 HP0
      go_wp2_with fail
      refine (few02_calls _ a w1 HA1.out).mono ?_
      rintro e w2 ⟨rfl, rfl⟩
      have H2 := Lib.hid H1.out
      have HA2 := Lib.hid HA1.out
      have HB2 := Lib.hid HB1.out
      have HP2 := Lib.hid HP1.out
      clear H1 HA1 HB1 HP1
      rw [HFA.out]
      go_wp2_with fail
      refine (few02_calls _ l w2 HB2.out).mono ?_
      rintro e w3 ⟨rfl, rfl⟩
      have H3 := Lib.hid H2.out
      have HA3 := Lib.hid HA2.out
      have HB3 := Lib.hid HB2.out
      have HP3 := Lib.hid HP2.out
      clear H2 HA2 HB2 HP2
      rw [HFB.out]
      go_wp2
      go_ret
      exact ⟨rfl, H3.out⟩
    | true =>
      have HLB := Lib.hid (fewL_len hfb)
      have HFB := Lib.hid hfb
      have hlb := HLB.out.1
      clear hfb
      cases hfp : fewL p with
      | false =>
        have HFP := Lib.hid hfp
        clear hfp
        have H0 : Hid (Below w.heap.size w w) := Lib.hid (Below.refl w.heap.size w)
        have HA0 := Lib.hid HA.out
        have HB0 := Lib.hid HB.out
        have HP0 := Lib.hid HP.out
        go_enter Tryd.func7, Tryd.ntmps7
        go_wp2_with fail
        refine (head_calls w (HT.out.on H0.out)).mono ?_
        rintro e w1 ⟨rfl, hB⟩
        have H1 := Lib.hid (H0.out.trans (hB.mono H0.out.size))
        have HA1 := Lib.hid (HA0.out.on hB)
        have HB1 := Lib.hid (HB0.out.on hB)
        have HP1 := Lib.hid (HP0.out.on hB)
        clear hB H0 HA0 HB0 HP0
        go_wp2_with fail
        refine (few02_calls _ a w1 HA1.out).mono ?_
        rintro e w2 ⟨rfl, rfl⟩
        have H2 := Lib.hid H1.out
        have HA2 := Lib.hid HA1.out
        have HB2 := Lib.hid HB1.out
        have HP2 := Lib.hid HP1.out
        clear H1 HA1 HB1 HP1
        rw [HFA.out]
        go_wp2_with fail
        refine (few02_calls _ l w2 HB2.out).mono ?_
        rintro e w3 ⟨rfl, rfl⟩
        have H3 := Lib.hid H2.out
        have HA3 := Lib.hid HA2.out
        have HB3 := Lib.hid HB2.out
        have HP3 := Lib.hid HP2.out
        clear H2 HA2 HB2 HP2
        rw [HFB.out]
        go_wp2_with fail
        refine (few02_calls _ p w3 HP3.out).mono ?_
        rintro e w4 ⟨rfl, rfl⟩
        have H4 := Lib.hid H3.out
        have HA4 := Lib.hid HA3.out
        have HB4 := Lib.hid HB3.out
        have HP4 := Lib.hid HP3.out
        clear H3 HA3 HB3 HP3
        rw [HFP.out]
        go_wp2
        go_ret
        exact ⟨rfl, H4.out⟩
      | true =>
        have HLP := Lib.hid (fewL_len hfp)
        have HFP := Lib.hid hfp
        have hlp := HLP.out.1
        clear hfp
        by_cases hlen : l.length < a.length
        · have H0 : Hid (Below w.heap.size w w) := Lib.hid (Below.refl w.heap.size w)
          have HA0 := Lib.hid HA.out
          have HB0 := Lib.hid HB.out
          have HP0 := Lib.hid HP.out
          go_enter Tryd.func7, Tryd.ntmps7
          go_wp2_with fail
          refine (head_calls w (HT.out.on H0.out)).mono ?_
          rintro e w1 ⟨rfl, hB⟩
          have H1 := Lib.hid (H0.out.trans (hB.mono H0.out.size))
          have HA1 := Lib.hid (HA0.out.on hB)
          have HB1 := Lib.hid (HB0.out.on hB)
          have HP1 := Lib.hid (HP0.out.on hB)
          clear hB H0 HA0 HB0 HP0
          go_wp2_with fail
          refine (few02_calls _ a w1 HA1.out).mono ?_
          rintro e w2 ⟨rfl, rfl⟩
          have H2 := Lib.hid H1.out
          have HA2 := Lib.hid HA1.out
          have HB2 := Lib.hid HB1.out
          have HP2 := Lib.hid HP1.out
          clear H1 HA1 HB1 HP1
          rw [HFA.out]
          go_wp2_with fail
          refine (few02_calls _ l w2 HB2.out).mono ?_
          rintro e w3 ⟨rfl, rfl⟩
          have H3 := Lib.hid H2.out
          have HA3 := Lib.hid HA2.out
          have HB3 := Lib.hid HB2.out
          have HP3 := Lib.hid HP2.out
          clear H2 HA2 HB2 HP2
          rw [HFB.out]
          go_wp2_with fail
          refine (few02_calls _ p w3 HP3.out).mono ?_
          rintro e w4 ⟨rfl, rfl⟩
          have H4 := Lib.hid H3.out
          have HA4 := Lib.hid HA3.out
          have HB4 := Lib.hid HB3.out
          have HP4 := Lib.hid HP3.out
          clear H3 HA3 HB3 HP3
          rw [HFP.out]
          go_wp2
          go_ret
          exact ⟨rfl, H4.out⟩
        · obtain ⟨m, hm⟩ : ∃ m, m = a.length := ⟨_, rfl⟩
          obtain ⟨n, hn⟩ : ∃ n, n = l.length := ⟨_, rfl⟩
          have HM : Hid (a.length = m) := Lib.hid hm.symm
          have HN : Hid (l.length = n) := Lib.hid hn.symm
          rw [← hm] at HA hla hlen
          rw [← hn] at HB hlb hlen hBc
          rw [← hm, ← hn]
          clear hm hn
          have hmn : m ≤ n := by omega
          cases hck : extT (rootT a) m (rootT l) n p with
          | false =>
            have HCK := Lib.hid hck
            clear hck
            have H0 : Hid (Below w.heap.size w w) := Lib.hid (Below.refl w.heap.size w)
            have HA0 := Lib.hid HA.out
            have HB0 := Lib.hid HB.out
            have HP0 := Lib.hid HP.out
            go_enter Tryd.func7, Tryd.ntmps7
            go_wp2_with fail
            refine (head_calls w (HT.out.on H0.out)).mono ?_
            rintro e w1 ⟨rfl, hB⟩
            have H1 := Lib.hid (H0.out.trans (hB.mono H0.out.size))
            have HA1 := Lib.hid (HA0.out.on hB)
            have HB1 := Lib.hid (HB0.out.on hB)
            have HP1 := Lib.hid (HP0.out.on hB)
            clear hB H0 HA0 HB0 HP0
            go_wp2_with fail
            refine (few02_calls _ a w1 HA1.out).mono ?_
            rintro e w2 ⟨rfl, rfl⟩
            have H2 := Lib.hid H1.out
            have HA2 := Lib.hid HA1.out
            have HB2 := Lib.hid HB1.out
            have HP2 := Lib.hid HP1.out
            clear H1 HA1 HB1 HP1
            rw [HFA.out]
            go_wp2_with fail
            refine (few02_calls _ l w2 HB2.out).mono ?_
            rintro e w3 ⟨rfl, rfl⟩
            have H3 := Lib.hid H2.out
            have HA3 := Lib.hid HA2.out
            have HB3 := Lib.hid HB2.out
            have HP3 := Lib.hid HP2.out
            clear H2 HA2 HB2 HP2
            rw [HFB.out]
            go_wp2_with fail
            refine (few02_calls _ p w3 HP3.out).mono ?_
            rintro e w4 ⟨rfl, rfl⟩
            have H4 := Lib.hid H3.out
            have HA4 := Lib.hid HA3.out
            have HB4 := Lib.hid HB3.out
            have HP4 := Lib.hid HP3.out
            clear H3 HA3 HB3 HP3
            rw [HFP.out]
            go_wp2_with fail
            refine (root_calls _ a _ w4 rfl HA4.out (big HLA.out.2 (by decide)) (by have := HM.out; omega) (HT.out.on H4.out)).mono ?_
            rintro e w5 ⟨rfl, hB⟩
            have H5 := Lib.hid (H4.out.trans (hB.mono H4.out.size))
            have HA5 := Lib.hid (HA4.out.on hB)
            have HB5 := Lib.hid (HB4.out.on hB)
            have HP5 := Lib.hid (HP4.out.on hB)
            clear hB H4 HA4 HB4 HP4
            go_wp2_with fail
            refine (root_calls _ l _ w5 rfl HB5.out (big HLB.out.2 (by decide)) (by have := HN.out; omega) (HT.out.on H5.out)).mono ?_
            rintro e w6 ⟨rfl, hB⟩
            have H6 := Lib.hid (H5.out.trans (hB.mono H5.out.size))
            have HA6 := Lib.hid (HA5.out.on hB)
            have HB6 := Lib.hid (HB5.out.on hB)
            have HP6 := Lib.hid (HP5.out.on hB)
            clear hB H5 HA5 HB5 HP5
            go_wp2_with fail
            refine (ext_calls (rootT a) m (rootT l) n _ p w6 HP6.out (by have := HLP.out.1; omega) (big HLP.out.2 (by decide)) (by rw [root_size]; omega) (by rw [root_size]; omega) (HT.out.on H6.out)).mono ?_
            rintro e w7 ⟨rfl, hB⟩
            have H7 := Lib.hid (H6.out.trans (hB.mono H6.out.size))
            have HA7 := Lib.hid (HA6.out.on hB)
            have HB7 := Lib.hid (HB6.out.on hB)
            have HP7 := Lib.hid (HP6.out.on hB)
            clear hB H6 HA6 HB6 HP6
            rw [HCK.out]
            go_wp2
            go_ret
            exact ⟨rfl, H7.out⟩
          | true =>
            have HCK := Lib.hid hck
            have hcut : ∀ W, (Instr.slice 22 (.slice aB n cB) none (some (.int .i64 (m : Int))) none).run Tryd.prog W = .ok (.slice aB m cB) W := by
              intro W
              cases aB with
              | none =>
                have hl0 : l = [] := by
                  obtain ⟨ao, c, e, _, _, hc⟩ := HB.out
                  cases e
                  cases l with
                  | nil => rfl
                  | cons x r => obtain ⟨b, o, e, _⟩ := hc 0 (by simp); cases e
                have hn0 : n = 0 := by rw [← HN.out, hl0]; rfl
                have hm0 : m = 0 := by omega
                subst hn0 hm0
                exact run_slice_nil0 W
              | some ad =>
                obtain ⟨b, o, sp⟩ := ad
                by_cases hn0 : n = 0
                · have hm0 : m = 0 := by omega
                  subst hn0 hm0
                  go_simp
                · obtain ⟨ao, c, e, _, _, hc⟩ := HB.out
                  cases e
                  obtain ⟨b', o', e', _⟩ := hc 0 (by rw [HN.out]; omega)
                  cases e'
                  exact run_slice_to (by omega) W
            cases hs : sameB a (l.take m) with
            | true =>
              have HS := Lib.hid hs
              clear hs hck
              have H0 : Hid (Below w.heap.size w w) := Lib.hid (Below.refl w.heap.size w)
              have HA0 := Lib.hid HA.out
              have HB0 := Lib.hid HB.out
              have HP0 := Lib.hid HP.out
              go_enter Tryd.func7, Tryd.ntmps7
              go_wp2_with fail
              refine (head_calls w (HT.out.on H0.out)).mono ?_
              rintro e w1 ⟨rfl, hB⟩
              have H1 := Lib.hid (H0.out.trans (hB.mono H0.out.size))
              have HA1 := Lib.hid (HA0.out.on hB)
              have HB1 := Lib.hid (HB0.out.on hB)
              have HP1 := Lib.hid (HP0.out.on hB)
              clear hB H0 HA0 HB0 HP0
              go_wp2_with fail
              refine (few02_calls _ a w1 HA1.out).mono ?_
              rintro e w2 ⟨rfl, rfl⟩
              have H2 := Lib.hid H1.out
              have HA2 := Lib.hid HA1.out
              have HB2 := Lib.hid HB1.out
              have HP2 := Lib.hid HP1.out
              clear H1 HA1 HB1 HP1
              rw [HFA.out]
              go_wp2_with fail
              refine (few02_calls _ l w2 HB2.out).mono ?_
              rintro e w3 ⟨rfl, rfl⟩
              have H3 := Lib.hid H2.out
              have HA3 := Lib.hid HA2.out
              have HB3 := Lib.hid HB2.out
              have HP3 := Lib.hid HP2.out
              clear H2 HA2 HB2 HP2
              rw [HFB.out]
              go_wp2_with fail
              refine (few02_calls _ p w3 HP3.out).mono ?_
              rintro e w4 ⟨rfl, rfl⟩
              have H4 := Lib.hid H3.out
              have HA4 := Lib.hid HA3.out
              have HB4 := Lib.hid HB3.out
              have HP4 := Lib.hid HP3.out
              clear H3 HA3 HB3 HP3
              rw [HFP.out]
              go_wp2_with fail
              refine (root_calls _ a _ w4 rfl HA4.out (big HLA.out.2 (by decide)) (by have := HM.out; omega) (HT.out.on H4.out)).mono ?_
              rintro e w5 ⟨rfl, hB⟩
              have H5 := Lib.hid (H4.out.trans (hB.mono H4.out.size))
              have HA5 := Lib.hid (HA4.out.on hB)
              have HB5 := Lib.hid (HB4.out.on hB)
              have HP5 := Lib.hid (HP4.out.on hB)
              clear hB H4 HA4 HB4 HP4
              go_wp2_with fail
              refine (root_calls _ l _ w5 rfl HB5.out (big HLB.out.2 (by decide)) (by have := HN.out; omega) (HT.out.on H5.out)).mono ?_
              rintro e w6 ⟨rfl, hB⟩
              have H6 := Lib.hid (H5.out.trans (hB.mono H5.out.size))
              have HA6 := Lib.hid (HA5.out.on hB)
              have HB6 := Lib.hid (HB5.out.on hB)
              have HP6 := Lib.hid (HP5.out.on hB)
              clear hB H5 HA5 HB5 HP5
              go_wp2_with fail
              refine (ext_calls (rootT a) m (rootT l) n _ p w6 HP6.out (by have := HLP.out.1; omega) (big HLP.out.2 (by decide)) (by rw [root_size]; omega) (by rw [root_size]; omega) (HT.out.on H6.out)).mono ?_
              rintro e w7 ⟨rfl, hB⟩
              have H7 := Lib.hid (H6.out.trans (hB.mono H6.out.size))
              have HA7 := Lib.hid (HA6.out.on hB)
              have HB7 := Lib.hid (HB6.out.on hB)
              have HP7 := Lib.hid (HP6.out.on hB)
              clear hB H6 HA6 HB6 HP6
              rw [HCK.out]
              go_wp2_with fail
              refine (same_calls _ _ a (l.take m) w7 HA7.out.strs (strc_take HB7.out hmn).strs).mono ?_
              rintro e w8 ⟨rfl, hB⟩
              have H8 := Lib.hid (H7.out.trans (hB.mono H7.out.size))
              have HA8 := Lib.hid (HA7.out.on hB)
              have HB8 := Lib.hid (HB7.out.on hB)
              have HP8 := Lib.hid (HP7.out.on hB)
              clear hB H7 HA7 HB7 HP7
              rw [HS.out]
              go_wp2
              go_ret
              exact ⟨rfl, H8.out⟩
            | false =>
              have HS := Lib.hid hs
              have hne : a ≠ l.take m := of_decide_eq_false hs
              have hm0 : 0 < m := by
                rcases Nat.eq_zero_or_pos m with e | e
                · exfalso
                  apply hne
                  have h0 := HM.out
                  rw [e] at h0 ⊢
                  rw [List.eq_nil_of_length_eq_zero h0]
                  rfl
                · exact e
              have hex := hck
              have hpt := ext_parts hck hm0
              have HQ1 : Hid ((linkT l m true).length = p.length) := Lib.hid (by rw [link_length, HN.out, hpt.1])
              have HQ2 := Lib.hid hpt.1
              have HP16 := Lib.hid (all_16 hpt.2.2.2)
              have HCL : Hid (Clash (textsT a ++ textsT l ++ textsT (l.take m) ++ linkTextsT n m true (rootT a) p)) := Lib.hid (by
                have hM := HM.out
                have hN := HN.out
                subst hM hN
                exact cont_clash hck hm0 hmn hne)
              have hra := root_size a
              have hs2 : ∀ s ∈ l.take m, s.size ≤ 100 := fun s hs => HLB.out.2 s (List.mem_of_mem_take hs)
              have HTS := Lib.hid (mem_both (mem_both (mem_both (textsT_size a HLA.out.2) (textsT_size l HLB.out.2)) (textsT_size (l.take m) hs2)) (linkTexts_size n m true (rootT a) p (by omega) HP16.out))
              have hta : (textsT a).length ≤ 40 := by have := (texts_len a).2; have := HM.out; omega
              have htl : (textsT l).length ≤ 40 := by have := (texts_len l).2; have := HN.out; omega
              have htk : (textsT (l.take m)).length ≤ 40 := by have := (texts_len (l.take m)).2; rw [List.length_take] at this; have := HN.out; omega
              have hlt := linkTexts_len n m true (rootT a) p
              have HS2 := Lib.hid hs2
              have hm0' : ((m : Int) == 0) = false := by rw [beq_eq_false_iff_ne]; omega
              have hlk : (l.take m).length = m := by rw [List.length_take]; have := HN.out; omega
              have HLK := Lib.hid hlk
              clear hs hck hne hex hpt hra hs2 hlk
              have H0 : Hid (Below w.heap.size w w) := Lib.hid (Below.refl w.heap.size w)
              have HA0 := Lib.hid HA.out
              have HB0 := Lib.hid HB.out
              have HP0 := Lib.hid HP.out
              go_enter Tryd.func7, Tryd.ntmps7
              go_wp2_with fail
              refine (head_calls w (HT.out.on H0.out)).mono ?_
              rintro e w1 ⟨rfl, hB⟩
              have H1 := Lib.hid (H0.out.trans (hB.mono H0.out.size))
              have HA1 := Lib.hid (HA0.out.on hB)
              have HB1 := Lib.hid (HB0.out.on hB)
              have HP1 := Lib.hid (HP0.out.on hB)
              clear hB H0 HA0 HB0 HP0
              go_wp2_with fail
              refine (few02_calls _ a w1 HA1.out).mono ?_
              rintro e w2 ⟨rfl, rfl⟩
              have H2 := Lib.hid H1.out
              have HA2 := Lib.hid HA1.out
              have HB2 := Lib.hid HB1.out
              have HP2 := Lib.hid HP1.out
              clear H1 HA1 HB1 HP1
              rw [HFA.out]
              go_wp2_with fail
              refine (few02_calls _ l w2 HB2.out).mono ?_
              rintro e w3 ⟨rfl, rfl⟩
              have H3 := Lib.hid H2.out
              have HA3 := Lib.hid HA2.out
              have HB3 := Lib.hid HB2.out
              have HP3 := Lib.hid HP2.out
              clear H2 HA2 HB2 HP2
              rw [HFB.out]
              go_wp2_with fail
              refine (few02_calls _ p w3 HP3.out).mono ?_
              rintro e w4 ⟨rfl, rfl⟩
              have H4 := Lib.hid H3.out
              have HA4 := Lib.hid HA3.out
              have HB4 := Lib.hid HB3.out
              have HP4 := Lib.hid HP3.out
              clear H3 HA3 HB3 HP3
              rw [HFP.out]
              go_wp2_with fail
              refine (root_calls _ a _ w4 rfl HA4.out (big HLA.out.2 (by decide)) (by have := HM.out; omega) (HT.out.on H4.out)).mono ?_
              rintro e w5 ⟨rfl, hB⟩
              have H5 := Lib.hid (H4.out.trans (hB.mono H4.out.size))
              have HA5 := Lib.hid (HA4.out.on hB)
              have HB5 := Lib.hid (HB4.out.on hB)
              have HP5 := Lib.hid (HP4.out.on hB)
              clear hB H4 HA4 HB4 HP4
              go_wp2_with fail
              refine (root_calls _ l _ w5 rfl HB5.out (big HLB.out.2 (by decide)) (by have := HN.out; omega) (HT.out.on H5.out)).mono ?_
              rintro e w6 ⟨rfl, hB⟩
              have H6 := Lib.hid (H5.out.trans (hB.mono H5.out.size))
              have HA6 := Lib.hid (HA5.out.on hB)
              have HB6 := Lib.hid (HB5.out.on hB)
              have HP6 := Lib.hid (HP5.out.on hB)
              clear hB H5 HA5 HB5 HP5
              go_wp2_with fail
              refine (ext_calls (rootT a) m (rootT l) n _ p w6 HP6.out (by have := HLP.out.1; omega) (big HLP.out.2 (by decide)) (by rw [root_size]; omega) (by rw [root_size]; omega) (HT.out.on H6.out)).mono ?_
              rintro e w7 ⟨rfl, hB⟩
              have H7 := Lib.hid (H6.out.trans (hB.mono H6.out.size))
              have HA7 := Lib.hid (HA6.out.on hB)
              have HB7 := Lib.hid (HB6.out.on hB)
              have HP7 := Lib.hid (HP6.out.on hB)
              clear hB H6 HA6 HB6 HP6
              rw [HCK.out]
              go_wp2_with fail
              refine (same_calls _ _ a (l.take m) w7 HA7.out.strs (strc_take HB7.out hmn).strs).mono ?_
              rintro e w8 ⟨rfl, hB⟩
              have H8 := Lib.hid (H7.out.trans (hB.mono H7.out.size))
              have HA8 := Lib.hid (HA7.out.on hB)
              have HB8 := Lib.hid (HB7.out.on hB)
              have HP8 := Lib.hid (HP7.out.on hB)
              clear hB H7 HA7 HB7 HP7
              rw [HS.out]
              go_wp2_with fail
              refine (link_ok l _ m w8 HB8.out (big HLB.out.2 (by decide)) (by have := HN.out; omega) hm0 (by have := HN.out; omega) (HT.out.on H8.out)).mono ?_
              rintro e w9 ⟨v1, rfl, hp1, hB⟩
              have H9 := Lib.hid (H8.out.trans (hB.mono H8.out.size))
              have HA9 := Lib.hid (HA8.out.on hB)
              have HB9 := Lib.hid (HB8.out.on hB)
              have HP9 := Lib.hid (HP8.out.on hB)
              clear hB H8 HA8 HB8 HP8
              obtain ⟨ao1, c1, rfl⟩ := strc_form hp1
              rw [HQ1.out]
              clear hp1
              go_wp2_with fail
              refine wp_region_any (by kernel_rfl) ?_
              change wpAny _ _ _ _ _ _ _ (World.drew _)
              have H10 := Lib.hid H9.out.drew
              have hdr : Below w9.heap.size w9 w9.drew := (Below.refl _ _).drew
              have HA10 := Lib.hid (HA9.out.on hdr)
              have HB10 := Lib.hid (HB9.out.on hdr)
              have HP10 := Lib.hid (HP9.out.on hdr)
              clear hdr H9 HA9 HB9 HP9
              generalize w9.drew = w10 at *
              refine wpAny_take (i := 0) (v := .slice aA m cA) rfl (by kernel_rfl) (by kernel_rfl) (by kernel_rfl) (fun _ _ _ h => h) (Or.inl ⟨by kernel_rfl, fun W => by go_simp⟩) ?_
              refine wpAny_take (i := 2) (v := .slice aB n cB) rfl (by kernel_rfl) (by kernel_rfl) (by kernel_rfl) (fun _ _ _ h => h) (Or.inl ⟨by kernel_rfl, fun W => by go_simp⟩) ?_
              refine wpAny_take (i := 5) (v := .slice aB n cB) rfl (by kernel_rfl) (by kernel_rfl) (by kernel_rfl) (fun _ _ _ h => h) (Or.inl ⟨by kernel_rfl, fun W => by go_simp⟩) ?_
              refine wpAny_take (i := 6) (v := .slice aA m cA) rfl (by kernel_rfl) (by kernel_rfl) (by kernel_rfl) (fun _ _ _ h => h) (Or.inl ⟨by kernel_rfl, fun W => by go_simp⟩) ?_
              refine wpAny_take (i := 7) (v := .int .i64 (m : Int)) rfl (by kernel_rfl) (by kernel_rfl) (by kernel_rfl) (fun _ _ _ h => h) (Or.inl ⟨by kernel_rfl, fun W => by go_simp⟩) ?_
              refine wpAny_take (i := 8) (v := .slice aB m cB) rfl (by kernel_rfl) (by kernel_rfl) (by kernel_rfl) (fun _ _ _ h => h) (Or.inl ⟨by kernel_rfl, fun W => by go_simp⟩) ?_
              refine wpAny_ready (rs := [1]) (by kernel_rfl) (by simp) ?_
              refine AllReady.cons rfl (fun K hK => ?_) AllReady.nil
              go_simp
              refine (texts_calls _ a _ w10 rfl HA10.out (big HLA.out.2 (by decide)) (by have := HM.out; omega)).mono ?_
              rintro e w11 ⟨vt1, rfl, ho, hB⟩
              have H11 := Lib.hid (H10.out.trans (hB.mono H10.out.size))
              have HA11 := Lib.hid (HA10.out.on hB)
              have HB11 := Lib.hid (HB10.out.on hB)
              have HP11 := Lib.hid (HP10.out.on hB)
              have HOA := Lib.hid (own_mono ho H10.out.size)
              clear ho
              clear hB H10 HA10 HB10 HP10
              refine hK _ _ ?_
              clear hK K
              refine wpAny_ready (rs := [3]) (by kernel_rfl) (by simp) ?_
              refine AllReady.cons rfl (fun K hK => ?_) AllReady.nil
              go_simp
              refine (texts_calls _ l _ w11 rfl HB11.out (big HLB.out.2 (by decide)) (by have := HN.out; omega)).mono ?_
              rintro e w12 ⟨vt2, rfl, ho, hB⟩
              have H12 := Lib.hid (H11.out.trans (hB.mono H11.out.size))
              have HA12 := Lib.hid (HA11.out.on hB)
              have HB12 := Lib.hid (HB11.out.on hB)
              have HP12 := Lib.hid (HP11.out.on hB)
              have HOC := Lib.hid ho.strc
              have HOAn := Lib.hid (HOA.out.on hB)
              clear ho HOA
              clear hB H11 HA11 HB11 HP11
              refine hK _ _ ?_
              clear hK K
              have hold12 := Lib.hid H12.out
              refine wpAny_ready (rs := [4]) (by kernel_rfl) (by simp) ?_
              refine AllReady.cons rfl (fun K hK => ?_) AllReady.nil
              refine ready_wanted (by kernel_rfl) ?_
              refine wp_appS (.tmp 75) (.tmp 77) rfl (by kernel_rfl) (by kernel_rfl) HOAn.out HOC.out H12.out (Nat.le_refl _) (by omega) ?_
              intro vab w13 ho h
              have HOvab := Lib.hid ho
              have H13 := Lib.hid h
              clear ho h H12
              refine hK _ _ ?_
              clear hK K
              have HBn : IsStrC w13 (.slice aB n cB) l := HB.out.on H13.out
              have HPn : Hid (IsStrC w13 (.slice aP p.length cP) p) := Lib.hid (HP.out.on H13.out)
              have HAn : Hid (IsStrC w13 (.slice aA m cA) a) := Lib.hid (HA.out.on H13.out)
              have HKn := Lib.hid (strc_take HBn hmn)
              clear HBn
              refine wpAny_ready (rs := [9]) (by kernel_rfl) (by simp) ?_
              refine AllReady.cons rfl (fun K hK => ?_) AllReady.nil
              go_simp
              refine (texts_calls _ (l.take m) _ w13 rfl (by have := HKn.out; rw [← HLK.out] at this; rw [← HLK.out]; exact this) (big HS2.out (by decide)) (by have := HLK.out; omega)).mono ?_
              rintro e w14 ⟨vt3, rfl, ho, hB⟩
              have H14 := Lib.hid (H13.out.trans (hB.mono H13.out.size))
              have HOD := Lib.hid ho.strc
              have HOAB := Lib.hid (HOvab.out.on hB)
              have HPm := Lib.hid (HPn.out.on hB)
              have HAm := Lib.hid (HAn.out.on hB)
              clear ho HOvab HKn HPn HAn
              clear hB H13
              refine hK _ _ ?_
              clear hK K
              refine wpAny_ready (rs := [10]) (by kernel_rfl) (by simp) ?_
              refine AllReady.cons rfl (fun K hK => ?_) AllReady.nil
              refine ready_wanted (by kernel_rfl) ?_
              refine wp_appS (.tmp 78) (.tmp 83) rfl (by kernel_rfl) (by kernel_rfl) HOAB.out HOD.out H14.out (Nat.le_refl _) (by rw [List.length_append]; omega) ?_
              intro vabc w15 ho h
              have HOvabc := Lib.hid ho
              have H15 := Lib.hid h
              clear ho h H14
              refine hK _ _ ?_
              clear hK K
              refine wpAny_take (i := 11) (v := vabc) rfl (by kernel_rfl) (by kernel_rfl) (by kernel_rfl) (fun _ _ _ h => h) (Or.inl ⟨by kernel_rfl, fun W => by go_simp⟩) ?_
              refine wpAny_done (by kernel_rfl) ?_ _
              have HPq : Hid (IsStrC w15 (.slice aP p.length cP) p) := Lib.hid (HP.out.on H15.out)
              have HAq : Hid (IsStrC w15 (.slice aA m cA) a) := Lib.hid (HA.out.on H15.out)
              clear HPm HAm
              go_wp2_with fail
              refine (root_calls _ a _ w15 rfl HAq.out (big HLA.out.2 (by decide)) (by have := HM.out; omega) (HT.out.on H15.out)).mono ?_
              rintro e w16 ⟨rfl, hB⟩
              have H16 := Lib.hid (H15.out.trans (hB.mono H15.out.size))
              have HPr := Lib.hid (HPq.out.on hB)
              have HO3 := Lib.hid (HOvabc.out.on hB)
              clear HPq HOvabc HAq
              clear hB H15
              go_wp2_with fail
              refine (ltexts_calls n m true (rootT a) p _ w16 hm0 hmn (by omega) (by rw [root_size]; omega) HPr.out HP16.out HQ2.out).mono ?_
              rintro e w17 ⟨vl, rfl, ho, hB⟩
              have H17 := Lib.hid (H16.out.trans (hB.mono H16.out.size))
              have HOE := Lib.hid ho.strc
              have HO4 := Lib.hid (HO3.out.on hB)
              clear ho HO3
              clear hB H16
              go_wp2_with (at_builtin; refine appS (by kernel_rfl) (.tmp 87) (.tmp 95) rfl rfl rfl HO4.out HOE.out H17.out (Nat.le_refl _) (by rw [List.length_append, List.length_append]; omega) ?_)
              intro v18 w18 ho h
              have HO18 := Lib.hid ho
              have H18 := Lib.hid h
              clear ho h H17
              go_wp2_with fail
              refine (shown_calls (textsT a ++ textsT l ++ textsT (l.take m) ++ linkTextsT n m true (rootT a) p) _ w18 (by have := HO18.out.strc; simpa only [List.append_assoc] using this) HTS.out (by rw [List.length_append, List.length_append, List.length_append]; omega) HCL.out).mono ?_
              rintro e w19 ⟨rfl, hB⟩
              have H19 := Lib.hid (H18.out.trans (hB.mono H18.out.size))
              clear hB H18
              go_wp2
              go_ret
              exact ⟨rfl, H19.out⟩
namespace treeContinues
theorem walk {w : World} (hT : Tabs w) (va : Value) (a : List ByteArray) (ha : IsStrC w va a) (vl : Value) (l : List ByteArray) (hl : IsStrC w vl l) (vp : Value) (p : List ByteArray) (hp : IsStrC w vp p) :
    Calls Tryd.prog 7 #[va, vl, vp] w fun e w' => e = .returned (.bool true) ∧ Below w.heap.size w w' := continues_law va vl vp a l p w ha hl hp hT
end treeContinues
end Go.Proofs.YtlchpdjpnabeiaaDoor
