import Derived.Test.YtlchpdjpnabeiaaDoorTrHead
set_option linter.unusedVariables false
namespace Go.Proofs.YtlchpdjpnabeiaaDoor
open Go Go.RowKit

theorem fewL_len {l : List ByteArray} (h : fewL l = true) : l.length ≤ 20 ∧ ∀ s ∈ l, s.size ≤ 100 := by
  unfold fewL fewB at h
  simp only [Bool.and_eq_true, List.all_eq_true, decide_eq_true_eq] at h
  exact ⟨h.1, h.2.1⟩
theorem big {l : List ByteArray} {M : Nat} (h : ∀ s ∈ l, s.size ≤ M) (hM : M ≤ 1099511627776) : ∀ s ∈ l, s.size ≤ 1099511627776 := fun s hs => Nat.le_trans (h s hs) hM
theorem strc_form {w : World} {v : Value} {l : List ByteArray} (h : IsStrC w v l) : ∃ ao cap, v = .slice ao l.length cap := by
  obtain ⟨ao, cap, e, _⟩ := h
  exact ⟨ao, cap, e⟩
theorem jB_size (ls : List ByteArray) (h : ∀ s ∈ ls, s.size ≤ 1000) (hl : ls.length ≤ 3) : (jB ls).size ≤ 1099511627776 := by
  have h1 := join_le 1000 ls h (by decide)
  have : (jB ls).size = (joinB ls).length := by unfold jB; rw [Lib.size_eq]; simp [bS]
  rw [this]
  have : (1000 + 21) * ls.length ≤ 3063 := by omega
  omega
theorem textsT_size (l : List ByteArray) (h : ∀ s ∈ l, s.size ≤ 100) : ∀ t ∈ textsT l, t.size ≤ 1099511627776 := by
  induction hn : l.length using Nat.strongRecOn generalizing l with
  | _ n ih =>
    subst hn
    intro t ht
    by_cases h1 : l.length ≤ 1
    · cases l with
      | nil =>
        rw [show textsT [] = [jB [sEmpty]] by rw [textsT]; rfl] at ht
        simp at ht; subst ht; exact jB_size _ (by simp; decide) (by simp)
      | cons s r =>
        have hr : r = [] := List.eq_nil_of_length_eq_zero (by rw [List.length_cons] at h1; omega)
        subst hr
        rw [textsT_one] at ht
        simp at ht; subst ht
        have := h s (by simp)
        exact jB_size _ (by simp; exact ⟨by decide, by omega⟩) (by simp)
    · have h2 := half_lt (n := l.length) (by omega)
      have h3 := half_pos (n := l.length) (by omega)
      rw [textsT, dif_neg h1] at ht
      simp only [List.mem_append, List.mem_singleton] at ht
      rcases ht with (ht | ht) | ht
      · exact ih (half l.length) h2 (l.take (half l.length)) (fun s hs => h s (List.mem_of_mem_take hs)) (by rw [List.length_take]; omega) t ht
      · exact ih (l.length - half l.length) (by omega) (l.drop (half l.length)) (fun s hs => h s (List.mem_of_mem_drop hs)) (by rw [List.length_drop]) t ht
      · subst ht
        have a1 := root_size (l.take (half l.length))
        have a2 := root_size (l.drop (half l.length))
        exact jB_size _ (by simp; exact ⟨by decide, by omega, by omega⟩) (by simp)
theorem pathTexts_size (n : Nat) : ∀ (i : Nat) (s : ByteArray) (p : List ByteArray), s.size ≤ 100 → (∀ x ∈ p, x.size ≤ 100) → ∀ t ∈ pathTextsT n i s p, t.size ≤ 1099511627776 := by
  induction n using Nat.strongRecOn with
  | _ n ih =>
    intro i s p hs hp t ht
    rw [pathTextsT] at ht
    have hps : (popV p).size ≤ 100 := popV_sz hp
    have hp2 : ∀ x ∈ p.dropLast, x.size ≤ 100 := fun x hx => hp x (List.dropLast_subset p hx)
    have hd := dg_size [sLeaf, s]
    split at ht
    · simp at ht; subst ht
      exact jB_size _ (by simp; exact ⟨by decide, by omega⟩) (by simp)
    · have h2 := half_lt (n := n) (by omega)
      have h3 := half_pos (n := n) (by omega)
      split at ht
      · simp only [List.mem_append, List.mem_singleton] at ht
        rcases ht with ht | ht
        · exact ih (half n) h2 i s p.dropLast hs hp2 t ht
        · subst ht
          have a1 := upT_size (half n) i _ p.dropLast hd
          exact jB_size _ (by simp; exact ⟨by decide, by omega, by omega⟩) (by simp)
      · simp only [List.mem_append, List.mem_singleton] at ht
        rcases ht with ht | ht
        · exact ih (n - half n) (by omega) (i - half n) s p.dropLast hs hp2 t ht
        · subst ht
          have a1 := upT_size (n - half n) (i - half n) _ p.dropLast hd
          exact jB_size _ (by simp; exact ⟨by decide, by omega, by omega⟩) (by simp)
theorem bothT_16 (n : Nat) : ∀ (m : Nat) (wh : Bool) (old : ByteArray) (p : List ByteArray), old.size ≤ 16 → (∀ s ∈ p, s.size ≤ 16) → (bothT n m wh old p).1.size ≤ 16 ∧ (bothT n m wh old p).2.size ≤ 16 := by
  induction n using Nat.strongRecOn with
  | _ n ih =>
    intro m wh old p ho hp
    rw [bothT]
    have hps := popV_le hp
    split
    · cases wh
      · exact ⟨hps, hps⟩
      · exact ⟨ho, ho⟩
    · have h2 := half_lt (n := n) (by omega)
      have h3 := half_pos (n := n) (by omega)
      have hp2 : ∀ x ∈ p.dropLast, x.size ≤ 16 := fun x hx => hp x (List.dropLast_subset p hx)
      split
      · have := ih (half n) h2 m wh old p.dropLast ho hp2
        exact ⟨this.1, by rw [dg_size]; omega⟩
      · exact ⟨by rw [dg_size]; omega, by rw [dg_size]; omega⟩
theorem linkTexts_size (n : Nat) : ∀ (m : Nat) (wh : Bool) (old : ByteArray) (p : List ByteArray), old.size ≤ 16 → (∀ s ∈ p, s.size ≤ 16) → ∀ t ∈ linkTextsT n m wh old p, t.size ≤ 1099511627776 := by
  induction n using Nat.strongRecOn with
  | _ n ih =>
    intro m wh old p ho hp t ht
    rw [linkTextsT] at ht
    have hps := popV_le hp
    have hp2 : ∀ x ∈ p.dropLast, x.size ≤ 16 := fun x hx => hp x (List.dropLast_subset p hx)
    split at ht
    · cases ht
    · have h2 := half_lt (n := n) (by omega)
      have h3 := half_pos (n := n) (by omega)
      split at ht
      · simp only [List.mem_append, List.mem_singleton] at ht
        rcases ht with ht | ht
        · exact ih (half n) h2 m wh old p.dropLast ho hp2 t ht
        · subst ht
          have a1 := bothT_16 (half n) m wh old p.dropLast ho hp2
          exact jB_size _ (by simp; exact ⟨by decide, by omega, by omega⟩) (by simp)
      · simp only [List.mem_append, List.mem_cons, List.not_mem_nil, or_false] at ht
        have a1 := bothT_16 (n - half n) (m - half n) false old p.dropLast ho hp2
        rcases ht with ht | ht | ht
        · exact ih (n - half n) (by omega) (m - half n) false old p.dropLast ho hp2 t ht
        · subst ht
          exact jB_size _ (by simp; exact ⟨by decide, by omega, by omega⟩) (by simp)
        · subst ht
          exact jB_size _ (by simp; exact ⟨by decide, by omega, by omega⟩) (by simp)
theorem mem_both {l m : List ByteArray} {M : Nat} (h1 : ∀ t ∈ l, t.size ≤ M) (h2 : ∀ t ∈ m, t.size ≤ M) : ∀ t ∈ l ++ m, t.size ≤ M := fun t ht => by
  rcases List.mem_append.1 ht with h | h
  · exact h1 t h
  · exact h2 t h
set_option maxRecDepth 100000 in
set_option maxHeartbeats 4000000 in
theorem roots_law (va vb : Value) (a b : List ByteArray) (w : World) (ha : IsStrC w va a) (hb : IsStrC w vb b) (hT : Tabs w) :
    Calls Tryd.prog 5 #[va, vb] w (HeadPost w) := by
  have HT := Lib.hid hT
  have HA := Lib.hid ha
  have HB := Lib.hid hb
  obtain ⟨aA, cA, rfl⟩ := strc_form ha
  obtain ⟨aB, cB, rfl⟩ := strc_form hb
  clear ha hb hT
  cases hfa : fewL a with
  | false =>
    have HFA := Lib.hid hfa
    clear hfa
    have H0 : Hid (Below w.heap.size w w) := Lib.hid (Below.refl w.heap.size w)
    have HA0 := Lib.hid HA.out
    have HB0 := Lib.hid HB.out
    go_enter Tryd.func5, Tryd.ntmps5
    go_wp2_with fail
    refine (head_calls w (HT.out.on H0.out)).mono ?_
    rintro e w1 ⟨rfl, hB⟩
    have H1 := Lib.hid (H0.out.trans (hB.mono H0.out.size))
    have HA1 := Lib.hid (HA0.out.on hB)
    have HB1 := Lib.hid (HB0.out.on hB)
    clear hB H0 HA0 HB0
    go_wp2_with fail
    refine (few02_calls _ a w1 HA1.out).mono ?_
    rintro e w2 ⟨rfl, rfl⟩
    have H2 := Lib.hid H1.out
    have HA2 := Lib.hid HA1.out
    have HB2 := Lib.hid HB1.out
    clear H1 HA1 HB1
    rw [HFA.out]
    go_wp2
    go_ret
    exact ⟨rfl, H2.out⟩
  | true =>
    have HLA := Lib.hid (fewL_len hfa)
    have HFA := Lib.hid hfa
    have hla := HLA.out.1
    clear hfa
    cases hfb : fewL b with
    | false =>
      have HFB := Lib.hid hfb
      clear hfb
      have H0 : Hid (Below w.heap.size w w) := Lib.hid (Below.refl w.heap.size w)
      have HA0 := Lib.hid HA.out
      have HB0 := Lib.hid HB.out
      go_enter Tryd.func5, Tryd.ntmps5
      go_wp2_with fail
      refine (head_calls w (HT.out.on H0.out)).mono ?_
      rintro e w1 ⟨rfl, hB⟩
      have H1 := Lib.hid (H0.out.trans (hB.mono H0.out.size))
      have HA1 := Lib.hid (HA0.out.on hB)
      have HB1 := Lib.hid (HB0.out.on hB)
      clear hB H0 HA0 HB0
      go_wp2_with fail
      refine (few02_calls _ a w1 HA1.out).mono ?_
      rintro e w2 ⟨rfl, rfl⟩
      have H2 := Lib.hid H1.out
      have HA2 := Lib.hid HA1.out
      have HB2 := Lib.hid HB1.out
      clear H1 HA1 HB1
      rw [HFA.out]
      go_wp2_with fail
      refine (few02_calls _ b w2 HB2.out).mono ?_
      rintro e w3 ⟨rfl, rfl⟩
      have H3 := Lib.hid H2.out
      have HA3 := Lib.hid HA2.out
      have HB3 := Lib.hid HB2.out
      clear H2 HA2 HB2
      rw [HFB.out]
      go_wp2
      go_ret
      exact ⟨rfl, H3.out⟩
    | true =>
      have HLB := Lib.hid (fewL_len hfb)
      have HFB := Lib.hid hfb
      have hlb := HLB.out.1
      clear hfb
      by_cases hl : a.length = b.length
      · obtain ⟨n, hn⟩ : ∃ n, n = b.length := ⟨_, rfl⟩
        have HX : Hid (a.length = n) := Lib.hid (hl.trans hn.symm)
        have HY : Hid (b.length = n) := Lib.hid hn.symm
        rw [hl, ← hn] at HA
        rw [← hn] at HB
        rw [← hn] at hlb
        rw [hl, ← hn]
        clear hl hn hla
        cases hs : sameB a b with
        | true =>
          have HS := Lib.hid hs
          have hab : a = b := of_decide_eq_true hs
          have HR : Hid (rootT a = rootT b) := by rw [hab]; exact Lib.hid rfl
          clear hs hab
          have H0 : Hid (Below w.heap.size w w) := Lib.hid (Below.refl w.heap.size w)
          have HA0 := Lib.hid HA.out
          have HB0 := Lib.hid HB.out
          go_enter Tryd.func5, Tryd.ntmps5
          go_wp2_with fail
          refine (head_calls w (HT.out.on H0.out)).mono ?_
          rintro e w1 ⟨rfl, hB⟩
          have H1 := Lib.hid (H0.out.trans (hB.mono H0.out.size))
          have HA1 := Lib.hid (HA0.out.on hB)
          have HB1 := Lib.hid (HB0.out.on hB)
          clear hB H0 HA0 HB0
          go_wp2_with fail
          refine (few02_calls _ a w1 HA1.out).mono ?_
          rintro e w2 ⟨rfl, rfl⟩
          have H2 := Lib.hid H1.out
          have HA2 := Lib.hid HA1.out
          have HB2 := Lib.hid HB1.out
          clear H1 HA1 HB1
          rw [HFA.out]
          go_wp2_with fail
          refine (few02_calls _ b w2 HB2.out).mono ?_
          rintro e w3 ⟨rfl, rfl⟩
          have H3 := Lib.hid H2.out
          have HA3 := Lib.hid HA2.out
          have HB3 := Lib.hid HB2.out
          clear H2 HA2 HB2
          rw [HFB.out]
          go_wp2_with fail
          refine (same_calls _ _ a b w3 HA3.out.strs HB3.out.strs).mono ?_
          rintro e w4 ⟨rfl, hB⟩
          have H4 := Lib.hid (H3.out.trans (hB.mono H3.out.size))
          have HA4 := Lib.hid (HA3.out.on hB)
          have HB4 := Lib.hid (HB3.out.on hB)
          clear hB H3 HA3 HB3
          rw [HS.out]
          go_wp2_with fail
          refine (root_calls _ a _ w4 rfl HA4.out (big HLA.out.2 (by decide)) (by have := HX.out; omega) (HT.out.on H4.out)).mono ?_
          rintro e w5 ⟨rfl, hB⟩
          have H5 := Lib.hid (H4.out.trans (hB.mono H4.out.size))
          have HA5 := Lib.hid (HA4.out.on hB)
          have HB5 := Lib.hid (HB4.out.on hB)
          clear hB H4 HA4 HB4
          rw [HR.out]
          go_wp2_with fail
          refine (root_calls _ b _ w5 rfl HB5.out (big HLB.out.2 (by decide)) (by have := HY.out; omega) (HT.out.on H5.out)).mono ?_
          rintro e w6 ⟨rfl, hB⟩
          have H6 := Lib.hid (H5.out.trans (hB.mono H5.out.size))
          have HA6 := Lib.hid (HA5.out.on hB)
          have HB6 := Lib.hid (HB5.out.on hB)
          clear hB H5 HA5 HB5
          generalize rootT b = r at *
          go_wp2
          go_ret
          exact ⟨rfl, H6.out⟩
        | false =>
          have HS := Lib.hid hs
          have hab : a ≠ b := of_decide_eq_false hs
          by_cases hr : rootT a = rootT b
          · have HR := Lib.hid hr
            have HC : Hid (Clash (textsT a ++ textsT b)) := Lib.hid ((roots a b (HY.out.trans HX.out.symm) hr).resolve_left hab)
            have HTS := Lib.hid (mem_both (textsT_size a HLA.out.2) (textsT_size b HLB.out.2))
            have hta := (texts_len a).2
            have htb := (texts_len b).2
            have HXX := HX
            clear hs hab hr
            have H0 : Hid (Below w.heap.size w w) := Lib.hid (Below.refl w.heap.size w)
            have HA0 := Lib.hid HA.out
            have HB0 := Lib.hid HB.out
            go_enter Tryd.func5, Tryd.ntmps5
            go_wp2_with fail
            refine (head_calls w (HT.out.on H0.out)).mono ?_
            rintro e w1 ⟨rfl, hB⟩
            have H1 := Lib.hid (H0.out.trans (hB.mono H0.out.size))
            have HA1 := Lib.hid (HA0.out.on hB)
            have HB1 := Lib.hid (HB0.out.on hB)
            clear hB H0 HA0 HB0
            go_wp2_with fail
            refine (few02_calls _ a w1 HA1.out).mono ?_
            rintro e w2 ⟨rfl, rfl⟩
            have H2 := Lib.hid H1.out
            have HA2 := Lib.hid HA1.out
            have HB2 := Lib.hid HB1.out
            clear H1 HA1 HB1
            rw [HFA.out]
            go_wp2_with fail
            refine (few02_calls _ b w2 HB2.out).mono ?_
            rintro e w3 ⟨rfl, rfl⟩
            have H3 := Lib.hid H2.out
            have HA3 := Lib.hid HA2.out
            have HB3 := Lib.hid HB2.out
            clear H2 HA2 HB2
            rw [HFB.out]
            go_wp2_with fail
            refine (same_calls _ _ a b w3 HA3.out.strs HB3.out.strs).mono ?_
            rintro e w4 ⟨rfl, hB⟩
            have H4 := Lib.hid (H3.out.trans (hB.mono H3.out.size))
            have HA4 := Lib.hid (HA3.out.on hB)
            have HB4 := Lib.hid (HB3.out.on hB)
            clear hB H3 HA3 HB3
            rw [HS.out]
            go_wp2_with fail
            refine (root_calls _ a _ w4 rfl HA4.out (big HLA.out.2 (by decide)) (by have := HX.out; omega) (HT.out.on H4.out)).mono ?_
            rintro e w5 ⟨rfl, hB⟩
            have H5 := Lib.hid (H4.out.trans (hB.mono H4.out.size))
            have HA5 := Lib.hid (HA4.out.on hB)
            have HB5 := Lib.hid (HB4.out.on hB)
            clear hB H4 HA4 HB4
            rw [HR.out]
            go_wp2_with fail
            refine (root_calls _ b _ w5 rfl HB5.out (big HLB.out.2 (by decide)) (by have := HY.out; omega) (HT.out.on H5.out)).mono ?_
            rintro e w6 ⟨rfl, hB⟩
            have H6 := Lib.hid (H5.out.trans (hB.mono H5.out.size))
            have HA6 := Lib.hid (HA5.out.on hB)
            have HB6 := Lib.hid (HB5.out.on hB)
            clear hB H5 HA5 HB5
            generalize rootT b = r at *
            go_wp2_with fail
            refine (texts_calls _ a _ w6 rfl HA6.out (big HLA.out.2 (by decide)) (by have := HX.out; omega)).mono ?_
            rintro e w7 ⟨va, rfl, hoa, hB⟩
            have H7 := Lib.hid (H6.out.trans (hB.mono H6.out.size))
            have HA7 := Lib.hid (HA6.out.on hB)
            have HB7 := Lib.hid (HB6.out.on hB)
            have HOA := Lib.hid (own_mono hoa H6.out.size)
            clear hoa
            clear hB H6 HA6 HB6
            go_wp2_with fail
            refine (texts_calls _ b _ w7 rfl HB7.out (big HLB.out.2 (by decide)) (by have := HY.out; omega)).mono ?_
            rintro e w8 ⟨vb, rfl, hob, hB⟩
            have H8 := Lib.hid (H7.out.trans (hB.mono H7.out.size))
            have HA8 := Lib.hid (HA7.out.on hB)
            have HB8 := Lib.hid (HB7.out.on hB)
            have HOC := Lib.hid hob.strc
            have HOA := Lib.hid (HOA.out.on hB)
            clear hob
            clear hB H7 HA7 HB7
            go_wp2_with (at_builtin; refine appS (by kernel_rfl) (.tmp 43) (.tmp 45) rfl rfl rfl HOA.out HOC.out H8.out (Nat.le_refl _) (by have := HX.out; have := HY.out; omega) ?_)
            intro v9 w9 ho h
            have HO9 := Lib.hid ho
            have H9 := Lib.hid h
            clear ho h H8
            go_wp2_with fail
            refine (shown_calls (textsT a ++ textsT b) _ w9 HO9.out.strc HTS.out (by rw [List.length_append]; have := HX.out; have := HY.out; omega) HC.out).mono ?_
            rintro e w10 ⟨rfl, hB⟩
            have H10 := Lib.hid (H9.out.trans (hB.mono H9.out.size))
            clear hB H9
            go_wp2
            go_ret
            exact ⟨rfl, H10.out⟩
          · have HR := Lib.hid (strne hr)
            clear hs hab hr
            have H0 : Hid (Below w.heap.size w w) := Lib.hid (Below.refl w.heap.size w)
            have HA0 := Lib.hid HA.out
            have HB0 := Lib.hid HB.out
            go_enter Tryd.func5, Tryd.ntmps5
            go_wp2_with fail
            refine (head_calls w (HT.out.on H0.out)).mono ?_
            rintro e w1 ⟨rfl, hB⟩
            have H1 := Lib.hid (H0.out.trans (hB.mono H0.out.size))
            have HA1 := Lib.hid (HA0.out.on hB)
            have HB1 := Lib.hid (HB0.out.on hB)
            clear hB H0 HA0 HB0
            go_wp2_with fail
            refine (few02_calls _ a w1 HA1.out).mono ?_
            rintro e w2 ⟨rfl, rfl⟩
            have H2 := Lib.hid H1.out
            have HA2 := Lib.hid HA1.out
            have HB2 := Lib.hid HB1.out
            clear H1 HA1 HB1
            rw [HFA.out]
            go_wp2_with fail
            refine (few02_calls _ b w2 HB2.out).mono ?_
            rintro e w3 ⟨rfl, rfl⟩
            have H3 := Lib.hid H2.out
            have HA3 := Lib.hid HA2.out
            have HB3 := Lib.hid HB2.out
            clear H2 HA2 HB2
            rw [HFB.out]
            go_wp2_with fail
            refine (same_calls _ _ a b w3 HA3.out.strs HB3.out.strs).mono ?_
            rintro e w4 ⟨rfl, hB⟩
            have H4 := Lib.hid (H3.out.trans (hB.mono H3.out.size))
            have HA4 := Lib.hid (HA3.out.on hB)
            have HB4 := Lib.hid (HB3.out.on hB)
            clear hB H3 HA3 HB3
            rw [HS.out]
            go_wp2_with fail
            refine (root_calls _ a _ w4 rfl HA4.out (big HLA.out.2 (by decide)) (by have := HX.out; omega) (HT.out.on H4.out)).mono ?_
            rintro e w5 ⟨rfl, hB⟩
            have H5 := Lib.hid (H4.out.trans (hB.mono H4.out.size))
            have HA5 := Lib.hid (HA4.out.on hB)
            have HB5 := Lib.hid (HB4.out.on hB)
            clear hB H4 HA4 HB4
            go_wp2_with fail
            refine (root_calls _ b _ w5 rfl HB5.out (big HLB.out.2 (by decide)) (by have := HY.out; omega) (HT.out.on H5.out)).mono ?_
            rintro e w6 ⟨rfl, hB⟩
            have H6 := Lib.hid (H5.out.trans (hB.mono H5.out.size))
            have HA6 := Lib.hid (HA5.out.on hB)
            have HB6 := Lib.hid (HB5.out.on hB)
            clear hB H5 HA5 HB5
            have hr := HR.out
            generalize rootT a = r1 at *
            generalize rootT b = r2 at *
            go_wp2
            go_ret
            exact ⟨rfl, H6.out⟩
      · have hlA := HLA.out.1
        have H0 : Hid (Below w.heap.size w w) := Lib.hid (Below.refl w.heap.size w)
        have HA0 := Lib.hid HA.out
        have HB0 := Lib.hid HB.out
        go_enter Tryd.func5, Tryd.ntmps5
        go_wp2_with fail
        refine (head_calls w (HT.out.on H0.out)).mono ?_
        rintro e w1 ⟨rfl, hB⟩
        have H1 := Lib.hid (H0.out.trans (hB.mono H0.out.size))
        have HA1 := Lib.hid (HA0.out.on hB)
        have HB1 := Lib.hid (HB0.out.on hB)
        clear hB H0 HA0 HB0
        go_wp2_with fail
        refine (few02_calls _ a w1 HA1.out).mono ?_
        rintro e w2 ⟨rfl, rfl⟩
        have H2 := Lib.hid H1.out
        have HA2 := Lib.hid HA1.out
        have HB2 := Lib.hid HB1.out
        clear H1 HA1 HB1
        rw [HFA.out]
        go_wp2_with fail
        refine (few02_calls _ b w2 HB2.out).mono ?_
        rintro e w3 ⟨rfl, rfl⟩
        have H3 := Lib.hid H2.out
        have HA3 := Lib.hid HA2.out
        have HB3 := Lib.hid HB2.out
        clear H2 HA2 HB2
        rw [HFB.out]
        go_wp2
        go_ret
        exact ⟨rfl, H3.out⟩
theorem strc_cell {w : World} {b o n cap : Nat} {l : List ByteArray} (h : IsStrC w (.slice (some ⟨b, o, none⟩) n cap) l) (i : Nat) (hi : i < l.length) : w.cell? ⟨b, o + i, none⟩ = some (.string (l.getD i ByteArray.empty)) := by
  obtain ⟨ao, c, e, _, _, hc⟩ := h
  cases e
  obtain ⟨b', o', e, _, h⟩ := hc i hi
  cases e
  exact h
theorem strc_some {w : World} {v : Value} {l : List ByteArray} (h : IsStrC w v l) (hl : 0 < l.length) : ∃ b o cap, v = .slice (some ⟨b, o, none⟩) l.length cap ∧ l.length ≤ cap ∧ cap ≤ maxLen := by
  obtain ⟨ao, cap, rfl, h1, h2, hc⟩ := h
  obtain ⟨b, o, rfl, _⟩ := hc 0 hl
  exact ⟨b, o, cap, rfl, h1, h2⟩
namespace treeRoots
theorem walk {w : World} (hT : Tabs w) (va : Value) (a : List ByteArray) (ha : IsStrC w va a) (vb : Value) (b : List ByteArray) (hb : IsStrC w vb b) :
    Calls Tryd.prog 5 #[va, vb] w fun e w' => e = .returned (.bool true) ∧ Below w.heap.size w w' := roots_law va vb a b w ha hb hT
end treeRoots
end Go.Proofs.YtlchpdjpnabeiaaDoor
