import Derived.Test.YtlchpdjpnabeiaaDoorTrLawsC
set_option linter.unusedVariables false
namespace Go.Proofs.YtlchpdjpnabeiaaDoor
open Go Go.RowKit

/-- the number of binary digits -/
def nd (n : Nat) : Nat := if h : 0 < n then 1 + nd (n / 2) else 0
termination_by n
decreasing_by omega
theorem nd_pos {n : Nat} (h : 0 < n) : nd n = 1 + nd (n / 2) := by rw [nd, dif_pos h]
theorem nd_zero : nd 0 = 0 := by rw [nd, dif_neg (by decide)]
theorem nd_le (n : Nat) : nd n ≤ n := by
  induction n using Nat.strongRecOn with
  | _ n ih =>
    rw [nd]
    split
    · have := ih (n / 2) (by omega); omega
    · omega
theorem nd_lt (n : Nat) : n < 2 ^ nd n := by
  induction n using Nat.strongRecOn with
  | _ n ih =>
    by_cases h : 0 < n
    · rw [nd_pos h, Nat.add_comm, Nat.pow_succ]
      have := ih (n / 2) (by omega)
      omega
    · rw [show n = 0 by omega, nd_zero]; decide
theorem nd_pow (n : Nat) : n ≤ 2 ^ nd n := Nat.le_of_lt (nd_lt n)
/-- l[:k], nil let in -/
theorem run_cut {W0 : World} {ao : Option Addr} {n cap k : Nat} {l : List ByteArray} (h : IsStrC W0 (.slice ao n cap) l) (hn : l.length = n) (hcap : n ≤ cap) (hk : k ≤ n) (W : World) :
    (Instr.slice 22 (.slice ao n cap) none (some (.int .i64 (k : Int))) none).run Tryd.prog W = .ok (.slice ao k cap) W := by
  cases ao with
  | none =>
    have hl0 : l = [] := by
      obtain ⟨ao, c, e, _, _, hc⟩ := h
      cases e
      cases l with
      | nil => rfl
      | cons x r => obtain ⟨b, o, e, _⟩ := hc 0 (by simp); cases e
    have hn0 : n = 0 := by rw [← hn, hl0]; rfl
    have hm0 : k = 0 := by omega
    subst hn0 hm0
    exact run_slice_nil0 W
  | some ad =>
    obtain ⟨b, o, sp⟩ := ad
    by_cases hn0 : n = 0
    · have hm0 : k = 0 := by omega
      subst hn0 hm0
      go_simp
    · obtain ⟨ao, c, e, _, _, hc⟩ := h
      cases e
      obtain ⟨b', o', e', _⟩ := hc 0 (by rw [hn]; omega)
      cases e'
      exact run_slice_to (by omega) W
theorem linkR_le (l : List ByteArray) (m : Nat) : (linkR l m).length ≤ nd l.length + 1 := by
  unfold linkR
  split
  · simp
  · rw [link_length]; exact long_le _ _ _ _ (nd_pow _)
theorem linkR_isS (l : List ByteArray) (m : Nat) : ∀ s ∈ linkR l m, s.size ≤ 1099511627776 := by
  unfold linkR
  split
  · intro s hs; cases hs
  · intro s hs
    have := isS_size (List.all_eq_true.1 (link_isS l m true) s hs)
    omega
/-- Link, any m -/
theorem link_any (l0 : List ByteArray) (v : Value) (m0 : Nat) (w : World) (hv : IsStrC w v l0) (hs : ∀ s ∈ l0, s.size ≤ 1099511627776) (hl0 : l0.length ≤ 1099511627776) (hm1 : m0 ≤ l0.length) (hT : Tabs w) :
    Calls Tryd.prog 17 #[v, .int .i64 (m0 : Int)] w fun e w' => ∃ v', e = .returned (.tuple #[v', .int .i64 0]) ∧ IsStrC w' v' (linkR l0 m0) ∧ Below w.heap.size w w' := by
  by_cases h : m0 = 0
  · subst h
    refine (link_zero l0 v w hv hl0).mono ?_
    rintro e w' ⟨rfl, rfl⟩
    exact ⟨_, rfl, strc_nil _, Below.refl _ _⟩
  · have := link_ok l0 v m0 w hv hs hl0 (by omega) hm1 hT
    have e : linkR l0 m0 = linkT l0 m0 true := by unfold linkR; rw [if_neg h]
    rw [e]
    exact this
set_option maxRecDepth 100000 in
set_option maxHeartbeats 8000000 in
theorem grows_law (va : Value) (l : List ByteArray) (r : Nat) (w : World) (ha : IsStrC w va l) (hr : r ≤ 255) (hT : Tabs w) :
    Calls Tryd.prog 6 #[va, .int .u8 (r : Int)] w (HeadPost w) := by
  have HT := Lib.hid hT
  have HA := Lib.hid ha
  obtain ⟨aA, cA, rfl, hlc, hcm, _⟩ := ha
  clear hT
  cases hfa : fewL l with
  | false =>
    have HFA := Lib.hid hfa
    clear hfa
    have H0 : Hid (Below w.heap.size w w) := Lib.hid (Below.refl w.heap.size w)
    have HA0 := Lib.hid HA.out
    go_enter Tryd.func6, Tryd.ntmps6
    go_wp2_with fail
    refine (head_calls w (HT.out.on H0.out)).mono ?_
    rintro e w1 ⟨rfl, hB⟩
    have H1 := Lib.hid (H0.out.trans (hB.mono H0.out.size))
    have HA1 := Lib.hid (HA0.out.on hB)
    clear hB H0 HA0
    go_wp2_with fail
    refine (few02_calls _ l w1 HA1.out).mono ?_
    rintro e w2 ⟨rfl, rfl⟩
    have H2 := Lib.hid H1.out
    have HA2 := Lib.hid HA1.out
    clear H1 HA1
    rw [HFA.out]
    go_wp2
    go_ret
    exact ⟨rfl, H2.out⟩
  | true =>
    have HLA := Lib.hid (fewL_len hfa)
    have HFA := Lib.hid hfa
    have hla := HLA.out.1
    clear hfa
    obtain ⟨n, hn⟩ : ∃ n, n = l.length := ⟨_, rfl⟩
    have HN : Hid (l.length = n) := Lib.hid hn.symm
    rw [← hn] at HA hla hlc ⊢
    clear hn
    obtain ⟨m, hm⟩ : ∃ m : Nat, m = r % (n + 1) := ⟨_, rfl⟩
    have hmn : m ≤ n := by have := Nat.mod_lt r (show 0 < n + 1 by omega); omega
    have hmod : (r : Int) % ((n : Int) + 1) = (m : Int) := by rw [hm]; rfl
    clear hm
    have HCUT := Lib.hid (fun W => run_cut HA.out HN.out hlc hmn W)
    have hcut := HCUT.out
    have HEX : Hid (extT (rootT (l.take m)) m (rootT l) n (linkR l m) = true) := Lib.hid (by have := ext_link l m (by have := HN.out; omega) (by have := HN.out; omega); rw [HN.out] at this; exact this)
    have HLE : Hid ((linkR l m).length ≤ nd n + 1) := Lib.hid (by have := linkR_le l m; rw [HN.out] at this; exact this)
    have HEM : Hid ((linkR l m).length = 0 ↔ m = 0 ∨ m = n) := Lib.hid (by have := linkR_empty l m (by have := HN.out; omega); rw [HN.out] at this; exact this)
    obtain ⟨q, hq⟩ : ∃ q, q = (linkR l m).length := ⟨_, rfl⟩
    rw [← hq] at HLE HEM
    have HQ : Hid ((linkR l m).length = q) := Lib.hid hq.symm
    have hnd := nd_le n
    have hs2 : ∀ s ∈ l.take m, s.size ≤ 100 := fun s hs => HLA.out.2 s (List.mem_of_mem_take hs)
    have HS2 := Lib.hid hs2
    have hlk : (l.take m).length = m := by rw [List.length_take]; have := HN.out; omega
    have HLK := Lib.hid hlk
    have hqle := HLE.out
    clear hq hs2 hlk hcut
    have H0 : Hid (Below w.heap.size w w) := Lib.hid (Below.refl w.heap.size w)
    have HA0 := Lib.hid HA.out
    go_enter Tryd.func6, Tryd.ntmps6
    go_wp2_with fail
    refine (head_calls w (HT.out.on H0.out)).mono ?_
    rintro e w1 ⟨rfl, hB⟩
    have H1 := Lib.hid (H0.out.trans (hB.mono H0.out.size))
    have HA1 := Lib.hid (HA0.out.on hB)
    clear hB H0 HA0
    go_wp2_with fail
    refine (few02_calls _ l w1 HA1.out).mono ?_
    rintro e w2 ⟨rfl, rfl⟩
    have H2 := Lib.hid H1.out
    have HA2 := Lib.hid HA1.out
    clear H1 HA1
    rw [HFA.out]
    go_wp2_with fail
    refine (link_any l _ m w2 HA2.out (big HLA.out.2 (by decide)) (by have := HN.out; omega) (by have := HN.out; omega) (HT.out.on H2.out)).mono ?_
    rintro e w3 ⟨v1, rfl, hp1, hB⟩
    have H3 := Lib.hid (H2.out.trans (hB.mono H2.out.size))
    have HA3 := Lib.hid (HA2.out.on hB)
    have HX := Lib.hid hp1
    clear hB H2 HA2
    obtain ⟨ao1, c1, rfl⟩ := strc_form hp1
    rw [HQ.out] at HX
    rw [HQ.out]
    clear hp1
    go_wp2_with fail
    go_loop [9, 10] (fun v9 v10 => ∃ d j : Nat, v9 = .int .i64 (d : Int) ∧ v10 = .int .i64 (j : Int) ∧ d ≤ 20 ∧ j ≤ n ∧ Hid (d + nd j = nd n)) (fun _ v10 => (RowKit.intOf v10).toNat)
    case atStart => exact ⟨0, n, rfl, rfl, by omega, Nat.le_refl _, Lib.hid (by omega)⟩
    case round =>
      obtain ⟨d, j, rfl, rfl, hd, hj, HD⟩ := hrel
      by_cases hj0 : 0 < j
      · have HD2 : Hid (d + 1 + nd (j / 2) = nd n) := Lib.hid (by have := HD.out; rw [nd_pos hj0] at this; omega)
        have hdl : d + 1 ≤ 20 := by have := HD2.out; omega
        have hj0' : (0 : Int) < (j : Int) := by omega
        go_wp2
        go_round
        case rel => exact ⟨d + 1, j / 2, by go_num, by congr 1, hdl, by omega, HD2⟩
        case measure => simp only [RowKit.intOf]; omega
      · have hj00 : j = 0 := by omega
        have hdn : d = nd n := by have := HD.out; rw [hj00, nd_zero] at this; omega
        have hq1 : (q : Int) ≤ (d : Int) + 1 := by omega
        have hj0' : ¬ (0 : Int) < (j : Int) := by omega
        have HDN := Lib.hid hdn
        have hcut := HCUT.out
        clear hj00 hdn HD
        by_cases h0 : m = 0
        · have hq0 : q = 0 := HEM.out.2 (.inl h0)
          have hq0' : ((q : Int) == 0) = true := by rw [hq0]; rfl
          have hm0' : ((m : Int) == 0) = true := by rw [h0]; rfl
          clear hq0 h0
          have HX3 := HX
          go_wp2_with fail
          refine (root_calls _ (l.take m) _ w3 rfl (by have := strc_take HA3.out hmn; rw [← HLK.out] at this; rw [← HLK.out]; exact this) (big HS2.out (by decide)) (by have := HLK.out; omega) (HT.out.on H3.out)).mono ?_
          rintro e w4 ⟨rfl, hB⟩
          have H4 := Lib.hid (H3.out.trans (hB.mono H3.out.size))
          have HA4 := Lib.hid (HA3.out.on hB)
          have HX4 := Lib.hid (HX3.out.on hB)
          clear hB H3 HA3 HX3
          go_wp2_with fail
          refine (root_calls _ l _ w4 rfl HA4.out (big HLA.out.2 (by decide)) (by have := HN.out; omega) (HT.out.on H4.out)).mono ?_
          rintro e w5 ⟨rfl, hB⟩
          have H5 := Lib.hid (H4.out.trans (hB.mono H4.out.size))
          have HA5 := Lib.hid (HA4.out.on hB)
          have HX5 := Lib.hid (HX4.out.on hB)
          clear hB H4 HA4 HX4
          go_wp2_with fail
          refine (ext_calls (rootT (l.take m)) m (rootT l) n _ (linkR l m) w5 (by have := HX5.out; rw [← HQ.out] at this; rw [← HQ.out]; exact this) (by have := HQ.out; omega) (linkR_isS l m) (by rw [root_size]; omega) (by rw [root_size]; omega) (HT.out.on H5.out)).mono ?_
          rintro e w6 ⟨rfl, hB⟩
          have H6 := Lib.hid (H5.out.trans (hB.mono H5.out.size))
          have HA6 := Lib.hid (HA5.out.on hB)
          have HX6 := Lib.hid (HX5.out.on hB)
          clear hB H5 HA5 HX5
          rw [HEX.out]
          go_wp2
          go_ret
          exact ⟨rfl, H6.out⟩
        · have hm0' : ((m : Int) == 0) = false := by rw [beq_eq_false_iff_ne]; omega
          by_cases h1 : m = n
          · have hq0 : q = 0 := HEM.out.2 (.inr h1)
            have hq0' : ((q : Int) == 0) = true := by rw [hq0]; rfl
            have hmn' : ((m : Int) == (n : Int)) = true := by rw [h1, beq_self_eq_true]
            clear hq0 h1
            have tok := True.intro
            have HX3 := HX
            go_wp2_with fail
            refine (root_calls _ (l.take m) _ w3 rfl (by have := strc_take HA3.out hmn; rw [← HLK.out] at this; rw [← HLK.out]; exact this) (big HS2.out (by decide)) (by have := HLK.out; omega) (HT.out.on H3.out)).mono ?_
            rintro e w4 ⟨rfl, hB⟩
            have H4 := Lib.hid (H3.out.trans (hB.mono H3.out.size))
            have HA4 := Lib.hid (HA3.out.on hB)
            have HX4 := Lib.hid (HX3.out.on hB)
            clear hB H3 HA3 HX3
            go_wp2_with fail
            refine (root_calls _ l _ w4 rfl HA4.out (big HLA.out.2 (by decide)) (by have := HN.out; omega) (HT.out.on H4.out)).mono ?_
            rintro e w5 ⟨rfl, hB⟩
            have H5 := Lib.hid (H4.out.trans (hB.mono H4.out.size))
            have HA5 := Lib.hid (HA4.out.on hB)
            have HX5 := Lib.hid (HX4.out.on hB)
            clear hB H4 HA4 HX4
            go_wp2_with fail
            refine (ext_calls (rootT (l.take m)) m (rootT l) n _ (linkR l m) w5 (by have := HX5.out; rw [← HQ.out] at this; rw [← HQ.out]; exact this) (by have := HQ.out; omega) (linkR_isS l m) (by rw [root_size]; omega) (by rw [root_size]; omega) (HT.out.on H5.out)).mono ?_
            rintro e w6 ⟨rfl, hB⟩
            have H6 := Lib.hid (H5.out.trans (hB.mono H5.out.size))
            have HA6 := Lib.hid (HA5.out.on hB)
            have HX6 := Lib.hid (HX5.out.on hB)
            clear hB H5 HA5 HX5
            rw [HEX.out]
            go_wp2
            go_ret
            exact ⟨rfl, H6.out⟩
          · have hq0 : q ≠ 0 := fun e => by
              rcases HEM.out.1 e with h | h
              · exact h0 h
              · exact h1 h
            have hq0' : ((q : Int) == 0) = false := by rw [beq_eq_false_iff_ne]; omega
            have hmn' : ((m : Int) == (n : Int)) = false := by rw [beq_eq_false_iff_ne]; omega
            clear hq0
            have tok := True.intro
            have HX3 := HX
            go_wp2_with fail
            refine (root_calls _ (l.take m) _ w3 rfl (by have := strc_take HA3.out hmn; rw [← HLK.out] at this; rw [← HLK.out]; exact this) (big HS2.out (by decide)) (by have := HLK.out; omega) (HT.out.on H3.out)).mono ?_
            rintro e w4 ⟨rfl, hB⟩
            have H4 := Lib.hid (H3.out.trans (hB.mono H3.out.size))
            have HA4 := Lib.hid (HA3.out.on hB)
            have HX4 := Lib.hid (HX3.out.on hB)
            clear hB H3 HA3 HX3
            go_wp2_with fail
            refine (root_calls _ l _ w4 rfl HA4.out (big HLA.out.2 (by decide)) (by have := HN.out; omega) (HT.out.on H4.out)).mono ?_
            rintro e w5 ⟨rfl, hB⟩
            have H5 := Lib.hid (H4.out.trans (hB.mono H4.out.size))
            have HA5 := Lib.hid (HA4.out.on hB)
            have HX5 := Lib.hid (HX4.out.on hB)
            clear hB H4 HA4 HX4
            go_wp2_with fail
            refine (ext_calls (rootT (l.take m)) m (rootT l) n _ (linkR l m) w5 (by have := HX5.out; rw [← HQ.out] at this; rw [← HQ.out]; exact this) (by have := HQ.out; omega) (linkR_isS l m) (by rw [root_size]; omega) (by rw [root_size]; omega) (HT.out.on H5.out)).mono ?_
            rintro e w6 ⟨rfl, hB⟩
            have H6 := Lib.hid (H5.out.trans (hB.mono H5.out.size))
            have HA6 := Lib.hid (HA5.out.on hB)
            have HX6 := Lib.hid (HX5.out.on hB)
            clear hB H5 HA5 HX5
            rw [HEX.out]
            go_wp2
            go_ret
            exact ⟨rfl, H6.out⟩
namespace treeGrows
theorem walk {w : World} (hT : Tabs w) (va : Value) (l : List ByteArray) (ha : IsStrC w va l) (n : Int) (wn : (Lit.int .u8 n).wf = true) :
    Calls Tryd.prog 6 #[va, .int .u8 n] w fun e w' => e = .returned (.bool true) ∧ Below w.heap.size w w' := by
  have h1 : 0 ≤ n ∧ n ≤ 255 := by simpa [Lit.wf, IntKind.min, IntKind.max, IntKind.signed, IntKind.bits] using wn
  obtain ⟨r, rfl⟩ := Int.eq_ofNat_of_zero_le h1.1
  exact grows_law va l r w ha (by omega) hT
end treeGrows
end Go.Proofs.YtlchpdjpnabeiaaDoor
