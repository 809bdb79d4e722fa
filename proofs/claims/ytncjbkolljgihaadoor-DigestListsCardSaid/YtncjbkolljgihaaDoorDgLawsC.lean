import Derived.Test.YtncjbkolljgihaaDoorDgLaws
set_option linter.unusedVariables false
namespace Go.Proofs.YtncjbkolljgihaaDoor
open Go Go.RowKit

theorem isS_sumS (t : ByteArray) : isS (sumS t) = true := isL_sum _
theorem isS_chainS (t : ByteArray) (n : Nat) (h : 0 < n) : isS (chainS t n) = true := by
  obtain ⟨m, rfl⟩ : ∃ m, n = m + 1 := ⟨n - 1, by omega⟩
  exact isS_sumS _
theorem dec_len (n : Nat) : ∀ k, 0 < k → n < 10 ^ k → (Lib.decDigits n).length ≤ k := by
  induction n using Nat.strongRecOn with
  | _ n ih =>
    intro k hk h
    rw [Lib.decDigits]
    split
    · exact hk
    · rw [List.length_append, List.length_singleton]
      obtain ⟨j, rfl⟩ : ∃ j, k = j + 1 := ⟨k - 1, by omega⟩
      have hj : 0 < j := by
        rcases Nat.eq_zero_or_pos j with e | e
        · subst e; simp at h; omega
        · exact e
      have := ih (n / 10) (by omega) j hj (by rw [Nat.pow_succ] at h; omega)
      omega
theorem few_need : ∀ ls : List ByteArray, (∀ s ∈ ls, s.size ≤ 200) → needN ls ≤ 221 * ls.length ∧ (joinB ls).length ≤ 221 * ls.length
  | [], _ => ⟨Nat.le_refl _, Nat.le_refl _⟩
  | s :: r, h => by
    have hr := few_need r (fun x hx => h x (List.mem_cons_of_mem _ hx))
    have hs := h s (List.mem_cons_self ..)
    have hd := dec_len s.size 20 (by decide) (by omega)
    have e : (joinB (s :: r)).length = (Lib.decDigits s.size).length + (1 + (s.size + (joinB r).length)) := by
      rw [Lib.size_eq]
      simp [joinB, listsOf, joinL]
      omega
    rw [e]
    simp only [needN, List.length_cons]
    omega
theorem few_of {ls : List ByteArray} (h : fewB ls 200 = true) : needN ls ≤ 6630 ∧ (joinB ls).length ≤ 6630 := by
  unfold fewB at h
  simp only [Bool.and_eq_true, List.all_eq_true, decide_eq_true_eq] at h
  have := few_need ls h.1
  omega

theorem form_law (t : ByteArray) (v : Value) (ls : List ByteArray) (n : Int) (w : World) (ht : t.size ≤ 9223372036854775807) (hv : IsStrs w v ls) (h1 : 0 ≤ n) (h2 : n ≤ 255) (hT : Tabs w) :
    Calls Tryd.prog 5 #[.string t, v, .int .u8 n] w fun e w' => e = .returned (.bool true) ∧ Below w.heap.size w w' := by
  have HT := Lib.hid hT
  have HV := Lib.hid hv
  clear hT hv
  by_cases hl : 2000 < t.size
  · go_enter Tryd.func5, Tryd.ntmps5
    go_wp2_with fail
    refine (head01_calls w HT.out).mono ?_
    rintro e w1 ⟨rfl, h1⟩
    go_wp2
    go_ret
    exact ⟨rfl, h1⟩
  · cases hf : fewB ls 200 with
    | false =>
      go_enter Tryd.func5, Tryd.ntmps5
      go_wp2_with fail
      refine (head01_calls w HT.out).mono ?_
      rintro e w1 ⟨rfl, h1⟩
      have H1 := Lib.hid h1
      clear h1
      go_wp2_with fail
      refine (few_calls v ls w1 (HV.out.on H1.out) 200).mono ?_
      rintro e w2 ⟨rfl, rfl⟩
      rw [hf]
      go_wp2
      go_ret
      exact ⟨rfl, H1.out⟩
    | true =>
      have HQ := Lib.hid (few_of hf)
      have hp : 0 < chainN (1 + n % 30) := by unfold chainN; rw [if_neg (by omega), if_neg (by omega)]; omega
      have hc := isS_chainS t _ hp
      have hsz := chainS_size t (chainN (1 + n % 30)) (by omega)
      obtain ⟨c, hcc⟩ : ∃ c, c = chainS t (chainN (1 + n % 30)) := ⟨_, rfl⟩
      have HCC := Lib.hid hcc
      rw [← hcc] at hc hsz
      have HCI := Lib.hid hc
      clear hp hcc hc
      go_enter Tryd.func5, Tryd.ntmps5
      go_wp2_with fail
      refine (head01_calls w HT.out).mono ?_
      rintro e w1 ⟨rfl, h1⟩
      have H1 := Lib.hid h1
      clear h1
      go_wp2_with fail
      refine (few_calls v ls w1 (HV.out.on H1.out) 200).mono ?_
      rintro e w2 ⟨rfl, rfl⟩
      rw [hf]
      go_wp2_with fail
      refine (sum_calls t (by omega) w2 (HT.out.on H1.out)).mono ?_
      rintro e w3 ⟨rfl, h3⟩
      have H3 := Lib.hid (H1.out.trans (h3.mono H1.out.size))
      clear h3
      go_wp2_with fail
      refine (is_calls (sumS t) (by rw [sumS_size]; decide) w3).mono ?_
      rintro e w4 ⟨rfl, h4⟩
      rw [isS_sumS]
      have H4 := Lib.hid (H3.out.trans (h4.mono H3.out.size))
      clear h4
      go_wp2_with fail
      refine (list_calls v ls w4 (HV.out.on H4.out) (by have := HQ.out.2; omega) (HT.out.on H4.out)).mono ?_
      rintro e w5 ⟨rfl, h5⟩
      have H5 := Lib.hid (H4.out.trans (h5.mono H4.out.size))
      clear h5
      go_wp2_with fail
      refine (is_calls (sumS (bS (joinB ls))) (by rw [sumS_size]; decide) w5).mono ?_
      rintro e w6 ⟨rfl, h6⟩
      rw [isS_sumS]
      have H6 := Lib.hid (H5.out.trans (h6.mono H5.out.size))
      clear h6
      go_wp2_with fail
      refine (chain_calls t (by omega) (1 + n % 30) w6 (HT.out.on H6.out)).mono ?_
      rintro e w7 ⟨rfl, h7⟩
      have H7 := Lib.hid (H6.out.trans (h7.mono H6.out.size))
      clear h7
      rw [← HCC.out]
      go_wp2_with fail
      refine (is_calls c hsz w7).mono ?_
      rintro e w8 ⟨rfl, h8⟩
      rw [HCI.out]
      have H8 := Lib.hid (H7.out.trans (h8.mono H7.out.size))
      clear h8
      go_wp2
      go_ret
      exact ⟨rfl, H8.out⟩

theorem match_law (t : ByteArray) (v : Value) (ls : List ByteArray) (n : Int) (w : World) (ht : t.size ≤ 9223372036854775807) (hv : IsStrs w v ls) (h1 : -9223372036854775808 ≤ n) (h2 : n ≤ 9223372036854775807) (hT : Tabs w) :
    Calls Tryd.prog 3 #[.string t, v, .int .i64 n] w fun e w' => e = .returned (.bool true) ∧ Below w.heap.size w w' := by
  have HT := Lib.hid hT
  have HV := Lib.hid hv
  clear hT hv
  by_cases hl : 2000 < t.size
  · go_enter Tryd.func3, Tryd.ntmps3
    go_wp2_with fail
    refine (head01_calls w HT.out).mono ?_
    rintro e w1 ⟨rfl, h1⟩
    go_wp2
    go_ret
    exact ⟨rfl, h1⟩
  · cases hf : fewB ls 200 with
    | false =>
      go_enter Tryd.func3, Tryd.ntmps3
      go_wp2_with fail
      refine (head01_calls w HT.out).mono ?_
      rintro e w1 ⟨rfl, h1⟩
      have H1 := Lib.hid h1
      clear h1
      go_wp2_with fail
      refine (few_calls v ls w1 (HV.out.on H1.out) 200).mono ?_
      rintro e w2 ⟨rfl, rfl⟩
      rw [hf]
      go_wp2
      go_ret
      exact ⟨rfl, H1.out⟩
    | true =>
      have HQ := Lib.hid (few_of hf)
      go_enter Tryd.func3, Tryd.ntmps3
      go_wp2_with fail
      refine (head01_calls w HT.out).mono ?_
      rintro e w1 ⟨rfl, h1⟩
      have H1 := Lib.hid h1
      clear h1
      go_wp2_with fail
      refine (few_calls v ls w1 (HV.out.on H1.out) 200).mono ?_
      rintro e w2 ⟨rfl, rfl⟩
      rw [hf]
      go_wp2_with fail
      refine (sum_calls t (by omega) w2 (HT.out.on H1.out)).mono ?_
      rintro e w3 ⟨rfl, h3⟩
      have H3 := Lib.hid (H1.out.trans (h3.mono H1.out.size))
      clear h3 
      go_wp2_with fail
      refine (rsum_calls t (by omega) w3).mono ?_
      rintro e w4 ⟨rfl, rfl⟩
      generalize sumS t = s1
      go_wp2_with fail
      refine (list_calls v ls w4 (HV.out.on H3.out) (by have := HQ.out.2; omega) (HT.out.on H3.out)).mono ?_
      rintro e w5 ⟨rfl, h5⟩
      have H5 := Lib.hid (H3.out.trans (h5.mono H3.out.size))
      clear h5
      go_wp2_with fail
      refine (rlist_calls v ls w5 (HV.out.on H5.out) (by have := HQ.out.1; omega) (by have := HQ.out.2; omega)).mono ?_
      rintro e w6 ⟨rfl, h6⟩
      have H6 := Lib.hid (H5.out.trans (h6.mono H5.out.size))
      clear h6
      generalize sumS (bS (joinB ls)) = s2
      go_wp2_with fail
      refine (chain_calls t (by omega) _ w6 (HT.out.on H6.out)).mono ?_
      rintro e w7 ⟨rfl, h7⟩
      have H7 := Lib.hid (H6.out.trans (h7.mono H6.out.size))
      clear h7
      go_wp2_with fail
      refine (rchain_calls t (by omega) _ w7).mono ?_
      rintro e w8 ⟨rfl, rfl⟩
      generalize chainS t _ = s3
      go_wp2_with fail
      refine (is_calls t (by omega) w8).mono ?_
      rintro e w9 ⟨rfl, h9⟩
      have H9 := Lib.hid (H7.out.trans (h9.mono H7.out.size))
      clear h9
      go_wp2_with fail
      refine (ris_calls t (by omega) w9).mono ?_
      rintro e w10 ⟨rfl, rfl⟩
      cases isS t
      · go_wp2
        go_ret
        exact ⟨rfl, H9.out⟩
      · go_wp2
        go_ret
        exact ⟨rfl, H9.out⟩
end Go.Proofs.YtncjbkolljgihaaDoor
namespace Go.Proofs.YtncjbkolljgihaaDoor.digestForm
open Go Go.RowKit
theorem walk {w : World} (hT : Tabs w) (t : ByteArray) (wt : t.size ≤ maxLen) (v : Value) (ls : List ByteArray) (hv : IsStrs w v ls) (n : Int) (wn : (Lit.int .u8 n).wf = true) :
    Calls Tryd.prog 5 #[.string t, v, .int .u8 n] w fun e w' => e = .returned (.bool true) ∧ Below w.heap.size w w' := by
  have h : 0 ≤ n ∧ n ≤ 255 := by simpa [Lit.wf, IntKind.min, IntKind.max, IntKind.signed, IntKind.bits] using wn
  exact form_law t v ls n w wt hv h.1 h.2 hT
end Go.Proofs.YtncjbkolljgihaaDoor.digestForm
namespace Go.Proofs.YtncjbkolljgihaaDoor.digestMatchesReference
open Go Go.RowKit
theorem walk {w : World} (hT : Tabs w) (t : ByteArray) (wt : t.size ≤ maxLen) (v : Value) (ls : List ByteArray) (hv : IsStrs w v ls) (n : Int) (wn : (Lit.int .i64 n).wf = true) :
    Calls Tryd.prog 3 #[.string t, v, .int .i64 n] w fun e w' => e = .returned (.bool true) ∧ Below w.heap.size w w' := by
  have h : -9223372036854775808 ≤ n ∧ n ≤ 9223372036854775807 := by simpa [Lit.wf, IntKind.min, IntKind.max, IntKind.signed, IntKind.bits] using wn
  exact match_law t v ls n w wt hv h.1 h.2 hT
end Go.Proofs.YtncjbkolljgihaaDoor.digestMatchesReference
