import Derived.Test.YtlchpdjpnabeiaaDoorTrTexts
import Derived.Test.YtlchpdjpnabeiaaDoorTrApp
set_option linter.unusedVariables false
namespace Go.Proofs.YtlchpdjpnabeiaaDoor
open Go Go.RowKit

theorem pathTextsT_one (i : Nat) (s : ByteArray) (p : List ByteArray) : pathTextsT 1 i s p = [jB [sLeaf, s]] := by rw [pathTextsT, dif_pos (Nat.le_refl 1)]
theorem pathTextsT_many {n : Nat} (h : 2 ≤ n) (i : Nat) (s : ByteArray) (p : List ByteArray) : pathTextsT n i s p =
    if i < half n then pathTextsT (half n) i s p.dropLast ++ [jB [sNode, upT (half n) i (dg [sLeaf, s]) p.dropLast, popV p]]
    else pathTextsT (n - half n) (i - half n) s p.dropLast ++ [jB [sNode, popV p, upT (n - half n) (i - half n) (dg [sLeaf, s]) p.dropLast]] := by
  rw [pathTextsT, dif_neg (by omega)]
theorem pathTexts_len (n : Nat) : ∀ (i : Nat) (s : ByteArray) (p : List ByteArray), (pathTextsT n i s p).length ≤ n + 1 := by
  induction n using Nat.strongRecOn with
  | _ n ih =>
    intro i s p
    rw [pathTextsT]
    split
    · simp
    · have h2 := half_lt (n := n) (by omega)
      have h3 := half_pos (n := n) (by omega)
      split
      · have := ih (half n) h2 i s p.dropLast
        simp; omega
      · have := ih (n - half n) (by omega) (i - half n) s p.dropLast
        simp; omega
theorem popV_sz {p : List ByteArray} {M : Nat} (hs : ∀ s ∈ p, s.size ≤ M) : (popV p).size ≤ M := by
  unfold popV
  cases hl : p.getLast? with
  | none => exact Nat.zero_le _
  | some a => exact hs a (List.mem_of_getLast? hl)
set_option maxRecDepth 100000 in
set_option maxHeartbeats 2000000 in
theorem ptexts_calls (n : Nat) : ∀ (i : Nat) (s : ByteArray) (p : List ByteArray) (v : Value) (w : World), 1 ≤ n → n ≤ 1000000 → i < n → s.size ≤ 1099511627776 → IsStrC w v p → (∀ s ∈ p, s.size ≤ 1099511627776) → p.length = lenT n i →
    Calls Tryd.prog 15 #[.int .i64 (n : Int), .int .i64 (i : Int), .string s, v] w fun e w' => ∃ v', e = .returned v' ∧ Own w.heap.size w' v' (pathTextsT n i s p) ∧ Below w.heap.size w w' := by
  induction n using Nat.strongRecOn with
  | _ n ih =>
  intro i s p v w hn1 hn hi hss hv hs hp
  by_cases h1 : n = 1
  · subst h1
    have HU := Lib.hid (pathTextsT_one i s p)
    clear ih hv hs hp
    go_enter Tryd.func15, Tryd.ntmps15
    go_wp2_with fail
    refine (jlit_calls [sLeaf, s] w (by simp; exact ⟨by decide, hss⟩) (by decide : 2 ≤ 30)).mono ?_
    rintro e w1 ⟨rfl, h1⟩
    have HO := Lib.hid (own_lit w1 [jB [sLeaf, s]] (show 1 ≤ maxLen by decide))
    go_wp2
    go_ret
    exact ⟨_, rfl, by rw [HU.out]; exact own_mono HO.out h1.size, h1.alloc h1.size _⟩
  · have h2 : 2 ≤ n := by omega
    have hk1 := half_lt h2
    have hk0 := half_pos h2
    have hh := fun W => rhalf_calls n h2 (by omega) W
    have HM := Lib.hid (pathTextsT_many h2 i s p)
    have HL := Lib.hid (lenT_many h2 i)
    have hp0 : 0 < p.length := by rw [hp]; exact len_pos h2 i
    obtain ⟨b, o, cap, rfl, hlc, hcm, hc, hvd, hdl⟩ := last_of hv hp0
    have HV := Lib.hid hvd
    have hps := popV_sz hs
    have hs2 : ∀ s ∈ p.dropLast, s.size ≤ 1099511627776 := fun s hx => hs s (List.dropLast_subset p hx)
    have HIH := Lib.hid ih
    have HS2 := Lib.hid hs2
    clear ih hv hs hvd hs2
    obtain ⟨k, hk⟩ : ∃ k, k = half n := ⟨_, rfl⟩
    rw [← hk] at hk1 hk0 hh HM HL
    clear hk
    have hnn : ((n : Int) == 1) = false := by rw [beq_eq_false_iff_ne]; omega
    obtain ⟨q, hq⟩ : ∃ q, q + 1 = p.length := ⟨p.length - 1, by omega⟩
    have hq1 : p.length - 1 = q := by omega
    rw [hq1] at hc HV hdl
    rw [← hq] at hlc hp ⊢
    clear hq hp0 hq1
    have hsl := run_slice_to (b := b) (o := o) (n := q + 1) (cap := cap) (k := q) (by omega)
    have hds := dg_size [sLeaf, s]
    by_cases hik : i < k
    · have hik' : (i : Int) < (k : Int) := by omega
      rw [if_pos hik] at HM HL
      have hlen : p.dropLast.length = lenT k i := by rw [hdl]; have := HL.out; omega
      have hus := upT_size k i (dg [sLeaf, s]) p.dropLast hds
      have htl := pathTexts_len k i s p.dropLast
      have hC := (fun W hb => HIH.out k (hk1) i s p.dropLast _ W (by omega) (by omega) (by omega) hss (HV.out.on hb) HS2.out hlen)
      have hD := (fun W hb => rup_calls k i (dg [sLeaf, s]) p.dropLast _ W (by omega) (by omega) (by omega) hds (HV.out.on hb) HS2.out hlen)
      have HC := Lib.hid hC
      have HD := Lib.hid hD
      clear HIH HL hlen hp hC hD
      generalize pathTextsT k i s p.dropLast = T at *
      generalize upT k i (dg [sLeaf, s]) p.dropLast = U at *
      generalize popV p = L at *
      go_enter Tryd.func15, Tryd.ntmps15
      go_wp2_with fail
      refine (hh _).mono ?_
      rintro e w1 ⟨rfl, rfl⟩
      clear hh
      go_wp2_with fail
      refine (HC.out _ (Below.refl _ _)).mono ?_
      rintro e w2 ⟨vt, rfl, ho, h2⟩
      have HO := Lib.hid ho
      have H2 := Lib.hid h2
      clear h2 ho
      go_wp2_with fail
      refine (rleaf_calls s w2 hss).mono ?_
      rintro e w3 ⟨rfl, h3⟩
      have H3 := Lib.hid (H2.out.trans (h3.mono H2.out.size))
      have HO3 := Lib.hid (HO.out.on h3)
      clear h3 HO H2
      go_wp2_with fail
      refine (HD.out _ H3.out).mono ?_
      rintro e w4 ⟨rfl, h4⟩
      have H4 := Lib.hid (H3.out.trans (h4.mono H3.out.size))
      have HO4 := Lib.hid (HO3.out.on h4)
      clear h4 HO3 H3
      go_wp2_with fail
      refine (jlit_calls [sNode, U, L] w4 (by simp; exact ⟨by decide, by omega, hps⟩) (by decide : 3 ≤ 30)).mono ?_
      rintro e w5 ⟨rfl, h5⟩
      have H5 := Lib.hid (H4.out.trans (h5.mono H4.out.size))
      have HO5 := Lib.hid (HO4.out.on h5)
      clear h5 HO4 H4
      generalize jB [sNode, U, L] = own at *
      go_wp2_with (at_builtin; refine app1 rfl (.tmp 38) (.tmp 48) rfl (r := own) rfl HO5.out H5.out (Nat.le_refl _) (by omega) rfl ?_)
      intro v' w6 ho6 h6
      have HO6 := Lib.hid ho6
      have H6 := Lib.hid h6
      clear ho6 h6
      go_wp2
      go_ret
      exact ⟨_, rfl, by rw [HM.out]; exact HO6.out, H6.out⟩
    · have hik' : ¬ (i : Int) < (k : Int) := by omega
      rw [if_neg hik] at HM HL
      have hlen : p.dropLast.length = lenT (n - k) (i - k) := by rw [hdl]; have := HL.out; omega
      have hus := upT_size (n - k) (i - k) (dg [sLeaf, s]) p.dropLast hds
      have htl := pathTexts_len (n - k) (i - k) s p.dropLast
      have hC := (fun W hb => HIH.out (n - k) (by omega) (i - k) s p.dropLast _ W (by omega) (by omega) (by omega) hss (HV.out.on hb) HS2.out hlen)
      have hD := (fun W hb => rup_calls (n - k) (i - k) (dg [sLeaf, s]) p.dropLast _ W (by omega) (by omega) (by omega) hds (HV.out.on hb) HS2.out hlen)
      rw [show ((n - k : Nat) : Int) = (n : Int) - (k : Int) by omega, show ((i - k : Nat) : Int) = (i : Int) - (k : Int) by omega] at hC hD
      have HC := Lib.hid hC
      have HD := Lib.hid hD
      clear HIH HL hlen hp hC hD
      generalize pathTextsT (n - k) (i - k) s p.dropLast = T at *
      generalize upT (n - k) (i - k) (dg [sLeaf, s]) p.dropLast = U at *
      generalize popV p = L at *
      go_enter Tryd.func15, Tryd.ntmps15
      go_wp2_with fail
      refine (hh _).mono ?_
      rintro e w1 ⟨rfl, rfl⟩
      clear hh
      go_wp2_with fail
      refine (HC.out _ (Below.refl _ _)).mono ?_
      rintro e w2 ⟨vt, rfl, ho, h2⟩
      have HO := Lib.hid ho
      have H2 := Lib.hid h2
      clear h2 ho
      go_wp2_with fail
      refine (rleaf_calls s w2 hss).mono ?_
      rintro e w3 ⟨rfl, h3⟩
      have H3 := Lib.hid (H2.out.trans (h3.mono H2.out.size))
      have HO3 := Lib.hid (HO.out.on h3)
      clear h3 HO H2
      go_wp2_with fail
      refine (HD.out _ H3.out).mono ?_
      rintro e w4 ⟨rfl, h4⟩
      have H4 := Lib.hid (H3.out.trans (h4.mono H3.out.size))
      have HO4 := Lib.hid (HO3.out.on h4)
      clear h4 HO3 H3
      go_wp2_with fail
      refine (jlit_calls [sNode, L, U] w4 (by simp; exact ⟨by decide, hps, by omega⟩) (by decide : 3 ≤ 30)).mono ?_
      rintro e w5 ⟨rfl, h5⟩
      have H5 := Lib.hid (H4.out.trans (h5.mono H4.out.size))
      have HO5 := Lib.hid (HO4.out.on h5)
      clear h5 HO4 H4
      generalize jB [sNode, L, U] = own at *
      go_wp2_with (at_builtin; refine app1 rfl (.tmp 58) (.tmp 72) rfl (r := own) rfl HO5.out H5.out (Nat.le_refl _) (by omega) rfl ?_)
      intro v' w6 ho6 h6
      have HO6 := Lib.hid ho6
      have H6 := Lib.hid h6
      clear ho6 h6
      go_wp2
      go_ret
      exact ⟨_, rfl, by rw [HM.out]; exact HO6.out, H6.out⟩
theorem linkTextsT_end (n : Nat) (wh : Bool) (old : ByteArray) (p : List ByteArray) : linkTextsT n n wh old p = [] := by rw [linkTextsT, dif_pos (.inr rfl)]
theorem linkTextsT_many {n m : Nat} (h0 : 1 ≤ m) (h : m < n) (wh : Bool) (old : ByteArray) (p : List ByteArray) : linkTextsT n m wh old p =
    if m ≤ half n then linkTextsT (half n) m wh old p.dropLast ++ [jB [sNode, (bothT (half n) m wh old p.dropLast).2, popV p]]
    else linkTextsT (n - half n) (m - half n) false old p.dropLast ++ [jB [sNode, popV p, (bothT (n - half n) (m - half n) false old p.dropLast).1], jB [sNode, popV p, (bothT (n - half n) (m - half n) false old p.dropLast).2]] := by
  rw [linkTextsT, dif_neg (by omega)]
theorem linkTexts_len (n : Nat) : ∀ (m : Nat) (wh : Bool) (old : ByteArray) (p : List ByteArray), (linkTextsT n m wh old p).length ≤ 2 * n := by
  induction n using Nat.strongRecOn with
  | _ n ih =>
    intro m wh old p
    rw [linkTextsT]
    split
    · simp
    · have h2 := half_lt (n := n) (by omega)
      have h3 := half_pos (n := n) (by omega)
      split
      · have := ih (half n) h2 m wh old p.dropLast
        simp; omega
      · have := ih (n - half n) (by omega) (m - half n) false old p.dropLast
        simp; omega
set_option maxRecDepth 100000 in
set_option maxHeartbeats 2000000 in
theorem ltexts_calls (n : Nat) : ∀ (m : Nat) (wh : Bool) (old : ByteArray) (p : List ByteArray) (v : Value) (w : World), 1 ≤ m → m ≤ n → n ≤ 1000000 → old.size ≤ 1099511627776 → IsStrC w v p → (∀ s ∈ p, s.size ≤ 16) → p.length = longT n m wh →
    Calls Tryd.prog 19 #[.int .i64 (n : Int), .int .i64 (m : Int), .bool wh, .string old, v] w fun e w' => ∃ v', e = .returned v' ∧ Own w.heap.size w' v' (linkTextsT n m wh old p) ∧ Below w.heap.size w w' := by
  induction n using Nat.strongRecOn with
  | _ n ih =>
  intro m wh old p v w hm1 hmn hn hos hv hs hp
  by_cases h1 : m = n
  · subst h1
    have HU := Lib.hid (linkTextsT_end m wh old p)
    clear ih hs hp hv
    go_enter Tryd.func19, Tryd.ntmps19
    go_wp2
    go_ret
    exact ⟨_, rfl, by rw [HU.out]; exact Own.nil _ _, Below.refl _ _⟩
  · have h2 : 2 ≤ n := by omega
    have hk1 := half_lt h2
    have hk0 := half_pos h2
    have hh := fun W => rhalf_calls n h2 (by omega) W
    have HM := Lib.hid (linkTextsT_many hm1 (by omega : m < n) wh old p)
    have HL := Lib.hid (longT_many hm1 (by omega : m < n) wh)
    have hp0 : 0 < p.length := by rw [hp]; exact longT_pos hm1 (by omega) wh
    obtain ⟨b, o, cap, rfl, hlc, hcm, hc, hvd, hdl⟩ := last_of hv hp0
    have HV := Lib.hid hvd
    have hps := popV_le hs
    have hs2 : ∀ s ∈ p.dropLast, s.size ≤ 16 := fun s hx => hs s (List.dropLast_subset p hx)
    have HIH := Lib.hid ih
    have HS2 := Lib.hid hs2
    clear ih hv hs hvd hs2
    obtain ⟨k, hk⟩ : ∃ k, k = half n := ⟨_, rfl⟩
    rw [← hk] at hk1 hk0 hh HM HL
    clear hk
    have hnn : ((m : Int) == (n : Int)) = false := by rw [beq_eq_false_iff_ne]; omega
    obtain ⟨q, hq⟩ : ∃ q, q + 1 = p.length := ⟨p.length - 1, by omega⟩
    have hq1 : p.length - 1 = q := by omega
    rw [hq1] at hc HV hdl
    rw [← hq] at hlc hp ⊢
    clear hq hp0 hq1
    have hsl := run_slice_to (b := b) (o := o) (n := q + 1) (cap := cap) (k := q) (by omega)
    by_cases hik : m ≤ k
    · have hik' : (m : Int) ≤ (k : Int) := by omega
      rw [if_pos hik] at HM HL
      have hlen : p.dropLast.length = longT k m wh := by rw [hdl]; have := HL.out; omega
      have hbs := bothT_size k m wh old p.dropLast hos HS2.out
      have htl := linkTexts_len k m wh old p.dropLast
      have HC := Lib.hid (fun W hb => HIH.out k hk1 m wh old p.dropLast _ W hm1 hik (by omega) hos (HV.out.on hb) HS2.out hlen)
      have HD := Lib.hid (fun W hb => rboth_calls k m wh old p.dropLast _ W hm1 hik (by omega) hos (HV.out.on hb) HS2.out hlen)
      clear HIH HL hlen hp
      generalize linkTextsT k m wh old p.dropLast = T at *
      generalize bothT k m wh old p.dropLast = U at *
      generalize popV p = L at *
      go_enter Tryd.func19, Tryd.ntmps19
      go_wp2_with fail
      refine (hh _).mono ?_
      rintro e w1 ⟨rfl, rfl⟩
      clear hh
      go_wp2_with fail
      refine (HD.out _ (Below.refl _ _)).mono ?_
      rintro e w2 ⟨rfl, h2⟩
      have H2 := Lib.hid h2
      clear h2
      go_wp2_with fail
      refine (HC.out _ H2.out).mono ?_
      rintro e w3 ⟨vt, rfl, ho, h3⟩
      have HO := Lib.hid (own_mono ho H2.out.size)
      have H3 := Lib.hid (H2.out.trans (h3.mono H2.out.size))
      clear h3 ho H2
      go_wp2_with fail
      refine (jlit_calls [sNode, U.2, L] w3 (by simp; exact ⟨by decide, hbs.2, by omega⟩) (by decide : 3 ≤ 30)).mono ?_
      rintro e w5 ⟨rfl, h5⟩
      have H5 := Lib.hid (H3.out.trans (h5.mono H3.out.size))
      have HO5 := Lib.hid (HO.out.on h5)
      clear h5 HO H3
      generalize jB [sNode, U.2, L] = own at *
      go_wp2_with (at_builtin; refine app1 rfl (.tmp 52) (.tmp 57) rfl (r := own) rfl HO5.out H5.out (Nat.le_refl _) (by omega) rfl ?_)
      intro v' w6 ho6 h6
      have HO6 := Lib.hid ho6
      have H6 := Lib.hid h6
      clear ho6 h6
      go_wp2
      go_ret
      exact ⟨_, rfl, by rw [HM.out]; exact HO6.out, H6.out⟩
    · have hik' : ¬ (m : Int) ≤ (k : Int) := by omega
      rw [if_neg hik] at HM HL
      have hlen : p.dropLast.length = longT (n - k) (m - k) false := by rw [hdl]; have := HL.out; omega
      have hbs := bothT_size (n - k) (m - k) false old p.dropLast hos HS2.out
      have htl := linkTexts_len (n - k) (m - k) false old p.dropLast
      have hC := (fun W hb => HIH.out (n - k) (by omega) (m - k) false old p.dropLast _ W (by omega) (by omega) (by omega) hos (HV.out.on hb) HS2.out hlen)
      have hD := (fun W hb => rboth_calls (n - k) (m - k) false old p.dropLast _ W (by omega) (by omega) (by omega) hos (HV.out.on hb) HS2.out hlen)
      rw [show ((n - k : Nat) : Int) = (n : Int) - (k : Int) by omega, show ((m - k : Nat) : Int) = (m : Int) - (k : Int) by omega] at hC hD
      have HC := Lib.hid hC
      have HD := Lib.hid hD
      clear HIH HL hlen hp hC hD
      generalize linkTextsT (n - k) (m - k) false old p.dropLast = T at *
      generalize bothT (n - k) (m - k) false old p.dropLast = U at *
      generalize popV p = L at *
      go_enter Tryd.func19, Tryd.ntmps19
      go_wp2_with fail
      refine (hh _).mono ?_
      rintro e w1 ⟨rfl, rfl⟩
      clear hh
      go_wp2_with fail
      refine (HD.out _ (Below.refl _ _)).mono ?_
      rintro e w2 ⟨rfl, h2⟩
      have H2 := Lib.hid h2
      clear h2
      go_wp2_with fail
      refine (HC.out _ H2.out).mono ?_
      rintro e w3 ⟨vt, rfl, ho, h3⟩
      have HO := Lib.hid (own_mono ho H2.out.size)
      have H3 := Lib.hid (H2.out.trans (h3.mono H2.out.size))
      clear h3 ho H2
      go_wp2_with fail
      refine (jlit_calls [sNode, L, U.1] w3 (by simp; exact ⟨by decide, by omega, hbs.1⟩) (by decide : 3 ≤ 30)).mono ?_
      rintro e w5 ⟨rfl, h5⟩
      have H5 := Lib.hid (H3.out.trans (h5.mono H3.out.size))
      have HO5 := Lib.hid (HO.out.on h5)
      clear h5 HO H3
      generalize jB [sNode, L, U.1] = own1 at *
      go_wp2_with (at_builtin; refine app1 rfl (.tmp 79) (.tmp 84) rfl (r := own1) rfl HO5.out H5.out (Nat.le_refl _) (by omega) rfl ?_)
      intro v' w6 ho6 h6
      have HO6 := Lib.hid ho6
      have H6 := Lib.hid h6
      clear ho6 h6
      go_wp2_with fail
      refine (jlit_calls [sNode, L, U.2] w6 (by simp; exact ⟨by decide, by omega, hbs.2⟩) (by decide : 3 ≤ 30)).mono ?_
      rintro e w7 ⟨rfl, h7⟩
      have H7 := Lib.hid (H6.out.trans (h7.mono H6.out.size))
      have HO7 := Lib.hid (HO6.out.on h7)
      clear h7 HO6 H6
      generalize jB [sNode, L, U.2] = own2 at *
      go_wp2_with (at_builtin; refine app1 rfl (.tmp 86) (.tmp 91) rfl (r := own2) rfl HO7.out H7.out (Nat.le_refl _) (by simp; omega) rfl ?_)
      intro v8 w8 ho8 h8
      have HO8 := Lib.hid ho8
      have H8 := Lib.hid h8
      clear ho8 h8
      go_wp2
      go_ret
      exact ⟨_, rfl, by rw [HM.out]; exact HO8.out, H8.out⟩
end Go.Proofs.YtlchpdjpnabeiaaDoor
