import Derived.Test.YtlchpdjpnabeiaaGreatDoorTrRefD
import Derived.Test.YtlchpdjpnabeiaaGreatDoorTrHead
set_option linter.unusedVariables false
namespace Go.Proofs.YtlchpdjpnabeiaaGreatDoor
open Go Go.RowKit

theorem rdlit2_calls (a b : ByteArray) (w : World) (ha : a.size ≤ 1099511627776) (hb2 : b.size ≤ 1099511627776) :
    Calls Tryz.prog 34 #[.slice (some ⟨w.heap.size, 0, none⟩) 2 2] (w.alloc (.cells #[.string a, .string b] 9)) fun e w' => e = .returned (.bool ([a, b].all isS)) ∧ Below w.heap.size w w' := by
  have hb := (Below.refl w.heap.size w).alloc (Nat.le_refl _) (.cells #[.string a, .string b] 9)
  refine (rdigests_calls _ [a, b] _ (strc_lit w [a, b] (show 2 ≤ maxLen by decide)) (by simp; exact ⟨ha, hb2⟩)).mono ?_
  rintro e w' ⟨rfl, h⟩
  exact ⟨rfl, hb.trans (h.mono hb.size)⟩
theorem ext_none {old root : ByteArray} {m n : Int} {p : List ByteArray} (hb : ¬ (0 ≤ m ∧ m ≤ n ∧ n ≤ 1000000)) : extT old m root n p = false := by
  unfold extT
  by_cases h1 : 0 ≤ m
  · by_cases h2 : m ≤ n
    · rw [decide_eq_false (fun h3 : n ≤ 1000000 => hb ⟨h1, h2, h3⟩)]; simp
    · rw [decide_eq_false h2]; simp
  · rw [decide_eq_false h1]; simp
theorem ext_imp {old root : ByteArray} {m n : Int} {p : List ByteArray} (h : [old, root].all isS = false) : extT old m root n p = false := by
  simp only [List.all_cons, List.all_nil, Bool.and_true, Bool.and_eq_false_iff] at h
  unfold extT
  rcases h with h | h <;> rw [h] <;> simp
theorem ext_imp2 {old root : ByteArray} {m n : Int} {p : List ByteArray} (h : p.all isS = false) : extT old m root n p = false := by
  unfold extT
  rw [h]; simp
theorem ext_all {old root : ByteArray} {n : Nat} {p : List ByteArray} (h0 : 0 < n) (h2 : n ≤ 1000000) (hp : p.all isS = true) (hq : [old, root].all isS = true) : extT old n root n p = (decide (p.length = 0) && decide (old = root)) := by
  rw [ext_val h0 (Nat.le_refl _) h2 hp hq, bothT_end, longT_end]
  simp
  rw [Bool.and_comm]
theorem popV_isS {p : List ByteArray} (h : p.all isS = true) : ∀ s ∈ p, s.size ≤ 16 := fun s hs => by
  have := isS_size (List.all_eq_true.1 h s hs)
  omega
set_option maxRecDepth 100000 in
set_option maxHeartbeats 4000000 in
theorem rext_calls (old : ByteArray) (m : Int) (root : ByteArray) (n : Int) (v : Value) (p : List ByteArray) (w : World) (hv : IsStrC w v p) (hl : p.length ≤ 1099511627776) (hs : ∀ s ∈ p, s.size ≤ 1099511627776) (hos : old.size ≤ 1099511627776) (hrs : root.size ≤ 1099511627776) :
    Calls Tryz.prog 16 #[.string old, .int .i64 m, .string root, .int .i64 n, v] w fun e w' => e = .returned (.bool (extT old m root n p)) ∧ Below w.heap.size w w' := by
  have HV := Lib.hid hv
  have HS := Lib.hid hs
  obtain ⟨ao, cap, rfl, _, _, _⟩ := hv
  clear hs
  by_cases hb : 0 ≤ m ∧ m ≤ n ∧ n ≤ 1000000
  · obtain ⟨m', rfl⟩ : ∃ a : Nat, m = (a : Int) := ⟨m.toNat, by omega⟩
    obtain ⟨n', rfl⟩ : ∃ a : Nat, n = (a : Int) := ⟨n.toNat, by omega⟩
    have hmn : m' ≤ n' := by omega
    have hn1 : n' ≤ 1000000 := by omega
    have hd1 : decide ((m' : Int) < 0) = false := decide_eq_false (by omega)
    have hd2 : decide (n' < m') = false := decide_eq_false (by omega)
    have hd2' : decide ((n' : Int) < (m' : Int)) = false := decide_eq_false (by omega)
    have hd3 : decide ((1000000 : Int) < (n' : Int)) = false := decide_eq_false (by omega)
    clear hb
    cases hq : [old, root].all isS with
    | false =>
      have HW : Hid (extT old m' root n' p = false) := Lib.hid (ext_imp hq)
      have HQ := Lib.hid hq
      clear hq
      go_enter Tryz.func16, Tryz.ntmps16
      go_wp2_with fail
      refine (rdlit2_calls old root w hos hrs).mono ?_
      rintro e w1 ⟨rfl, h1⟩
      rw [HQ.out]
      go_wp2
      go_ret
      exact ⟨by rw [HW.out]; rfl, h1⟩
    | true =>
      have HQ := Lib.hid hq
      clear hq
      cases hp : p.all isS with
      | false =>
        have HW : Hid (extT old m' root n' p = false) := Lib.hid (ext_imp2 hp)
        have HP := Lib.hid hp
        clear hp
        go_enter Tryz.func16, Tryz.ntmps16
        go_wp2_with fail
        refine (rdlit2_calls old root w hos hrs).mono ?_
        rintro e w1 ⟨rfl, h1⟩
        rw [HQ.out]
        have H1 := Lib.hid h1
        clear h1
        go_wp2_with fail
        refine (rdigests_calls _ p w1 (HV.out.on H1.out) HS.out).mono ?_
        rintro e w2 ⟨rfl, h2⟩
        rw [HP.out]
        have H2 := Lib.hid (H1.out.trans (h2.mono H1.out.size))
        clear h2
        go_wp2
        go_ret
        exact ⟨by rw [HW.out]; rfl, H2.out⟩
      | true =>
        have HP := Lib.hid hp
        clear hp
        by_cases h0 : m' = 0
        · subst h0
          have HW := Lib.hid (ext_val0 (n := n') hn1 HP.out HQ.out)
          by_cases hp0 : p.length = 0
          · have hp0' : ((p.length : Int) == 0) = true := by rw [hp0]; rfl
            have HP0 := Lib.hid hp0
            clear hp0
            by_cases hr : old = rootT []
            · subst hr
              by_cases hn0 : 0 < n'
              · have HW2 : Hid (extT (rootT []) ((0 : Nat) : Int) root n' p = true) := Lib.hid (by rw [show (((0 : Nat) : Int)) = 0 from rfl, HW.out, decide_eq_true HP0.out, decide_eq_true hn0]; simp)
                have hn0' : decide ((0 : Int) < (n' : Int)) = true := decide_eq_true (by omega)
                go_enter Tryz.func16, Tryz.ntmps16
                go_wp2_with fail
                refine (rdlit2_calls _ root w hos hrs).mono ?_
                rintro e w1 ⟨rfl, h1⟩
                rw [HQ.out]
                have H1 := Lib.hid h1
                clear h1
                go_wp2_with fail
                refine (rdigests_calls _ p w1 (HV.out.on H1.out) HS.out).mono ?_
                rintro e w2 ⟨rfl, h2⟩
                rw [HP.out]
                have H2 := Lib.hid (H1.out.trans (h2.mono H1.out.size))
                clear h2
                go_wp2_with fail
                refine (rempty_calls w2).mono ?_
                rintro e w3 ⟨rfl, h3⟩
                have H3 := Lib.hid (H2.out.trans (h3.mono H2.out.size))
                clear h3
                rw [← rootT_nil]
                go_wp2
                go_ret
                exact ⟨by rw [HW2.out]; rfl, H3.out⟩
              · have hn0' : decide ((0 : Int) < (n' : Int)) = false := decide_eq_false (by omega)
                have HW2 : Hid (extT (rootT []) ((0 : Nat) : Int) root n' p = (root.toList == (rootT []).toList)) := Lib.hid (by rw [show (((0 : Nat) : Int)) = 0 from rfl, HW.out, decide_eq_true HP0.out, decide_eq_false hn0, eqB]; simp)
                go_enter Tryz.func16, Tryz.ntmps16
                go_wp2_with fail
                refine (rdlit2_calls _ root w hos hrs).mono ?_
                rintro e w1 ⟨rfl, h1⟩
                rw [HQ.out]
                have H1 := Lib.hid h1
                clear h1
                go_wp2_with fail
                refine (rdigests_calls _ p w1 (HV.out.on H1.out) HS.out).mono ?_
                rintro e w2 ⟨rfl, h2⟩
                rw [HP.out]
                have H2 := Lib.hid (H1.out.trans (h2.mono H1.out.size))
                clear h2
                go_wp2_with fail
                refine (rempty_calls w2).mono ?_
                rintro e w3 ⟨rfl, h3⟩
                have H3 := Lib.hid (H2.out.trans (h3.mono H2.out.size))
                clear h3
                rw [← rootT_nil]
                go_wp2
                go_ret
                exact ⟨by rw [HW2.out]; rfl, H3.out⟩
            · have hne : (old.toList == (rootT []).toList) = false := by rw [eqB]; exact decide_eq_false hr
              have HW2 : Hid (extT old ((0 : Nat) : Int) root n' p = false) := Lib.hid (by rw [show (((0 : Nat) : Int)) = 0 from rfl, HW.out, decide_eq_false hr]; simp)
              clear hr
              go_enter Tryz.func16, Tryz.ntmps16
              go_wp2_with fail
              refine (rdlit2_calls _ root w hos hrs).mono ?_
              rintro e w1 ⟨rfl, h1⟩
              rw [HQ.out]
              have H1 := Lib.hid h1
              clear h1
              go_wp2_with fail
              refine (rdigests_calls _ p w1 (HV.out.on H1.out) HS.out).mono ?_
              rintro e w2 ⟨rfl, h2⟩
              rw [HP.out]
              have H2 := Lib.hid (H1.out.trans (h2.mono H1.out.size))
              clear h2
              go_wp2_with fail
              refine (rempty_calls w2).mono ?_
              rintro e w3 ⟨rfl, h3⟩
              have H3 := Lib.hid (H2.out.trans (h3.mono H2.out.size))
              clear h3
              rw [← rootT_nil]
              go_wp2
              go_ret
              exact ⟨by rw [HW2.out]; rfl, H3.out⟩
          · have hp0' : ((p.length : Int) == 0) = false := by rw [beq_eq_false_iff_ne]; omega
            have HW2 : Hid (extT old ((0 : Nat) : Int) root n' p = false) := Lib.hid (by rw [show (((0 : Nat) : Int)) = 0 from rfl, HW.out, decide_eq_false hp0]; simp)
            clear hp0
            go_enter Tryz.func16, Tryz.ntmps16
            go_wp2_with fail
            refine (rdlit2_calls _ root w hos hrs).mono ?_
            rintro e w1 ⟨rfl, h1⟩
            rw [HQ.out]
            have H1 := Lib.hid h1
            clear h1
            go_wp2_with fail
            refine (rdigests_calls _ p w1 (HV.out.on H1.out) HS.out).mono ?_
            rintro e w2 ⟨rfl, h2⟩
            rw [HP.out]
            have H2 := Lib.hid (H1.out.trans (h2.mono H1.out.size))
            clear h2
            go_wp2
            go_ret
            exact ⟨by rw [HW2.out]; rfl, H2.out⟩
        · have hm0 : ((m' : Int) == 0) = false := by rw [beq_eq_false_iff_ne]; omega
          by_cases hmn2 : m' = n'
          · subst hmn2
            have HW := Lib.hid (ext_all (old := old) (root := root) (p := p) (by omega : 0 < m') hn1 HP.out HQ.out)
            by_cases hp0 : p.length = 0
            · have hp0' : ((p.length : Int) == 0) = true := by rw [hp0]; rfl
              have HW2 : Hid (extT old m' root m' p = (old.toList == root.toList)) := Lib.hid (by rw [HW.out, decide_eq_true hp0, eqB]; simp)
              clear hp0
              go_enter Tryz.func16, Tryz.ntmps16
              go_wp2_with fail
              refine (rdlit2_calls _ root w hos hrs).mono ?_
              rintro e w1 ⟨rfl, h1⟩
              rw [HQ.out]
              have H1 := Lib.hid h1
              clear h1
              go_wp2_with fail
              refine (rdigests_calls _ p w1 (HV.out.on H1.out) HS.out).mono ?_
              rintro e w2 ⟨rfl, h2⟩
              rw [HP.out]
              have H2 := Lib.hid (H1.out.trans (h2.mono H1.out.size))
              clear h2
              go_wp2
              go_ret
              exact ⟨by rw [HW2.out]; rfl, H2.out⟩
            · have hp0' : ((p.length : Int) == 0) = false := by rw [beq_eq_false_iff_ne]; omega
              have HW2 : Hid (extT old m' root m' p = false) := Lib.hid (by rw [HW.out, decide_eq_false hp0]; simp)
              clear hp0
              go_enter Tryz.func16, Tryz.ntmps16
              go_wp2_with fail
              refine (rdlit2_calls _ root w hos hrs).mono ?_
              rintro e w1 ⟨rfl, h1⟩
              rw [HQ.out]
              have H1 := Lib.hid h1
              clear h1
              go_wp2_with fail
              refine (rdigests_calls _ p w1 (HV.out.on H1.out) HS.out).mono ?_
              rintro e w2 ⟨rfl, h2⟩
              rw [HP.out]
              have H2 := Lib.hid (H1.out.trans (h2.mono H1.out.size))
              clear h2
              go_wp2
              go_ret
              exact ⟨by rw [HW2.out]; rfl, H2.out⟩
          · have hmn3 : ((m' : Int) == (n' : Int)) = false := by rw [beq_eq_false_iff_ne]; omega
            have HW := Lib.hid (ext_val (old := old) (root := root) (p := p) (by omega : 0 < m') hmn hn1 HP.out HQ.out)
            by_cases hlq : p.length = longT n' m' true
            · have HLQ := Lib.hid hlq
              have hle : longT n' m' true ≤ n' + 1 := longT_le n' m' true
              have HL := Lib.hid (fun W => rlong_calls n' m' true W (by omega) hmn hn1)
              rw [← hlq] at HL hle
              have HB := Lib.hid (fun W hb => rboth_calls n' m' true old p _ W (by omega) hmn hn1 hos (HV.out.on hb) (popV_isS HP.out) HLQ.out)
              have HW2 : Hid (extT old m' root n' p = (decide ((bothT n' m' true old p).1 = old) && decide ((bothT n' m' true old p).2 = root))) := Lib.hid (by rw [HW.out, decide_eq_true hlq, Bool.and_true])
              generalize bothT n' m' true old p = U at *
              clear hlq HW
              by_cases hu1 : U.1 = old
              · have hu1' : (U.1.toList == old.toList) = true := by rw [hu1]; simp
                have HW3 : Hid (extT old m' root n' p = (U.2.toList == root.toList)) := Lib.hid (by rw [HW2.out, decide_eq_true hu1, eqB]; simp)
                clear HW2 hu1
                go_enter Tryz.func16, Tryz.ntmps16
                go_wp2_with fail
                refine (rdlit2_calls _ root w hos hrs).mono ?_
                rintro e w1 ⟨rfl, h1⟩
                rw [HQ.out]
                have H1 := Lib.hid h1
                clear h1
                go_wp2_with fail
                refine (rdigests_calls _ p w1 (HV.out.on H1.out) HS.out).mono ?_
                rintro e w2 ⟨rfl, h2⟩
                rw [HP.out]
                have H2 := Lib.hid (H1.out.trans (h2.mono H1.out.size))
                clear h2
                go_wp2_with fail
                refine (HL.out _).mono ?_
                rintro e w3 ⟨rfl, rfl⟩
                go_wp2_with fail
                refine (HB.out _ H2.out).mono ?_
                rintro e w4 ⟨rfl, h4⟩
                have H4 := Lib.hid (H2.out.trans (h4.mono H2.out.size))
                clear h4
                go_wp2
                go_ret
                exact ⟨by rw [HW3.out]; rfl, H4.out⟩
              · have hu1' : (U.1.toList == old.toList) = false := by rw [eqB]; exact decide_eq_false hu1
                have HW3 : Hid (extT old m' root n' p = false) := Lib.hid (by rw [HW2.out, decide_eq_false hu1]; simp)
                clear HW2 hu1
                go_enter Tryz.func16, Tryz.ntmps16
                go_wp2_with fail
                refine (rdlit2_calls _ root w hos hrs).mono ?_
                rintro e w1 ⟨rfl, h1⟩
                rw [HQ.out]
                have H1 := Lib.hid h1
                clear h1
                go_wp2_with fail
                refine (rdigests_calls _ p w1 (HV.out.on H1.out) HS.out).mono ?_
                rintro e w2 ⟨rfl, h2⟩
                rw [HP.out]
                have H2 := Lib.hid (H1.out.trans (h2.mono H1.out.size))
                clear h2
                go_wp2_with fail
                refine (HL.out _).mono ?_
                rintro e w3 ⟨rfl, rfl⟩
                go_wp2_with fail
                refine (HB.out _ H2.out).mono ?_
                rintro e w4 ⟨rfl, h4⟩
                have H4 := Lib.hid (H2.out.trans (h4.mono H2.out.size))
                clear h4
                go_wp2
                go_ret
                exact ⟨by rw [HW3.out]; rfl, H4.out⟩
            · have HW2 : Hid (extT old m' root n' p = false) := Lib.hid (by rw [HW.out, decide_eq_false hlq, Bool.and_false])
              have hle : longT n' m' true ≤ n' + 1 := longT_le n' m' true
              have HL := Lib.hid (fun W => rlong_calls n' m' true W (by omega) hmn hn1)
              obtain ⟨q, hq2⟩ : ∃ q, q = longT n' m' true := ⟨_, rfl⟩
              rw [← hq2] at HL hle hlq
              have hne : ((p.length : Int) == (q : Int)) = false := by rw [beq_eq_false_iff_ne]; omega
              clear hq2 hlq HW
              go_enter Tryz.func16, Tryz.ntmps16
              go_wp2_with fail
              refine (rdlit2_calls _ root w hos hrs).mono ?_
              rintro e w1 ⟨rfl, h1⟩
              rw [HQ.out]
              have H1 := Lib.hid h1
              clear h1
              go_wp2_with fail
              refine (rdigests_calls _ p w1 (HV.out.on H1.out) HS.out).mono ?_
              rintro e w2 ⟨rfl, h2⟩
              rw [HP.out]
              have H2 := Lib.hid (H1.out.trans (h2.mono H1.out.size))
              clear h2
              go_wp2_with fail
              refine (HL.out _).mono ?_
              rintro e w3 ⟨rfl, rfl⟩
              go_wp2
              go_ret
              exact ⟨by rw [HW2.out]; rfl, H2.out⟩
  · have HW : Hid (extT old m root n p = false) := Lib.hid (ext_none hb)
    by_cases h1 : m < 0
    · clear hb
      go_enter Tryz.func16, Tryz.ntmps16
      go_wp2
      go_ret
      exact ⟨by rw [HW.out]; rfl, Below.refl _ _⟩
    · by_cases h2 : n < m
      · clear hb
        go_enter Tryz.func16, Tryz.ntmps16
        go_wp2
        go_ret
        exact ⟨by rw [HW.out]; rfl, Below.refl _ _⟩
      · have h3 : (1000000 : Int) < n := by omega
        clear hb
        go_enter Tryz.func16, Tryz.ntmps16
        go_wp2
        go_ret
        exact ⟨by rw [HW.out]; rfl, Below.refl _ _⟩
end Go.Proofs.YtlchpdjpnabeiaaGreatDoor
