import Derived.Test.YtpogffdbencfnaaDoorSlMadeB
import Derived.Test.YtpogffdbencfnaaDoorSlHead
import Derived.Test.YtpogffdbencfnaaDoorTrShown
set_option linter.unusedVariables false
namespace Go.Proofs.YtpogffdbencfnaaDoor
open Go Go.RowKit

theorem short_sz' {l : List ByteArray} (h : shortB l = true) : ∀ s ∈ l, s.size ≤ 300 := by
  unfold shortB at h
  simpa using h
theorem short3_calls (a b c : ByteArray) (w : World) (ha : a.size ≤ 9223372036854775807) (hb : b.size ≤ 9223372036854775807) (hc : c.size ≤ 9223372036854775807) :
    Calls Tryd.prog 7 #[.slice (some ⟨w.heap.size, 0, none⟩) 3 3] (w.alloc (.cells #[.string a, .string b, .string c] 9)) fun e w' => e = .returned (.bool (shortB [a, b, c])) ∧ Below w.heap.size w w' := by
  refine (short_calls _ [a, b, c] _ (strc_lit w [a, b, c] (show 3 ≤ maxLen by decide)) (by simp; exact ⟨ha, hb, hc⟩)).mono ?_
  rintro e w' ⟨rfl, rfl⟩
  exact ⟨rfl, (Below.refl _ _).alloc (Nat.le_refl _) _⟩
theorem pow_facts' (h : Nat) (hh : h ≤ 8) : 0 < (2 : Int) ^ h ∧ (2 : Int) ^ h ≤ 256 ∧ ((2 ^ h : Nat) : Int) = (2 : Int) ^ h := by
  have e : ((2 ^ h : Nat) : Int) = (2 : Int) ^ h := by simp
  have h1 := Nat.pow_pos (n := h) (show 0 < 2 by decide)
  have h2 := Nat.pow_le_pow_right (n := 2) (by decide) hh
  rw [← e]
  generalize 2 ^ h = p at *
  omega
/-- Shown over two lists, the one behind the other -/
theorem clash_app {a b : List ByteArray} (h : Clash (a ++ b)) : Clash (a ++ b) := h
set_option maxRecDepth 100000 in
set_option maxHeartbeats 8000000 in
theorem secrets_law (secret other m : ByteArray) (rh ri : Nat) (w : World) (hs : secret.size ≤ 9223372036854775807) (ho : other.size ≤ 9223372036854775807) (hm : m.size ≤ 9223372036854775807) (hrh : rh ≤ 255) (hri : ri ≤ 255) (hT : Tabs w) :
    Calls Tryd.prog 4 #[.string secret, .string other, .int .u8 (rh : Int), .int .u8 (ri : Int), .string m] w (HeadPost w) := by
  have HT := Lib.hid hT
  clear hT
  obtain ⟨h, hh⟩ : ∃ h, h = rh % 3 := ⟨_, rfl⟩
  have hh3 : h ≤ 2 := by omega
  have HM1 : Hid ((rh : Int) % 3 = (h : Int)) := Lib.hid (by rw [hh]; rfl)
  obtain ⟨hp0, hp1, hpe⟩ := pow_facts' h (by omega)
  have HPE := Lib.hid hpe
  obtain ⟨i, hi⟩ : ∃ i, i = ri % 2 ^ h := ⟨_, rfl⟩
  have HI : Hid (i < 2 ^ h) := Lib.hid (by rw [hi]; exact Nat.mod_lt _ (Nat.pow_pos (by decide)))
  have HM2 : Hid ((ri : Int) % (2 : Int) ^ h = (i : Int)) := Lib.hid (by rw [hi, ← hpe]; rfl)
  have HWP := Lib.hid (wrap_pow h (by omega))
  have HPZ0 : Hid (((2 : Int) ^ h == 0) = false) := Lib.hid (by rw [beq_eq_false_iff_ne]; omega)
  clear hh hi hpe
  cases hsh : shortB [secret, other, m] with
  | false =>
    have HSH := Lib.hid hsh
    clear hsh
    have H0 : Hid (Below w.heap.size w w) := Lib.hid (Below.refl w.heap.size w)
    go_enter Tryd.func4, Tryd.ntmps4
    go_wp2_with fail
    refine (head_calls w (HT.out.on H0.out)).mono ?_
    rintro e w1 ⟨rfl, hB⟩
    have H1 := Lib.hid (H0.out.trans (hB.mono H0.out.size))
    clear hB H0
    have hwp := HWP.out
    have hpz := HPZ0.out
    have hm1 := HM1.out
    have hm2 := HM2.out
    go_wp2_with fail
    rw [HM1.out, HM2.out]
    clear hwp hpz hm1 hm2
    refine (short3_calls secret other m w1 hs ho hm).mono ?_
    rintro e w2 ⟨rfl, hB⟩
    have H2 := Lib.hid (H1.out.trans (hB.mono H1.out.size))
    clear hB H1
    rw [HSH.out]
    go_wp2
    go_ret
    exact ⟨rfl, H2.out⟩
  | true =>
    have hsz := short_sz' hsh
    have hs3 : secret.size ≤ 300 := hsz secret (by simp)
    have ho3 : other.size ≤ 300 := hsz other (by simp)
    have hm3 : m.size ≤ 300 := hsz m (by simp)
    have HSH := Lib.hid hsh
    clear hsh hsz
    by_cases hne : secret = other
    · subst hne
      have H0 : Hid (Below w.heap.size w w) := Lib.hid (Below.refl w.heap.size w)
      go_enter Tryd.func4, Tryd.ntmps4
      go_wp2_with fail
      refine (head_calls w (HT.out.on H0.out)).mono ?_
      rintro e w1 ⟨rfl, hB⟩
      have H1 := Lib.hid (H0.out.trans (hB.mono H0.out.size))
      clear hB H0
      have hwp := HWP.out
      have hpz := HPZ0.out
      have hm1 := HM1.out
      have hm2 := HM2.out
      go_wp2_with fail
      rw [HM1.out, HM2.out]
      clear hwp hpz hm1 hm2
      refine (short3_calls secret secret m w1 hs ho hm).mono ?_
      rintro e w2 ⟨rfl, hB⟩
      have H2 := Lib.hid (H1.out.trans (hB.mono H1.out.size))
      clear hB H1
      rw [HSH.out]
      go_wp2
      go_ret
      exact ⟨rfl, H2.out⟩
    · have HNE := Lib.hid hne
      have hnes := strne hne
      have HPL : Hid ((pathT (keysT secret h) i).length = h) := Lib.hid (by rw [path_length, keysT_len, lenT_pow h i HI.out])
      have HSL := Lib.hid (sigT_len secret i m)
      have HPZ := Lib.hid (pathT_sizes (keysT secret h) i)
      have HSZ := Lib.hid (sigT_sizes secret i m)
      have HRS : Hid ((pubT other h).size = 16) := Lib.hid (root_size _)
      clear hne
      cases hv : verT (pubT other h) m (i : Int) (sigT secret i m) (pathT (keysT secret h) i) with
      | false =>
        have HV := Lib.hid hv
        clear hv
        have H0 : Hid (Below w.heap.size w w) := Lib.hid (Below.refl w.heap.size w)
        go_enter Tryd.func4, Tryd.ntmps4
        go_wp2_with fail
        refine (head_calls w (HT.out.on H0.out)).mono ?_
        rintro e w1 ⟨rfl, hB⟩
        have H1 := Lib.hid (H0.out.trans (hB.mono H0.out.size))
        clear hB H0
        have hwp := HWP.out
        have hpz := HPZ0.out
        have hm1 := HM1.out
        have hm2 := HM2.out
        go_wp2_with fail
        rw [HM1.out, HM2.out]
        clear hwp hpz hm1 hm2
        refine (short3_calls secret other m w1 hs ho hm).mono ?_
        rintro e w2 ⟨rfl, hB⟩
        have H2 := Lib.hid (H1.out.trans (hB.mono H1.out.size))
        clear hB H1
        rw [HSH.out]
        go_wp2_with fail
        refine (public_calls other h w2 (by omega) (by omega) (HT.out.on H2.out)).mono ?_
        rintro e w3 ⟨rfl, hB⟩
        have H3 := Lib.hid (H2.out.trans (hB.mono H2.out.size))
        clear hB H2
        go_wp2_with fail
        refine (sign_ok secret m h i w3 (by omega) (by omega) (by omega) (by omega) HI.out (HT.out.on H3.out)).mono ?_
        rintro e w4 ⟨vsa, vpa, rfl, hsa, hpa, hB⟩
        have H4 := Lib.hid (H3.out.trans (hB.mono H3.out.size))
        clear hB H3
        obtain ⟨aosa, csa, rfl⟩ := strc_form hsa
        obtain ⟨aopa, cpa, rfl⟩ := strc_form hpa
        rw [HSL.out] at hsa ⊢
        rw [HPL.out] at hpa ⊢
        have VSa4 := Lib.hid (hsa)
        have VPa4 := Lib.hid (hpa)
        clear hsa hpa
        go_wp2_with fail
        have hq : Below w4.heap.size w4 (w4.alloc (.cells #[.int .i64 (i : Int), .slice aosa 18 csa, .slice aopa h cpa] 29)) := (Below.refl _ _).alloc (Nat.le_refl _) _
        have H5 := Lib.hid (H4.out.trans (hq.mono H4.out.size))
        have VSa5 := Lib.hid (VSa4.out.on hq)
        have VPa5 := Lib.hid (VPa4.out.on hq)
        have R165 := Lib.hid (RowIs.new w4 #[.int .i64 (i : Int), .slice aosa 18 csa, .slice aopa h cpa] 29)
        obtain ⟨b16, hb16⟩ : ∃ b, b = w4.heap.size := ⟨_, rfl⟩
        rw [← hb16] at R165 ⊢
        have Z16 : Hid ((w4.alloc (.cells #[.int .i64 (i : Int), .slice aosa 18 csa, .slice aopa h cpa] 29)).heap.size = b16 + 1) := Lib.hid (by rw [World.size_alloc, hb16])
        generalize hgw : w4.alloc (.cells #[.int .i64 (i : Int), .slice aosa 18 csa, .slice aopa h cpa] 29) = w5 at *
        clear hq hgw hb16 H4 VSa4 VPa4
        refine (verify_calls (pubT other h) m (i : Int) _ _ (sigT secret i m) (pathT (keysT secret h) i) w5 (by have := HRS.out; omega) (by omega) VSa5.out VPa5.out HSZ.out HPZ.out (HT.out.on H5.out)).mono ?_
        rintro e w6 ⟨rfl, hB⟩
        have H6 := Lib.hid (H5.out.trans (hB.mono H5.out.size))
        have VSa6 := Lib.hid (VSa5.out.on hB)
        have VPa6 := Lib.hid (VPa5.out.on hB)
        have R166 := Lib.hid (R165.out.on hB)
        clear hB H5 VSa5 VPa5 R165
        rw [HV.out]
        go_wp2
        go_ret
        exact ⟨rfl, H6.out⟩
      | true =>
        have HV := Lib.hid hv
        have HCL := Lib.hid (seal_secrets HI.out HNE.out hv)
        have HL1 := Lib.hid (madeT_len secret h 15 (by omega) (by decide))
        have HL2 := Lib.hid (madeT_len other h 15 (by omega) (by decide))
        have HZ1 := Lib.hid (madeT_size secret h 15 hs3 (by omega))
        have HZ2 := Lib.hid (madeT_size other h 15 ho3 (by omega))
        clear hv
        have H0 : Hid (Below w.heap.size w w) := Lib.hid (Below.refl w.heap.size w)
        go_enter Tryd.func4, Tryd.ntmps4
        go_wp2_with fail
        refine (head_calls w (HT.out.on H0.out)).mono ?_
        rintro e w1 ⟨rfl, hB⟩
        have H1 := Lib.hid (H0.out.trans (hB.mono H0.out.size))
        clear hB H0
        have hwp := HWP.out
        have hpz := HPZ0.out
        have hm1 := HM1.out
        have hm2 := HM2.out
        go_wp2_with fail
        rw [HM1.out, HM2.out]
        clear hwp hpz hm1 hm2
        refine (short3_calls secret other m w1 hs ho hm).mono ?_
        rintro e w2 ⟨rfl, hB⟩
        have H2 := Lib.hid (H1.out.trans (hB.mono H1.out.size))
        clear hB H1
        rw [HSH.out]
        go_wp2_with fail
        refine (public_calls other h w2 (by omega) (by omega) (HT.out.on H2.out)).mono ?_
        rintro e w3 ⟨rfl, hB⟩
        have H3 := Lib.hid (H2.out.trans (hB.mono H2.out.size))
        clear hB H2
        go_wp2_with fail
        refine (sign_ok secret m h i w3 (by omega) (by omega) (by omega) (by omega) HI.out (HT.out.on H3.out)).mono ?_
        rintro e w4 ⟨vsa, vpa, rfl, hsa, hpa, hB⟩
        have H4 := Lib.hid (H3.out.trans (hB.mono H3.out.size))
        clear hB H3
        obtain ⟨aosa, csa, rfl⟩ := strc_form hsa
        obtain ⟨aopa, cpa, rfl⟩ := strc_form hpa
        rw [HSL.out] at hsa ⊢
        rw [HPL.out] at hpa ⊢
        have VSa4 := Lib.hid (hsa)
        have VPa4 := Lib.hid (hpa)
        clear hsa hpa
        go_wp2_with fail
        have hq : Below w4.heap.size w4 (w4.alloc (.cells #[.int .i64 (i : Int), .slice aosa 18 csa, .slice aopa h cpa] 29)) := (Below.refl _ _).alloc (Nat.le_refl _) _
        have H5 := Lib.hid (H4.out.trans (hq.mono H4.out.size))
        have VSa5 := Lib.hid (VSa4.out.on hq)
        have VPa5 := Lib.hid (VPa4.out.on hq)
        have R165 := Lib.hid (RowIs.new w4 #[.int .i64 (i : Int), .slice aosa 18 csa, .slice aopa h cpa] 29)
        obtain ⟨b16, hb16⟩ : ∃ b, b = w4.heap.size := ⟨_, rfl⟩
        rw [← hb16] at R165 ⊢
        have Z16 : Hid ((w4.alloc (.cells #[.int .i64 (i : Int), .slice aosa 18 csa, .slice aopa h cpa] 29)).heap.size = b16 + 1) := Lib.hid (by rw [World.size_alloc, hb16])
        generalize hgw : w4.alloc (.cells #[.int .i64 (i : Int), .slice aosa 18 csa, .slice aopa h cpa] 29) = w5 at *
        clear hq hgw hb16 H4 VSa4 VPa4
        refine (verify_calls (pubT other h) m (i : Int) _ _ (sigT secret i m) (pathT (keysT secret h) i) w5 (by have := HRS.out; omega) (by omega) VSa5.out VPa5.out HSZ.out HPZ.out (HT.out.on H5.out)).mono ?_
        rintro e w6 ⟨rfl, hB⟩
        have H6 := Lib.hid (H5.out.trans (hB.mono H5.out.size))
        have VSa6 := Lib.hid (VSa5.out.on hB)
        have VPa6 := Lib.hid (VPa5.out.on hB)
        have R166 := Lib.hid (R165.out.on hB)
        clear hB H5 VSa5 VPa5 R165
        rw [HV.out]
        go_wp2_with fail
        refine (made_calls secret h 15 w6 hs3 (by omega) (by decide) (by decide) (HT.out.on H6.out)).mono ?_
        rintro e w7 ⟨v1, rfl, ho1, hB⟩
        have H7 := Lib.hid (H6.out.trans (hB.mono H6.out.size))
        have VSa7 := Lib.hid (VSa6.out.on hB)
        have VPa7 := Lib.hid (VPa6.out.on hB)
        have R167 := Lib.hid (R166.out.on hB)
        have M17 := Lib.hid (own_mono ho1 H6.out.size)
        have hlo1 : ∀ b, v1.ownBlock = some b → w6.heap.size ≤ b := fun b hb => (own_block ho1 b hb).1
        clear ho1
        clear hB H6 VSa6 VPa6 R166
        clear hlo1
        go_wp2_with fail
        refine (made_calls other h 15 w7 ho3 (by omega) (by decide) (by decide) (HT.out.on H7.out)).mono ?_
        rintro e w8 ⟨v2, rfl, ho2, hB⟩
        have H8 := Lib.hid (H7.out.trans (hB.mono H7.out.size))
        have VSa8 := Lib.hid (VSa7.out.on hB)
        have VPa8 := Lib.hid (VPa7.out.on hB)
        have R168 := Lib.hid (R167.out.on hB)
        have M18 := Lib.hid (M17.out.on hB)
        have M28 := Lib.hid (own_mono ho2 H7.out.size)
        have hlo2 : ∀ b, v2.ownBlock = some b → w7.heap.size ≤ b := fun b hb => (own_block ho2 b hb).1
        clear ho2
        clear hB H7 VSa7 VPa7 R167 M17
        clear hlo2
        go_wp2_with (at_builtin; refine appX (by kernel_rfl) (.tmp 69) (.tmp 72) rfl rfl rfl M18.out M28.out.strc H8.out (Nat.le_refl _) (by have := HL1.out; have := HL2.out; omega) ?_)
        intro v3 w9 ho3' hk3 hb3
        have M3 := Lib.hid ho3'.strc
        have HT3 := Lib.hid (HT.out.on hb3)
        have H9 := Lib.hid hb3
        clear ho3' hk3 hb3
        clear H8 VSa8 VPa8 R168 M18 M28
        go_wp2_with fail
        refine (shown_calls (madeT secret h 15 ++ madeT other h 15) _ w9 M3.out (fun s hs => (List.mem_append.1 hs).elim (HZ1.out s) (HZ2.out s)) (by rw [List.length_append]; have := HL1.out; have := HL2.out; omega) HCL.out).mono ?_
        rintro e w10 ⟨rfl, hB⟩
        have H10 := Lib.hid (H9.out.trans (hB.mono H9.out.size))
        clear hB H9
        go_wp2
        go_ret
        exact ⟨rfl, H10.out⟩
namespace sealSecrets
theorem walk {w : World} (hT : Tabs w) (s : ByteArray) (ws : s.size ≤ maxLen) (o : ByteArray) (wo : o.size ≤ maxLen) (a : Int) (wa : (Lit.int .u8 a).wf = true) (b : Int) (wb : (Lit.int .u8 b).wf = true) (m : ByteArray) (wm : m.size ≤ maxLen) :
    Calls Tryd.prog 4 #[.string s, .string o, .int .u8 a, .int .u8 b, .string m] w fun e w' => e = .returned (.bool true) ∧ Below w.heap.size w w' := by
  have h1 : 0 ≤ a ∧ a ≤ 255 := by simpa [Lit.wf, IntKind.min, IntKind.max, IntKind.signed, IntKind.bits] using wa
  have h2 : 0 ≤ b ∧ b ≤ 255 := by simpa [Lit.wf, IntKind.min, IntKind.max, IntKind.signed, IntKind.bits] using wb
  obtain ⟨r, rfl⟩ := Int.eq_ofNat_of_zero_le h1.1
  obtain ⟨q, rfl⟩ := Int.eq_ofNat_of_zero_le h2.1
  exact secrets_law s o m r q w ws wo wm (by omega) (by omega) hT
end sealSecrets
end Go.Proofs.YtpogffdbencfnaaDoor
