import Derived.Test.YtpogffdbencfnaaGreatDoorSlCk
import Derived.Test.YtpogffdbencfnaaGreatDoorSlOpn
import Derived.Test.YtpogffdbencfnaaGreatDoorTrShown
set_option linter.unusedVariables false
namespace Go.Proofs.YtpogffdbencfnaaGreatDoor
open Go Go.RowKit

theorem sound_facts {pub m : ByteArray} {idx : Int} {sig path : List ByteArray} (h : verT pub m idx sig path = true) :
    sig.length = 18 ∧ path.length ≤ 8 ∧ (∀ s ∈ sig, s.size ≤ 16) ∧ (∀ s ∈ path, s.size ≤ 16) ∧ 0 ≤ idx ∧ idx < ((2 ^ path.length : Nat) : Int) := by
  unfold verT at h
  simp only [Bool.and_eq_true, decide_eq_true_eq, List.all_eq_true] at h
  obtain ⟨⟨⟨⟨⟨⟨h1, h2⟩, h3⟩, h4⟩, h5⟩, h6⟩, _⟩ := h
  exact ⟨h1, h2, fun s hs => by have := isS_size (h3 s hs); omega, fun s hs => by have := isS_size (h4 s hs); omega, h5, h6⟩
set_option maxRecDepth 100000 in
set_option maxHeartbeats 8000000 in
theorem sound03_law (secret m : ByteArray) (rh : Nat) (idx : Int) (vs vp : Value) (sig path : List ByteArray) (w : World) (hsec : secret.size ≤ 9223372036854775807) (hm : m.size ≤ 9223372036854775807) (hrh : rh ≤ 255) (hs : IsStrC w vs sig) (hp : IsStrC w vp path)
    (hss : ∀ s ∈ sig, s.size ≤ 9223372036854775807) (hps : ∀ s ∈ path, s.size ≤ 9223372036854775807) (hT : Tabs w) :
    Calls Tryz.prog 4 #[.string secret, .int .u8 (rh : Int), .string m, .agg #[.int .i64 idx, vs, vp]] w (HeadPost w) := by
  have HT := Lib.hid hT
  have HSS := Lib.hid hss
  have HPS := Lib.hid hps
  obtain ⟨h, hh⟩ : ∃ h, h = rh % 3 := ⟨_, rfl⟩
  have hh3 : h ≤ 2 := by omega
  have HM1 : Hid ((rh : Int) % 3 = (h : Int)) := Lib.hid (by rw [hh]; rfl)
  obtain ⟨aos, cs, rfl⟩ := strc_form hs
  obtain ⟨aop, cp, rfl⟩ := strc_form hp
  obtain ⟨ls, hls⟩ : ∃ ls, ls = sig.length := ⟨_, rfl⟩
  obtain ⟨lp, hlp⟩ : ∃ lp, lp = path.length := ⟨_, rfl⟩
  rw [← hls] at hs ⊢
  rw [← hlp] at hp ⊢
  have HLS := Lib.hid hls
  have HLP := Lib.hid hlp
  have HVS := Lib.hid hs
  have HVP := Lib.hid hp
  clear hT hss hps hs hp hls hlp hh
  cases hsh : shortB [secret, m] with
  | false =>
    have HSH := Lib.hid hsh
    clear hsh
    have H0 : Hid (Below w.heap.size w w) := Lib.hid (Below.refl w.heap.size w)
    go_enter Tryz.func4, Tryz.ntmps4
    have WS0 := Lib.hid (HVS.out)
    have WP0 := Lib.hid (HVP.out)
    go_wp2_with fail
    have hq : Below w.heap.size w (w.alloc (.cells #[.int .i64 idx, .slice aos ls cs, .slice aop lp cp] 24)) := (Below.refl _ _).alloc (Nat.le_refl _) _
    have H1 := Lib.hid (H0.out.trans (hq.mono H0.out.size))
    have WS1 := Lib.hid (WS0.out.on hq)
    have WP1 := Lib.hid (WP0.out.on hq)
    have R71 := Lib.hid (RowIs.new w #[.int .i64 idx, .slice aos ls cs, .slice aop lp cp] 24)
    obtain ⟨b7, hb7⟩ : ∃ b, b = w.heap.size := ⟨_, rfl⟩
    rw [← hb7] at R71 ⊢
    have Z7 : Hid ((w.alloc (.cells #[.int .i64 idx, .slice aos ls cs, .slice aop lp cp] 24)).heap.size = b7 + 1) := Lib.hid (by rw [World.size_alloc, hb7])
    generalize hgw : w.alloc (.cells #[.int .i64 idx, .slice aos ls cs, .slice aop lp cp] 24) = w1 at *
    clear hq hgw hb7 H0 WS0 WP0
    refine (head_calls w1 (HT.out.on H1.out)).mono ?_
    rintro e w2 ⟨rfl, hB⟩
    have H2 := Lib.hid (H1.out.trans (hB.mono H1.out.size))
    have WS2 := Lib.hid (WS1.out.on hB)
    have WP2 := Lib.hid (WP1.out.on hB)
    have R72 := Lib.hid (R71.out.on hB)
    clear hB H1 WS1 WP1 R71
    have hm1 := HM1.out
    go_wp2_with fail
    rw [HM1.out]
    clear hm1
    refine (short2_callsB secret m w2 hsec hm).mono ?_
    rintro e w3 ⟨rfl, hB⟩
    have H3 := Lib.hid (H2.out.trans (hB.mono H2.out.size))
    have WS3 := Lib.hid (WS2.out.on hB)
    have WP3 := Lib.hid (WP2.out.on hB)
    have R73 := Lib.hid (R72.out.on hB)
    clear hB H2 WS2 WP2 R72
    rw [HSH.out]
    go_wp2
    go_ret
    exact ⟨rfl, H3.out⟩
  | true =>
    have hsz := short_szB hsh
    have hs3 : secret.size ≤ 300 := hsz secret (by simp)
    have hm3 : m.size ≤ 300 := hsz m (by simp)
    have HSH := Lib.hid hsh
    clear hsh hsz
    have HRS : Hid ((pubT secret h).size = 16) := Lib.hid (root_size _)
    cases hfw : fewS sig path with
    | false =>
      have HFW := Lib.hid hfw
      clear hfw
      have H0 : Hid (Below w.heap.size w w) := Lib.hid (Below.refl w.heap.size w)
      go_enter Tryz.func4, Tryz.ntmps4
      have WS0 := Lib.hid (HVS.out)
      have WP0 := Lib.hid (HVP.out)
      go_wp2_with fail
      have hq : Below w.heap.size w (w.alloc (.cells #[.int .i64 idx, .slice aos ls cs, .slice aop lp cp] 24)) := (Below.refl _ _).alloc (Nat.le_refl _) _
      have H1 := Lib.hid (H0.out.trans (hq.mono H0.out.size))
      have WS1 := Lib.hid (WS0.out.on hq)
      have WP1 := Lib.hid (WP0.out.on hq)
      have R71 := Lib.hid (RowIs.new w #[.int .i64 idx, .slice aos ls cs, .slice aop lp cp] 24)
      obtain ⟨b7, hb7⟩ : ∃ b, b = w.heap.size := ⟨_, rfl⟩
      rw [← hb7] at R71 ⊢
      have Z7 : Hid ((w.alloc (.cells #[.int .i64 idx, .slice aos ls cs, .slice aop lp cp] 24)).heap.size = b7 + 1) := Lib.hid (by rw [World.size_alloc, hb7])
      generalize hgw : w.alloc (.cells #[.int .i64 idx, .slice aos ls cs, .slice aop lp cp] 24) = w1 at *
      clear hq hgw hb7 H0 WS0 WP0
      refine (head_calls w1 (HT.out.on H1.out)).mono ?_
      rintro e w2 ⟨rfl, hB⟩
      have H2 := Lib.hid (H1.out.trans (hB.mono H1.out.size))
      have WS2 := Lib.hid (WS1.out.on hB)
      have WP2 := Lib.hid (WP1.out.on hB)
      have R72 := Lib.hid (R71.out.on hB)
      clear hB H1 WS1 WP1 R71
      have hm1 := HM1.out
      go_wp2_with fail
      rw [HM1.out]
      clear hm1
      refine (short2_callsB secret m w2 hsec hm).mono ?_
      rintro e w3 ⟨rfl, hB⟩
      have H3 := Lib.hid (H2.out.trans (hB.mono H2.out.size))
      have WS3 := Lib.hid (WS2.out.on hB)
      have WP3 := Lib.hid (WP2.out.on hB)
      have R73 := Lib.hid (R72.out.on hB)
      clear hB H2 WS2 WP2 R72
      rw [HSH.out]
      have c70 : w3.cell? ⟨b7, 0, none⟩ = some (.int .i64 idx) := (R73.out.cell 0).trans rfl
      have c71 : w3.cell? ⟨b7, 1, none⟩ = some (.slice aos ls cs) := (R73.out.cell 1).trans rfl
      have c72 : w3.cell? ⟨b7, 2, none⟩ = some (.slice aop lp cp) := (R73.out.cell 2).trans rfl
      go_wp2_with fail
      refine (few03_calls idx _ _ sig path w3 WS3.out WP3.out HSS.out HPS.out).mono ?_
      rintro e w4 ⟨rfl, hB⟩
      clear c70 c71 c72
      have H4 := Lib.hid (H3.out.trans (hB.mono H3.out.size))
      have WS4 := Lib.hid (WS3.out.on hB)
      have WP4 := Lib.hid (WP3.out.on hB)
      have R74 := Lib.hid (R73.out.on hB)
      clear hB H3 WS3 WP3 R73
      rw [HFW.out]
      go_wp2
      go_ret
      exact ⟨rfl, H4.out⟩
    | true =>
      obtain ⟨hf1, hf2, hf3, hf4⟩ := few_facts hfw
      have HFW := Lib.hid hfw
      have HSZ : Hid (∀ s ∈ sig, s.size ≤ 1099511627776) := Lib.hid (fun s hs => Nat.le_trans (hf3 s hs) (by decide))
      have HPZ : Hid (∀ s ∈ path, s.size ≤ 1099511627776) := Lib.hid (fun s hs => Nat.le_trans (hf4 s hs) (by decide))
      clear hfw hf1 hf2 hf3 hf4
      cases hv : verT (pubT secret h) m idx sig path with
      | false =>
        have HV := Lib.hid hv
        clear hv
        have H0 : Hid (Below w.heap.size w w) := Lib.hid (Below.refl w.heap.size w)
        go_enter Tryz.func4, Tryz.ntmps4
        have WS0 := Lib.hid (HVS.out)
        have WP0 := Lib.hid (HVP.out)
        go_wp2_with fail
        have hq : Below w.heap.size w (w.alloc (.cells #[.int .i64 idx, .slice aos ls cs, .slice aop lp cp] 24)) := (Below.refl _ _).alloc (Nat.le_refl _) _
        have H1 := Lib.hid (H0.out.trans (hq.mono H0.out.size))
        have WS1 := Lib.hid (WS0.out.on hq)
        have WP1 := Lib.hid (WP0.out.on hq)
        have R71 := Lib.hid (RowIs.new w #[.int .i64 idx, .slice aos ls cs, .slice aop lp cp] 24)
        obtain ⟨b7, hb7⟩ : ∃ b, b = w.heap.size := ⟨_, rfl⟩
        rw [← hb7] at R71 ⊢
        have Z7 : Hid ((w.alloc (.cells #[.int .i64 idx, .slice aos ls cs, .slice aop lp cp] 24)).heap.size = b7 + 1) := Lib.hid (by rw [World.size_alloc, hb7])
        generalize hgw : w.alloc (.cells #[.int .i64 idx, .slice aos ls cs, .slice aop lp cp] 24) = w1 at *
        clear hq hgw hb7 H0 WS0 WP0
        refine (head_calls w1 (HT.out.on H1.out)).mono ?_
        rintro e w2 ⟨rfl, hB⟩
        have H2 := Lib.hid (H1.out.trans (hB.mono H1.out.size))
        have WS2 := Lib.hid (WS1.out.on hB)
        have WP2 := Lib.hid (WP1.out.on hB)
        have R72 := Lib.hid (R71.out.on hB)
        clear hB H1 WS1 WP1 R71
        have hm1 := HM1.out
        go_wp2_with fail
        rw [HM1.out]
        clear hm1
        refine (short2_callsB secret m w2 hsec hm).mono ?_
        rintro e w3 ⟨rfl, hB⟩
        have H3 := Lib.hid (H2.out.trans (hB.mono H2.out.size))
        have WS3 := Lib.hid (WS2.out.on hB)
        have WP3 := Lib.hid (WP2.out.on hB)
        have R73 := Lib.hid (R72.out.on hB)
        clear hB H2 WS2 WP2 R72
        rw [HSH.out]
        have c70 : w3.cell? ⟨b7, 0, none⟩ = some (.int .i64 idx) := (R73.out.cell 0).trans rfl
        have c71 : w3.cell? ⟨b7, 1, none⟩ = some (.slice aos ls cs) := (R73.out.cell 1).trans rfl
        have c72 : w3.cell? ⟨b7, 2, none⟩ = some (.slice aop lp cp) := (R73.out.cell 2).trans rfl
        go_wp2_with fail
        refine (few03_calls idx _ _ sig path w3 WS3.out WP3.out HSS.out HPS.out).mono ?_
        rintro e w4 ⟨rfl, hB⟩
        clear c70 c71 c72
        have H4 := Lib.hid (H3.out.trans (hB.mono H3.out.size))
        have WS4 := Lib.hid (WS3.out.on hB)
        have WP4 := Lib.hid (WP3.out.on hB)
        have R74 := Lib.hid (R73.out.on hB)
        clear hB H3 WS3 WP3 R73
        rw [HFW.out]
        go_wp2_with fail
        refine (public_calls secret h w4 (by omega) (by omega) (HT.out.on H4.out)).mono ?_
        rintro e w5 ⟨rfl, hB⟩
        have H5 := Lib.hid (H4.out.trans (hB.mono H4.out.size))
        have WS5 := Lib.hid (WS4.out.on hB)
        have WP5 := Lib.hid (WP4.out.on hB)
        have R75 := Lib.hid (R74.out.on hB)
        clear hB H4 WS4 WP4 R74
        have c70 : w5.cell? ⟨b7, 0, none⟩ = some (.int .i64 idx) := (R75.out.cell 0).trans rfl
        have c71 : w5.cell? ⟨b7, 1, none⟩ = some (.slice aos ls cs) := (R75.out.cell 1).trans rfl
        have c72 : w5.cell? ⟨b7, 2, none⟩ = some (.slice aop lp cp) := (R75.out.cell 2).trans rfl
        go_wp2_with fail
        refine (verify_calls (pubT secret h) m idx _ _ sig path w5 (by have := HRS.out; omega) (by omega) WS5.out WP5.out HSZ.out HPZ.out (HT.out.on H5.out)).mono ?_
        rintro e w6 ⟨rfl, hB⟩
        clear c70 c71 c72
        have H6 := Lib.hid (H5.out.trans (hB.mono H5.out.size))
        have WS6 := Lib.hid (WS5.out.on hB)
        have WP6 := Lib.hid (WP5.out.on hB)
        have R76 := Lib.hid (R75.out.on hB)
        clear hB H5 WS5 WP5 R75
        rw [HV.out]
        go_wp2
        go_ret
        exact ⟨rfl, H6.out⟩
      | true =>
        have HV := Lib.hid hv
        have hso := seal_sound hv
        obtain ⟨h1, h2, h3, h4, h5, h6⟩ := sound_facts hv
        have HSL := Lib.hid h1
        have HS16 := Lib.hid h3
        have HP16 := Lib.hid h4
        have hl18 : 18 = ls := by have := HLS.out; omega
        subst hl18
        obtain ⟨i, rfl⟩ : ∃ i : Nat, idx = (i : Int) := ⟨idx.toNat, by omega⟩
        rw [Int.toNat_natCast] at hso
        have hp8 : 2 ^ path.length ≤ 256 := Nat.pow_le_pow_right (n := 2) (by decide) h2
        have hi256 : i ≤ 256 := by omega
        have HPL8 := Lib.hid h2
        have HL1 := Lib.hid (madeT_len secret h 15 (by omega) (by decide))
        have HZ1 := Lib.hid (madeT_size secret h 15 hs3 (by omega))
        have HZ2 := Lib.hid (checkedT_size m i h3 h4)
        have HL2 := Lib.hid (checkedT_len m i sig path h2)
        clear hv h1 h2 h3 h4 h5 h6 hp8
        have HSO := Lib.hid hso
        clear hso
        by_cases hin : i < 2 ^ h
        · have HI := Lib.hid hin
          have HPO : Hid ((pathT (keysT secret h) i).length = h) := Lib.hid (by rw [path_length, keysT_len, lenT_pow h i hin])
          have HSO2 := Lib.hid (sigT_len secret i m)
          clear hin
          cases hsm : same3 (i : Int) (i : Int) (sigT secret i m) sig (pathT (keysT secret h) i) path with
          | true =>
            have HSM := Lib.hid hsm
            clear hsm
            have H0 : Hid (Below w.heap.size w w) := Lib.hid (Below.refl w.heap.size w)
            go_enter Tryz.func4, Tryz.ntmps4
            have WS0 := Lib.hid (HVS.out)
            have WP0 := Lib.hid (HVP.out)
            go_wp2_with fail
            have hq : Below w.heap.size w (w.alloc (.cells #[.int .i64 (i : Int), .slice aos 18 cs, .slice aop lp cp] 24)) := (Below.refl _ _).alloc (Nat.le_refl _) _
            have H1 := Lib.hid (H0.out.trans (hq.mono H0.out.size))
            have WS1 := Lib.hid (WS0.out.on hq)
            have WP1 := Lib.hid (WP0.out.on hq)
            have R71 := Lib.hid (RowIs.new w #[.int .i64 (i : Int), .slice aos 18 cs, .slice aop lp cp] 24)
            obtain ⟨b7, hb7⟩ : ∃ b, b = w.heap.size := ⟨_, rfl⟩
            rw [← hb7] at R71 ⊢
            have Z7 : Hid ((w.alloc (.cells #[.int .i64 (i : Int), .slice aos 18 cs, .slice aop lp cp] 24)).heap.size = b7 + 1) := Lib.hid (by rw [World.size_alloc, hb7])
            generalize hgw : w.alloc (.cells #[.int .i64 (i : Int), .slice aos 18 cs, .slice aop lp cp] 24) = w1 at *
            clear hq hgw hb7 H0 WS0 WP0
            refine (head_calls w1 (HT.out.on H1.out)).mono ?_
            rintro e w2 ⟨rfl, hB⟩
            have H2 := Lib.hid (H1.out.trans (hB.mono H1.out.size))
            have WS2 := Lib.hid (WS1.out.on hB)
            have WP2 := Lib.hid (WP1.out.on hB)
            have R72 := Lib.hid (R71.out.on hB)
            clear hB H1 WS1 WP1 R71
            have hm1 := HM1.out
            go_wp2_with fail
            rw [HM1.out]
            clear hm1
            refine (short2_callsB secret m w2 hsec hm).mono ?_
            rintro e w3 ⟨rfl, hB⟩
            have H3 := Lib.hid (H2.out.trans (hB.mono H2.out.size))
            have WS3 := Lib.hid (WS2.out.on hB)
            have WP3 := Lib.hid (WP2.out.on hB)
            have R73 := Lib.hid (R72.out.on hB)
            clear hB H2 WS2 WP2 R72
            rw [HSH.out]
            have c70 : w3.cell? ⟨b7, 0, none⟩ = some (.int .i64 (i : Int)) := (R73.out.cell 0).trans rfl
            have c71 : w3.cell? ⟨b7, 1, none⟩ = some (.slice aos 18 cs) := (R73.out.cell 1).trans rfl
            have c72 : w3.cell? ⟨b7, 2, none⟩ = some (.slice aop lp cp) := (R73.out.cell 2).trans rfl
            go_wp2_with fail
            refine (few03_calls (i : Int) _ _ sig path w3 WS3.out WP3.out HSS.out HPS.out).mono ?_
            rintro e w4 ⟨rfl, hB⟩
            clear c70 c71 c72
            have H4 := Lib.hid (H3.out.trans (hB.mono H3.out.size))
            have WS4 := Lib.hid (WS3.out.on hB)
            have WP4 := Lib.hid (WP3.out.on hB)
            have R74 := Lib.hid (R73.out.on hB)
            clear hB H3 WS3 WP3 R73
            rw [HFW.out]
            go_wp2_with fail
            refine (public_calls secret h w4 (by omega) (by omega) (HT.out.on H4.out)).mono ?_
            rintro e w5 ⟨rfl, hB⟩
            have H5 := Lib.hid (H4.out.trans (hB.mono H4.out.size))
            have WS5 := Lib.hid (WS4.out.on hB)
            have WP5 := Lib.hid (WP4.out.on hB)
            have R75 := Lib.hid (R74.out.on hB)
            clear hB H4 WS4 WP4 R74
            have c70 : w5.cell? ⟨b7, 0, none⟩ = some (.int .i64 (i : Int)) := (R75.out.cell 0).trans rfl
            have c71 : w5.cell? ⟨b7, 1, none⟩ = some (.slice aos 18 cs) := (R75.out.cell 1).trans rfl
            have c72 : w5.cell? ⟨b7, 2, none⟩ = some (.slice aop lp cp) := (R75.out.cell 2).trans rfl
            go_wp2_with fail
            refine (verify_calls (pubT secret h) m (i : Int) _ _ sig path w5 (by have := HRS.out; omega) (by omega) WS5.out WP5.out HSZ.out HPZ.out (HT.out.on H5.out)).mono ?_
            rintro e w6 ⟨rfl, hB⟩
            clear c70 c71 c72
            have H6 := Lib.hid (H5.out.trans (hB.mono H5.out.size))
            have WS6 := Lib.hid (WS5.out.on hB)
            have WP6 := Lib.hid (WP5.out.on hB)
            have R76 := Lib.hid (R75.out.on hB)
            clear hB H5 WS5 WP5 R75
            rw [HV.out]
            have c70 : w6.cell? ⟨b7, 0, none⟩ = some (.int .i64 (i : Int)) := (R76.out.cell 0).trans rfl
            have c71 : w6.cell? ⟨b7, 1, none⟩ = some (.slice aos 18 cs) := (R76.out.cell 1).trans rfl
            have c72 : w6.cell? ⟨b7, 2, none⟩ = some (.slice aop lp cp) := (R76.out.cell 2).trans rfl
            go_wp2_with fail
            refine (sign_ok secret m h i w6 (by omega) (by omega) (by omega) (by omega) HI.out (HT.out.on H6.out)).mono ?_
            rintro e w7 ⟨vsa, vpa, rfl, hsa, hpa, hB⟩
            clear c70 c71 c72
            have H7 := Lib.hid (H6.out.trans (hB.mono H6.out.size))
            have WS7 := Lib.hid (WS6.out.on hB)
            have WP7 := Lib.hid (WP6.out.on hB)
            have R77 := Lib.hid (R76.out.on hB)
            clear hB H6 WS6 WP6 R76
            obtain ⟨aosa, csa, rfl⟩ := strc_form hsa
            obtain ⟨aopa, cpa, rfl⟩ := strc_form hpa
            rw [HSO2.out] at hsa ⊢
            rw [HPO.out] at hpa ⊢
            have VSa7 := Lib.hid (hsa)
            have VPa7 := Lib.hid (hpa)
            clear hsa hpa
            have c70_1 : ∀ o0 : Obj, (w7.alloc o0).cell? ⟨b7, 0, none⟩ = some (.int .i64 (i : Int)) := fun o0 => ((R77.out.on (below_new (Below.refl w7.heap.size w7) o0)).cell 0).trans rfl
            have c71_1 : ∀ o0 : Obj, (w7.alloc o0).cell? ⟨b7, 1, none⟩ = some (.slice aos 18 cs) := fun o0 => ((R77.out.on (below_new (Below.refl w7.heap.size w7) o0)).cell 1).trans rfl
            have c72_1 : ∀ o0 : Obj, (w7.alloc o0).cell? ⟨b7, 2, none⟩ = some (.slice aop lp cp) := fun o0 => ((R77.out.on (below_new (Below.refl w7.heap.size w7) o0)).cell 2).trans rfl
            go_wp2_with fail
            clear c70_1 c71_1 c72_1
            have hq : Below w7.heap.size w7 (w7.alloc (.cells #[.int .i64 (i : Int), .slice aosa 18 csa, .slice aopa h cpa] 24)) := (Below.refl _ _).alloc (Nat.le_refl _) _
            have H8 := Lib.hid (H7.out.trans (hq.mono H7.out.size))
            have WS8 := Lib.hid (WS7.out.on hq)
            have WP8 := Lib.hid (WP7.out.on hq)
            have R78 := Lib.hid (R77.out.on hq)
            have VSa8 := Lib.hid (VSa7.out.on hq)
            have VPa8 := Lib.hid (VPa7.out.on hq)
            have R138 := Lib.hid (RowIs.new w7 #[.int .i64 (i : Int), .slice aosa 18 csa, .slice aopa h cpa] 24)
            obtain ⟨b13, hb13⟩ : ∃ b, b = w7.heap.size := ⟨_, rfl⟩
            rw [← hb13] at R138 ⊢
            have Z13 : Hid ((w7.alloc (.cells #[.int .i64 (i : Int), .slice aosa 18 csa, .slice aopa h cpa] 24)).heap.size = b13 + 1) := Lib.hid (by rw [World.size_alloc, hb13])
            generalize hgw : w7.alloc (.cells #[.int .i64 (i : Int), .slice aosa 18 csa, .slice aopa h cpa] 24) = w8 at *
            clear hq hgw hb13 H7 WS7 WP7 R77 VSa7 VPa7
            refine (same03_calls (i : Int) (i : Int) _ _ _ _ (sigT secret i m) sig (pathT (keysT secret h) i) path w8 VSa8.out WS8.out VPa8.out WP8.out).mono ?_
            rintro e w9 ⟨rfl, hB⟩
            have H9 := Lib.hid (H8.out.trans (hB.mono H8.out.size))
            have WS9 := Lib.hid (WS8.out.on hB)
            have WP9 := Lib.hid (WP8.out.on hB)
            have R79 := Lib.hid (R78.out.on hB)
            have VSa9 := Lib.hid (VSa8.out.on hB)
            have VPa9 := Lib.hid (VPa8.out.on hB)
            have R139 := Lib.hid (R138.out.on hB)
            clear hB H8 WS8 WP8 R78 VSa8 VPa8 R138
            rw [HSM.out]
            go_wp2
            go_ret
            exact ⟨rfl, H9.out⟩
          | false =>
            have HCL : Hid (Clash (madeT secret h 15 ++ checkedT m i sig path)) := Lib.hid (by
              rcases HSO.out with ⟨_, _, e1, e2⟩ | e
              · rw [e1, ← e2] at hsm
                rw [same3_refl] at hsm
                cases hsm
              · exact e)
            have HSM := Lib.hid hsm
            clear hsm HSO
            have H0 : Hid (Below w.heap.size w w) := Lib.hid (Below.refl w.heap.size w)
            go_enter Tryz.func4, Tryz.ntmps4
            have WS0 := Lib.hid (HVS.out)
            have WP0 := Lib.hid (HVP.out)
            go_wp2_with fail
            have hq : Below w.heap.size w (w.alloc (.cells #[.int .i64 (i : Int), .slice aos 18 cs, .slice aop lp cp] 24)) := (Below.refl _ _).alloc (Nat.le_refl _) _
            have H1 := Lib.hid (H0.out.trans (hq.mono H0.out.size))
            have WS1 := Lib.hid (WS0.out.on hq)
            have WP1 := Lib.hid (WP0.out.on hq)
            have R71 := Lib.hid (RowIs.new w #[.int .i64 (i : Int), .slice aos 18 cs, .slice aop lp cp] 24)
            obtain ⟨b7, hb7⟩ : ∃ b, b = w.heap.size := ⟨_, rfl⟩
            rw [← hb7] at R71 ⊢
            have Z7 : Hid ((w.alloc (.cells #[.int .i64 (i : Int), .slice aos 18 cs, .slice aop lp cp] 24)).heap.size = b7 + 1) := Lib.hid (by rw [World.size_alloc, hb7])
            generalize hgw : w.alloc (.cells #[.int .i64 (i : Int), .slice aos 18 cs, .slice aop lp cp] 24) = w1 at *
            clear hq hgw hb7 H0 WS0 WP0
            refine (head_calls w1 (HT.out.on H1.out)).mono ?_
            rintro e w2 ⟨rfl, hB⟩
            have H2 := Lib.hid (H1.out.trans (hB.mono H1.out.size))
            have WS2 := Lib.hid (WS1.out.on hB)
            have WP2 := Lib.hid (WP1.out.on hB)
            have R72 := Lib.hid (R71.out.on hB)
            clear hB H1 WS1 WP1 R71
            have hm1 := HM1.out
            go_wp2_with fail
            rw [HM1.out]
            clear hm1
            refine (short2_callsB secret m w2 hsec hm).mono ?_
            rintro e w3 ⟨rfl, hB⟩
            have H3 := Lib.hid (H2.out.trans (hB.mono H2.out.size))
            have WS3 := Lib.hid (WS2.out.on hB)
            have WP3 := Lib.hid (WP2.out.on hB)
            have R73 := Lib.hid (R72.out.on hB)
            clear hB H2 WS2 WP2 R72
            rw [HSH.out]
            have c70 : w3.cell? ⟨b7, 0, none⟩ = some (.int .i64 (i : Int)) := (R73.out.cell 0).trans rfl
            have c71 : w3.cell? ⟨b7, 1, none⟩ = some (.slice aos 18 cs) := (R73.out.cell 1).trans rfl
            have c72 : w3.cell? ⟨b7, 2, none⟩ = some (.slice aop lp cp) := (R73.out.cell 2).trans rfl
            go_wp2_with fail
            refine (few03_calls (i : Int) _ _ sig path w3 WS3.out WP3.out HSS.out HPS.out).mono ?_
            rintro e w4 ⟨rfl, hB⟩
            clear c70 c71 c72
            have H4 := Lib.hid (H3.out.trans (hB.mono H3.out.size))
            have WS4 := Lib.hid (WS3.out.on hB)
            have WP4 := Lib.hid (WP3.out.on hB)
            have R74 := Lib.hid (R73.out.on hB)
            clear hB H3 WS3 WP3 R73
            rw [HFW.out]
            go_wp2_with fail
            refine (public_calls secret h w4 (by omega) (by omega) (HT.out.on H4.out)).mono ?_
            rintro e w5 ⟨rfl, hB⟩
            have H5 := Lib.hid (H4.out.trans (hB.mono H4.out.size))
            have WS5 := Lib.hid (WS4.out.on hB)
            have WP5 := Lib.hid (WP4.out.on hB)
            have R75 := Lib.hid (R74.out.on hB)
            clear hB H4 WS4 WP4 R74
            have c70 : w5.cell? ⟨b7, 0, none⟩ = some (.int .i64 (i : Int)) := (R75.out.cell 0).trans rfl
            have c71 : w5.cell? ⟨b7, 1, none⟩ = some (.slice aos 18 cs) := (R75.out.cell 1).trans rfl
            have c72 : w5.cell? ⟨b7, 2, none⟩ = some (.slice aop lp cp) := (R75.out.cell 2).trans rfl
            go_wp2_with fail
            refine (verify_calls (pubT secret h) m (i : Int) _ _ sig path w5 (by have := HRS.out; omega) (by omega) WS5.out WP5.out HSZ.out HPZ.out (HT.out.on H5.out)).mono ?_
            rintro e w6 ⟨rfl, hB⟩
            clear c70 c71 c72
            have H6 := Lib.hid (H5.out.trans (hB.mono H5.out.size))
            have WS6 := Lib.hid (WS5.out.on hB)
            have WP6 := Lib.hid (WP5.out.on hB)
            have R76 := Lib.hid (R75.out.on hB)
            clear hB H5 WS5 WP5 R75
            rw [HV.out]
            have c70 : w6.cell? ⟨b7, 0, none⟩ = some (.int .i64 (i : Int)) := (R76.out.cell 0).trans rfl
            have c71 : w6.cell? ⟨b7, 1, none⟩ = some (.slice aos 18 cs) := (R76.out.cell 1).trans rfl
            have c72 : w6.cell? ⟨b7, 2, none⟩ = some (.slice aop lp cp) := (R76.out.cell 2).trans rfl
            go_wp2_with fail
            refine (sign_ok secret m h i w6 (by omega) (by omega) (by omega) (by omega) HI.out (HT.out.on H6.out)).mono ?_
            rintro e w7 ⟨vsa, vpa, rfl, hsa, hpa, hB⟩
            clear c70 c71 c72
            have H7 := Lib.hid (H6.out.trans (hB.mono H6.out.size))
            have WS7 := Lib.hid (WS6.out.on hB)
            have WP7 := Lib.hid (WP6.out.on hB)
            have R77 := Lib.hid (R76.out.on hB)
            clear hB H6 WS6 WP6 R76
            obtain ⟨aosa, csa, rfl⟩ := strc_form hsa
            obtain ⟨aopa, cpa, rfl⟩ := strc_form hpa
            rw [HSO2.out] at hsa ⊢
            rw [HPO.out] at hpa ⊢
            have VSa7 := Lib.hid (hsa)
            have VPa7 := Lib.hid (hpa)
            clear hsa hpa
            have c70_1 : ∀ o0 : Obj, (w7.alloc o0).cell? ⟨b7, 0, none⟩ = some (.int .i64 (i : Int)) := fun o0 => ((R77.out.on (below_new (Below.refl w7.heap.size w7) o0)).cell 0).trans rfl
            have c71_1 : ∀ o0 : Obj, (w7.alloc o0).cell? ⟨b7, 1, none⟩ = some (.slice aos 18 cs) := fun o0 => ((R77.out.on (below_new (Below.refl w7.heap.size w7) o0)).cell 1).trans rfl
            have c72_1 : ∀ o0 : Obj, (w7.alloc o0).cell? ⟨b7, 2, none⟩ = some (.slice aop lp cp) := fun o0 => ((R77.out.on (below_new (Below.refl w7.heap.size w7) o0)).cell 2).trans rfl
            go_wp2_with fail
            clear c70_1 c71_1 c72_1
            have hq : Below w7.heap.size w7 (w7.alloc (.cells #[.int .i64 (i : Int), .slice aosa 18 csa, .slice aopa h cpa] 24)) := (Below.refl _ _).alloc (Nat.le_refl _) _
            have H8 := Lib.hid (H7.out.trans (hq.mono H7.out.size))
            have WS8 := Lib.hid (WS7.out.on hq)
            have WP8 := Lib.hid (WP7.out.on hq)
            have R78 := Lib.hid (R77.out.on hq)
            have VSa8 := Lib.hid (VSa7.out.on hq)
            have VPa8 := Lib.hid (VPa7.out.on hq)
            have R138 := Lib.hid (RowIs.new w7 #[.int .i64 (i : Int), .slice aosa 18 csa, .slice aopa h cpa] 24)
            obtain ⟨b13, hb13⟩ : ∃ b, b = w7.heap.size := ⟨_, rfl⟩
            rw [← hb13] at R138 ⊢
            have Z13 : Hid ((w7.alloc (.cells #[.int .i64 (i : Int), .slice aosa 18 csa, .slice aopa h cpa] 24)).heap.size = b13 + 1) := Lib.hid (by rw [World.size_alloc, hb13])
            generalize hgw : w7.alloc (.cells #[.int .i64 (i : Int), .slice aosa 18 csa, .slice aopa h cpa] 24) = w8 at *
            clear hq hgw hb13 H7 WS7 WP7 R77 VSa7 VPa7
            refine (same03_calls (i : Int) (i : Int) _ _ _ _ (sigT secret i m) sig (pathT (keysT secret h) i) path w8 VSa8.out WS8.out VPa8.out WP8.out).mono ?_
            rintro e w9 ⟨rfl, hB⟩
            have H9 := Lib.hid (H8.out.trans (hB.mono H8.out.size))
            have WS9 := Lib.hid (WS8.out.on hB)
            have WP9 := Lib.hid (WP8.out.on hB)
            have R79 := Lib.hid (R78.out.on hB)
            have VSa9 := Lib.hid (VSa8.out.on hB)
            have VPa9 := Lib.hid (VPa8.out.on hB)
            have R139 := Lib.hid (R138.out.on hB)
            clear hB H8 WS8 WP8 R78 VSa8 VPa8 R138
            rw [HSM.out]
            go_wp2_with fail
            refine wp_region_res 12 (w9.heap.size) (fun ii u => [valF (.bool true), valF (.bool true), valF (.string secret), valF (.int .i64 (h : Int)), OwnF w9.heap.size (madeT secret h 15), valF (.string m), valF (.agg #[.int .i64 (i : Int), .slice aos 18 cs, .slice aop lp cp]), OwnF w9.heap.size (checkedT m i sig path), OwnF w9.heap.size (madeT secret h 15 ++ checkedT m i sig path), valF (.bool true), valF (.bool true), valF (.bool true)].getD ii anyF) (fun jj ii => (jj == 8 && ii == 4)) (fun jj bb => False) (by kernel_rfl) (by kernel_rfl) (by kernel_rfl) (by kernel_rfl) (by kernel_rfl) (Nat.le_refl _) ?_ ?_ ?_ ?_ ?_
            · intro ii u hii
              refine AllKStable.at ?_ ii
              exact ⟨.inl (valF_stable _ _), .inl (valF_stable _ _), .inl (valF_stable _ _), .inl (valF_stable _ _), .inl (ownF_st _ _ _), .inl (valF_stable _ _), .inl (valF_stable _ _), .inl (ownF_st _ _ _), .inl (ownF_st _ _ _), .inl (valF_stable _ _), .inl (valF_stable _ _), .inl (valF_stable _ _), trivial⟩
            · exact fun _ _ _ _ _ => rfl
            · exact ⟨fun _ _ _ h => h.elim, fun _ _ _ _ _ h => h.elim⟩
            · refine And.intro (fun u W A hW hBW hd hv hr => ?_) ?_
              · have t9 : A.eval (.tmp 9) = .bool true := (hv 9 (by kernel_rfl)).trans (by kernel_rfl)
                clear hd hv
                have s9 := evalT t9
                clear t9
                refine fk_run ?_
                go_simp
              refine And.intro (fun u W A hW hBW hd hv hr => ?_) ?_
              · have e0 : u 0 = .bool true := hd 0 (by decide) (by kernel_rfl)
                have t61 : A.eval (.tmp 61) = .bool true := (hv 61 (by kernel_rfl)).trans ((by kernel_rfl : slotV _ _ _ u 61 = u 0).trans e0)
                clear hd hv
                have s61 := evalT t61
                clear t61
                refine fk_run ?_
                go_simp
              refine And.intro (fun u W A hW hBW hd hv hr => ?_) ?_
              · have e1 : u 1 = .bool true := hd 1 (by decide) (by kernel_rfl)
                have t0 : A.eval (.tmp 0) = .string secret := (hv 0 (by kernel_rfl)).trans (by kernel_rfl)
                clear hd hv
                have s0 := evalT t0
                clear t0
                refine Or.inl ⟨e1, ?_⟩
                refine fk_run ?_
                go_simp
              refine And.intro (fun u W A hW hBW hd hv hr => ?_) ?_
              · have e1 : u 1 = .bool true := hd 1 (by decide) (by kernel_rfl)
                have t10 : A.eval (.tmp 10) = .int .i64 (h : Int) := (hv 10 (by kernel_rfl)).trans (by kernel_rfl)
                clear hd hv
                have s10 := evalT t10
                clear t10
                refine Or.inl ⟨e1, ?_⟩
                refine fk_run ?_
                go_simp
              refine And.intro (fun u W A hW hBW hd hv hr => ?_) ?_
              · have e1 : u 1 = .bool true := hd 1 (by decide) (by kernel_rfl)
                have e2 : u 2 = .string secret := hd 2 (by decide) (by kernel_rfl)
                have e3 : u 3 = .int .i64 (h : Int) := hd 3 (by decide) (by kernel_rfl)
                have t63 : A.eval (.tmp 63) = .string secret := (hv 63 (by kernel_rfl)).trans ((by kernel_rfl : slotV _ _ _ u 63 = u 2).trans e2)
                have t64 : A.eval (.tmp 64) = .int .i64 (h : Int) := (hv 64 (by kernel_rfl)).trans ((by kernel_rfl : slotV _ _ _ u 64 = u 3).trans e3)
                have hW1 := below_undrew hW
                clear hd hv
                have s63 := evalT t63
                have s64 := evalT t64
                clear t63 t64
                refine Or.inl ⟨e1, ?_⟩
                refine fk_enter (f := 18) (args := #[.string secret, .int .i64 (h : Int), .int .i64 15]) (by go_simp) (fk_own hBW ?_)
                exact made_calls secret h 15 W hs3 (by omega) (by decide) (by decide) (HT.out.on (H9.out.trans (hW1.mono H9.out.size)))
              refine And.intro (fun u W A hW hBW hd hv hr => ?_) ?_
              · have e1 : u 1 = .bool true := hd 1 (by decide) (by kernel_rfl)
                have t2 : A.eval (.tmp 2) = .string m := (hv 2 (by kernel_rfl)).trans (by kernel_rfl)
                clear hd hv
                have s2 := evalT t2
                clear t2
                refine Or.inl ⟨e1, ?_⟩
                refine fk_run ?_
                go_simp
              refine And.intro (fun u W A hW hBW hd hv hr => ?_) ?_
              · have e1 : u 1 = .bool true := hd 1 (by decide) (by kernel_rfl)
                have t7 : A.eval (.tmp 7) = .pointer (some ⟨b7, 0, none⟩) := (hv 7 (by kernel_rfl)).trans (by kernel_rfl)
                have hW1 := below_undrew hW
                have hcl0 : W.cell? ⟨b7, 0, none⟩ = some (.int .i64 (i : Int)) := ((R79.out.on hW1).cell 0).trans rfl
                have hcl1 : W.cell? ⟨b7, 1, none⟩ = some (.slice aos 18 cs) := ((R79.out.on hW1).cell 1).trans rfl
                have hcl2 : W.cell? ⟨b7, 2, none⟩ = some (.slice aop lp cp) := ((R79.out.on hW1).cell 2).trans rfl
                clear hd hv
                have s7 := evalT t7
                clear t7
                refine Or.inl ⟨e1, ?_⟩
                refine fk_run ?_
                go_simp
              refine And.intro (fun u W A hW hBW hd hv hr => ?_) ?_
              · have e1 : u 1 = .bool true := hd 1 (by decide) (by kernel_rfl)
                have e5 : u 5 = .string m := hd 5 (by decide) (by kernel_rfl)
                have e6 : u 6 = .agg #[.int .i64 (i : Int), .slice aos 18 cs, .slice aop lp cp] := hd 6 (by decide) (by kernel_rfl)
                have t66 : A.eval (.tmp 66) = .string m := (hv 66 (by kernel_rfl)).trans ((by kernel_rfl : slotV _ _ _ u 66 = u 5).trans e5)
                have t67 : A.eval (.tmp 67) = .agg #[.int .i64 (i : Int), .slice aos 18 cs, .slice aop lp cp] := (hv 67 (by kernel_rfl)).trans ((by kernel_rfl : slotV _ _ _ u 67 = u 6).trans e6)
                have hW1 := below_undrew hW
                clear hd hv
                have s66 := evalT t66
                have s67 := evalT t67
                clear t66 t67
                refine Or.inl ⟨e1, ?_⟩
                refine fk_enter (f := 19) (args := #[.string m, .agg #[.int .i64 (i : Int), .slice aos 18 cs, .slice aop lp cp]]) (by go_simp) (fk_own hBW ?_)
                exact checked_calls m i _ _ sig path W (by omega) (by omega) (WS9.out.on hW1) (WP9.out.on hW1) HSL.out HPL8.out HS16.out HP16.out (HT.out.on (H9.out.trans (hW1.mono H9.out.size)))
              refine And.intro (fun u W A hW hBW hd hv hr => ?_) ?_
              · have e1 : u 1 = .bool true := hd 1 (by decide) (by kernel_rfl)
                have e4 : Own w9.heap.size W (u 4) (madeT secret h 15) := hd 4 (by decide) (by kernel_rfl)
                have e7 : Own w9.heap.size W (u 7) (checkedT m i sig path) := hd 7 (by decide) (by kernel_rfl)
                have t65 : A.eval (.tmp 65) = u 4 := (hv 65 (by kernel_rfl)).trans (by kernel_rfl)
                have t68 : A.eval (.tmp 68) = u 7 := (hv 68 (by kernel_rfl)).trans (by kernel_rfl)
                have hW1 := below_undrew hW
                clear hd hv
                refine Or.inl ⟨e1, ?_⟩
                exact fk_append (.tmp 65) (.tmp 68) rfl t65 t68 e4 e7.strc hBW (by have := HL1.out; have := HL2.out; omega) (fun c hc => .inl ⟨4, by decide, by decide, hc⟩)
              refine And.intro (fun u W A hW hBW hd hv hr => ?_) ?_
              · have e1 : u 1 = .bool true := hd 1 (by decide) (by kernel_rfl)
                have e8 : Own w9.heap.size W (u 8) (madeT secret h 15 ++ checkedT m i sig path) := hd 8 (by decide) (by kernel_rfl)
                have t69 : A.eval (.tmp 69) = u 8 := (hv 69 (by kernel_rfl)).trans (by kernel_rfl)
                have hW1 := below_undrew hW
                clear hd hv
                have s69 := evalT t69
                clear t69
                refine Or.inl ⟨e1, ?_⟩
                refine fk_enter (f := 17) (args := #[u 8]) (by go_simp) (fk_val ?_)
                exact shown_calls (madeT secret h 15 ++ checkedT m i sig path) _ W e8.strc (fun s hs => (List.mem_append.1 hs).elim (HZ1.out s) (HZ2.out s)) (by rw [List.length_append]; have := HL1.out; have := HL2.out; omega) HCL.out
              refine And.intro (fun u W A hW hBW hd hv hr => ?_) ?_
              · have e1 : u 1 = .bool true := hd 1 (by decide) (by kernel_rfl)
                have e9 : u 9 = .bool true := hd 9 (by decide) (by kernel_rfl)
                have t62 : A.eval (.tmp 62) = .bool true := (hv 62 (by kernel_rfl)).trans ((by kernel_rfl : slotV _ _ _ u 62 = u 1).trans e1)
                have t70 : A.eval (.tmp 70) = .bool true := (hv 70 (by kernel_rfl)).trans ((by kernel_rfl : slotV _ _ _ u 70 = u 9).trans e9)
                clear hd hv
                have s62 := evalT t62
                have s70 := evalT t70
                clear t62 t70
                refine fk_run ?_
                go_simp
              refine And.intro (fun u W A hW hBW hd hv hr => ?_) ?_
              · have e10 : u 10 = .bool true := hd 10 (by decide) (by kernel_rfl)
                have t71 : A.eval (.tmp 71) = .bool true := (hv 71 (by kernel_rfl)).trans ((by kernel_rfl : slotV _ _ _ u 71 = u 10).trans e10)
                clear hd hv
                have s71 := evalT t71
                clear t71
                refine fk_run ?_
                go_simp
              exact trivial
            intro u w10 hb hk2 hf
            have e11 : u 11 = .bool true := hf 11 (by decide) (by decide)
            have hb1 := below_undrew hb
            clear hf hb hk2
            have H10 := Lib.hid (H9.out.trans (hb1.mono H9.out.size))
            have WS10 := Lib.hid (WS9.out.on hb1)
            have WP10 := Lib.hid (WP9.out.on hb1)
            have R710 := Lib.hid (R79.out.on hb1)
            have VSa10 := Lib.hid (VSa9.out.on hb1)
            have VPa10 := Lib.hid (VPa9.out.on hb1)
            have R1310 := Lib.hid (R139.out.on hb1)
            clear hb1
            clear H9 WS9 WP9 R79 VSa9 VPa9 R139
            generalize w10 = w10 at *
            simp only [List.take, List.drop, wpList, lexPut, Nat.zero_add, Nat.reduceAdd, e11, Act.put, List.setIfInBounds_toArray, List.set_cons_succ, List.set_cons_zero]
            clear e11
            go_wp2
            go_ret
            exact ⟨rfl, H10.out⟩
        · have HCL : Hid (Clash (madeT secret h 15 ++ checkedT m i sig path)) := Lib.hid (by
            rcases HSO.out with ⟨_, e, _⟩ | e
            · exact absurd e hin
            · exact e)
          have HNB : Hid (¬ (0 ≤ (h : Int) ∧ (h : Int) ≤ 8 ∧ 0 ≤ (i : Int) ∧ (i : Int) < ((2 ^ (h : Int).toNat : Nat) : Int))) := Lib.hid (by rw [Int.toNat_natCast]; omega)
          clear hin HSO
          have H0 : Hid (Below w.heap.size w w) := Lib.hid (Below.refl w.heap.size w)
          go_enter Tryz.func4, Tryz.ntmps4
          have WS0 := Lib.hid (HVS.out)
          have WP0 := Lib.hid (HVP.out)
          go_wp2_with fail
          have hq : Below w.heap.size w (w.alloc (.cells #[.int .i64 (i : Int), .slice aos 18 cs, .slice aop lp cp] 24)) := (Below.refl _ _).alloc (Nat.le_refl _) _
          have H1 := Lib.hid (H0.out.trans (hq.mono H0.out.size))
          have WS1 := Lib.hid (WS0.out.on hq)
          have WP1 := Lib.hid (WP0.out.on hq)
          have R71 := Lib.hid (RowIs.new w #[.int .i64 (i : Int), .slice aos 18 cs, .slice aop lp cp] 24)
          obtain ⟨b7, hb7⟩ : ∃ b, b = w.heap.size := ⟨_, rfl⟩
          rw [← hb7] at R71 ⊢
          have Z7 : Hid ((w.alloc (.cells #[.int .i64 (i : Int), .slice aos 18 cs, .slice aop lp cp] 24)).heap.size = b7 + 1) := Lib.hid (by rw [World.size_alloc, hb7])
          generalize hgw : w.alloc (.cells #[.int .i64 (i : Int), .slice aos 18 cs, .slice aop lp cp] 24) = w1 at *
          clear hq hgw hb7 H0 WS0 WP0
          refine (head_calls w1 (HT.out.on H1.out)).mono ?_
          rintro e w2 ⟨rfl, hB⟩
          have H2 := Lib.hid (H1.out.trans (hB.mono H1.out.size))
          have WS2 := Lib.hid (WS1.out.on hB)
          have WP2 := Lib.hid (WP1.out.on hB)
          have R72 := Lib.hid (R71.out.on hB)
          clear hB H1 WS1 WP1 R71
          have hm1 := HM1.out
          go_wp2_with fail
          rw [HM1.out]
          clear hm1
          refine (short2_callsB secret m w2 hsec hm).mono ?_
          rintro e w3 ⟨rfl, hB⟩
          have H3 := Lib.hid (H2.out.trans (hB.mono H2.out.size))
          have WS3 := Lib.hid (WS2.out.on hB)
          have WP3 := Lib.hid (WP2.out.on hB)
          have R73 := Lib.hid (R72.out.on hB)
          clear hB H2 WS2 WP2 R72
          rw [HSH.out]
          have c70 : w3.cell? ⟨b7, 0, none⟩ = some (.int .i64 (i : Int)) := (R73.out.cell 0).trans rfl
          have c71 : w3.cell? ⟨b7, 1, none⟩ = some (.slice aos 18 cs) := (R73.out.cell 1).trans rfl
          have c72 : w3.cell? ⟨b7, 2, none⟩ = some (.slice aop lp cp) := (R73.out.cell 2).trans rfl
          go_wp2_with fail
          refine (few03_calls (i : Int) _ _ sig path w3 WS3.out WP3.out HSS.out HPS.out).mono ?_
          rintro e w4 ⟨rfl, hB⟩
          clear c70 c71 c72
          have H4 := Lib.hid (H3.out.trans (hB.mono H3.out.size))
          have WS4 := Lib.hid (WS3.out.on hB)
          have WP4 := Lib.hid (WP3.out.on hB)
          have R74 := Lib.hid (R73.out.on hB)
          clear hB H3 WS3 WP3 R73
          rw [HFW.out]
          go_wp2_with fail
          refine (public_calls secret h w4 (by omega) (by omega) (HT.out.on H4.out)).mono ?_
          rintro e w5 ⟨rfl, hB⟩
          have H5 := Lib.hid (H4.out.trans (hB.mono H4.out.size))
          have WS5 := Lib.hid (WS4.out.on hB)
          have WP5 := Lib.hid (WP4.out.on hB)
          have R75 := Lib.hid (R74.out.on hB)
          clear hB H4 WS4 WP4 R74
          have c70 : w5.cell? ⟨b7, 0, none⟩ = some (.int .i64 (i : Int)) := (R75.out.cell 0).trans rfl
          have c71 : w5.cell? ⟨b7, 1, none⟩ = some (.slice aos 18 cs) := (R75.out.cell 1).trans rfl
          have c72 : w5.cell? ⟨b7, 2, none⟩ = some (.slice aop lp cp) := (R75.out.cell 2).trans rfl
          go_wp2_with fail
          refine (verify_calls (pubT secret h) m (i : Int) _ _ sig path w5 (by have := HRS.out; omega) (by omega) WS5.out WP5.out HSZ.out HPZ.out (HT.out.on H5.out)).mono ?_
          rintro e w6 ⟨rfl, hB⟩
          clear c70 c71 c72
          have H6 := Lib.hid (H5.out.trans (hB.mono H5.out.size))
          have WS6 := Lib.hid (WS5.out.on hB)
          have WP6 := Lib.hid (WP5.out.on hB)
          have R76 := Lib.hid (R75.out.on hB)
          clear hB H5 WS5 WP5 R75
          rw [HV.out]
          have c70 : w6.cell? ⟨b7, 0, none⟩ = some (.int .i64 (i : Int)) := (R76.out.cell 0).trans rfl
          have c71 : w6.cell? ⟨b7, 1, none⟩ = some (.slice aos 18 cs) := (R76.out.cell 1).trans rfl
          have c72 : w6.cell? ⟨b7, 2, none⟩ = some (.slice aop lp cp) := (R76.out.cell 2).trans rfl
          go_wp2_with fail
          refine (sign_bad secret m (h : Int) (i : Int) w6 HNB.out).mono ?_
          rintro e w7 ⟨rfl, hB⟩
          clear c70 c71 c72
          have H7 := Lib.hid (H6.out.trans (hB.mono H6.out.size))
          have WS7 := Lib.hid (WS6.out.on hB)
          have WP7 := Lib.hid (WP6.out.on hB)
          have R77 := Lib.hid (R76.out.on hB)
          clear hB H6 WS6 WP6 R76
          have c70_1 : ∀ o0 : Obj, (w7.alloc o0).cell? ⟨b7, 0, none⟩ = some (.int .i64 (i : Int)) := fun o0 => ((R77.out.on (below_new (Below.refl w7.heap.size w7) o0)).cell 0).trans rfl
          have c71_1 : ∀ o0 : Obj, (w7.alloc o0).cell? ⟨b7, 1, none⟩ = some (.slice aos 18 cs) := fun o0 => ((R77.out.on (below_new (Below.refl w7.heap.size w7) o0)).cell 1).trans rfl
          have c72_1 : ∀ o0 : Obj, (w7.alloc o0).cell? ⟨b7, 2, none⟩ = some (.slice aop lp cp) := fun o0 => ((R77.out.on (below_new (Below.refl w7.heap.size w7) o0)).cell 2).trans rfl
          go_wp2_with fail
          clear c70_1 c71_1 c72_1
          have hq : Below w7.heap.size w7 (w7.alloc (.cells #[.int .i64 0, .slice none 0 0, .slice none 0 0] 24)) := (Below.refl _ _).alloc (Nat.le_refl _) _
          have H8 := Lib.hid (H7.out.trans (hq.mono H7.out.size))
          have WS8 := Lib.hid (WS7.out.on hq)
          have WP8 := Lib.hid (WP7.out.on hq)
          have R78 := Lib.hid (R77.out.on hq)
          have R138 := Lib.hid (RowIs.new w7 #[.int .i64 0, .slice none 0 0, .slice none 0 0] 24)
          obtain ⟨b13, hb13⟩ : ∃ b, b = w7.heap.size := ⟨_, rfl⟩
          rw [← hb13] at R138 ⊢
          have Z13 : Hid ((w7.alloc (.cells #[.int .i64 0, .slice none 0 0, .slice none 0 0] 24)).heap.size = b13 + 1) := Lib.hid (by rw [World.size_alloc, hb13])
          generalize hgw : w7.alloc (.cells #[.int .i64 0, .slice none 0 0, .slice none 0 0] 24) = w8 at *
          clear hq hgw hb13 H7 WS7 WP7 R77
          refine wp_region_res 12 (w8.heap.size) (fun ii u => [valF (.bool true), valF (.bool true), valF (.string secret), valF (.int .i64 (h : Int)), OwnF w8.heap.size (madeT secret h 15), valF (.string m), valF (.agg #[.int .i64 (i : Int), .slice aos 18 cs, .slice aop lp cp]), OwnF w8.heap.size (checkedT m i sig path), OwnF w8.heap.size (madeT secret h 15 ++ checkedT m i sig path), valF (.bool true), valF (.bool true), valF (.bool true)].getD ii anyF) (fun jj ii => (jj == 8 && ii == 4)) (fun jj bb => False) (by kernel_rfl) (by kernel_rfl) (by kernel_rfl) (by kernel_rfl) (by kernel_rfl) (Nat.le_refl _) ?_ ?_ ?_ ?_ ?_
          · intro ii u hii
            refine AllKStable.at ?_ ii
            exact ⟨.inl (valF_stable _ _), .inl (valF_stable _ _), .inl (valF_stable _ _), .inl (valF_stable _ _), .inl (ownF_st _ _ _), .inl (valF_stable _ _), .inl (valF_stable _ _), .inl (ownF_st _ _ _), .inl (ownF_st _ _ _), .inl (valF_stable _ _), .inl (valF_stable _ _), .inl (valF_stable _ _), trivial⟩
          · exact fun _ _ _ _ _ => rfl
          · exact ⟨fun _ _ _ h => h.elim, fun _ _ _ _ _ h => h.elim⟩
          · refine And.intro (fun u W A hW hBW hd hv hr => ?_) ?_
            · have t9 : A.eval (.tmp 9) = .bool true := (hv 9 (by kernel_rfl)).trans (by kernel_rfl)
              clear hd hv
              have s9 := evalT t9
              clear t9
              refine fk_run ?_
              go_simp
            refine And.intro (fun u W A hW hBW hd hv hr => ?_) ?_
            · have e0 : u 0 = .bool true := hd 0 (by decide) (by kernel_rfl)
              have t61 : A.eval (.tmp 61) = .bool true := (hv 61 (by kernel_rfl)).trans ((by kernel_rfl : slotV _ _ _ u 61 = u 0).trans e0)
              clear hd hv
              have s61 := evalT t61
              clear t61
              refine fk_run ?_
              go_simp
            refine And.intro (fun u W A hW hBW hd hv hr => ?_) ?_
            · have e1 : u 1 = .bool true := hd 1 (by decide) (by kernel_rfl)
              have t0 : A.eval (.tmp 0) = .string secret := (hv 0 (by kernel_rfl)).trans (by kernel_rfl)
              clear hd hv
              have s0 := evalT t0
              clear t0
              refine Or.inl ⟨e1, ?_⟩
              refine fk_run ?_
              go_simp
            refine And.intro (fun u W A hW hBW hd hv hr => ?_) ?_
            · have e1 : u 1 = .bool true := hd 1 (by decide) (by kernel_rfl)
              have t10 : A.eval (.tmp 10) = .int .i64 (h : Int) := (hv 10 (by kernel_rfl)).trans (by kernel_rfl)
              clear hd hv
              have s10 := evalT t10
              clear t10
              refine Or.inl ⟨e1, ?_⟩
              refine fk_run ?_
              go_simp
            refine And.intro (fun u W A hW hBW hd hv hr => ?_) ?_
            · have e1 : u 1 = .bool true := hd 1 (by decide) (by kernel_rfl)
              have e2 : u 2 = .string secret := hd 2 (by decide) (by kernel_rfl)
              have e3 : u 3 = .int .i64 (h : Int) := hd 3 (by decide) (by kernel_rfl)
              have t63 : A.eval (.tmp 63) = .string secret := (hv 63 (by kernel_rfl)).trans ((by kernel_rfl : slotV _ _ _ u 63 = u 2).trans e2)
              have t64 : A.eval (.tmp 64) = .int .i64 (h : Int) := (hv 64 (by kernel_rfl)).trans ((by kernel_rfl : slotV _ _ _ u 64 = u 3).trans e3)
              have hW1 := below_undrew hW
              clear hd hv
              have s63 := evalT t63
              have s64 := evalT t64
              clear t63 t64
              refine Or.inl ⟨e1, ?_⟩
              refine fk_enter (f := 18) (args := #[.string secret, .int .i64 (h : Int), .int .i64 15]) (by go_simp) (fk_own hBW ?_)
              exact made_calls secret h 15 W hs3 (by omega) (by decide) (by decide) (HT.out.on (H8.out.trans (hW1.mono H8.out.size)))
            refine And.intro (fun u W A hW hBW hd hv hr => ?_) ?_
            · have e1 : u 1 = .bool true := hd 1 (by decide) (by kernel_rfl)
              have t2 : A.eval (.tmp 2) = .string m := (hv 2 (by kernel_rfl)).trans (by kernel_rfl)
              clear hd hv
              have s2 := evalT t2
              clear t2
              refine Or.inl ⟨e1, ?_⟩
              refine fk_run ?_
              go_simp
            refine And.intro (fun u W A hW hBW hd hv hr => ?_) ?_
            · have e1 : u 1 = .bool true := hd 1 (by decide) (by kernel_rfl)
              have t7 : A.eval (.tmp 7) = .pointer (some ⟨b7, 0, none⟩) := (hv 7 (by kernel_rfl)).trans (by kernel_rfl)
              have hW1 := below_undrew hW
              have hcl0 : W.cell? ⟨b7, 0, none⟩ = some (.int .i64 (i : Int)) := ((R78.out.on hW1).cell 0).trans rfl
              have hcl1 : W.cell? ⟨b7, 1, none⟩ = some (.slice aos 18 cs) := ((R78.out.on hW1).cell 1).trans rfl
              have hcl2 : W.cell? ⟨b7, 2, none⟩ = some (.slice aop lp cp) := ((R78.out.on hW1).cell 2).trans rfl
              clear hd hv
              have s7 := evalT t7
              clear t7
              refine Or.inl ⟨e1, ?_⟩
              refine fk_run ?_
              go_simp
            refine And.intro (fun u W A hW hBW hd hv hr => ?_) ?_
            · have e1 : u 1 = .bool true := hd 1 (by decide) (by kernel_rfl)
              have e5 : u 5 = .string m := hd 5 (by decide) (by kernel_rfl)
              have e6 : u 6 = .agg #[.int .i64 (i : Int), .slice aos 18 cs, .slice aop lp cp] := hd 6 (by decide) (by kernel_rfl)
              have t66 : A.eval (.tmp 66) = .string m := (hv 66 (by kernel_rfl)).trans ((by kernel_rfl : slotV _ _ _ u 66 = u 5).trans e5)
              have t67 : A.eval (.tmp 67) = .agg #[.int .i64 (i : Int), .slice aos 18 cs, .slice aop lp cp] := (hv 67 (by kernel_rfl)).trans ((by kernel_rfl : slotV _ _ _ u 67 = u 6).trans e6)
              have hW1 := below_undrew hW
              clear hd hv
              have s66 := evalT t66
              have s67 := evalT t67
              clear t66 t67
              refine Or.inl ⟨e1, ?_⟩
              refine fk_enter (f := 19) (args := #[.string m, .agg #[.int .i64 (i : Int), .slice aos 18 cs, .slice aop lp cp]]) (by go_simp) (fk_own hBW ?_)
              exact checked_calls m i _ _ sig path W (by omega) (by omega) (WS8.out.on hW1) (WP8.out.on hW1) HSL.out HPL8.out HS16.out HP16.out (HT.out.on (H8.out.trans (hW1.mono H8.out.size)))
            refine And.intro (fun u W A hW hBW hd hv hr => ?_) ?_
            · have e1 : u 1 = .bool true := hd 1 (by decide) (by kernel_rfl)
              have e4 : Own w8.heap.size W (u 4) (madeT secret h 15) := hd 4 (by decide) (by kernel_rfl)
              have e7 : Own w8.heap.size W (u 7) (checkedT m i sig path) := hd 7 (by decide) (by kernel_rfl)
              have t65 : A.eval (.tmp 65) = u 4 := (hv 65 (by kernel_rfl)).trans (by kernel_rfl)
              have t68 : A.eval (.tmp 68) = u 7 := (hv 68 (by kernel_rfl)).trans (by kernel_rfl)
              have hW1 := below_undrew hW
              clear hd hv
              refine Or.inl ⟨e1, ?_⟩
              exact fk_append (.tmp 65) (.tmp 68) rfl t65 t68 e4 e7.strc hBW (by have := HL1.out; have := HL2.out; omega) (fun c hc => .inl ⟨4, by decide, by decide, hc⟩)
            refine And.intro (fun u W A hW hBW hd hv hr => ?_) ?_
            · have e1 : u 1 = .bool true := hd 1 (by decide) (by kernel_rfl)
              have e8 : Own w8.heap.size W (u 8) (madeT secret h 15 ++ checkedT m i sig path) := hd 8 (by decide) (by kernel_rfl)
              have t69 : A.eval (.tmp 69) = u 8 := (hv 69 (by kernel_rfl)).trans (by kernel_rfl)
              have hW1 := below_undrew hW
              clear hd hv
              have s69 := evalT t69
              clear t69
              refine Or.inl ⟨e1, ?_⟩
              refine fk_enter (f := 17) (args := #[u 8]) (by go_simp) (fk_val ?_)
              exact shown_calls (madeT secret h 15 ++ checkedT m i sig path) _ W e8.strc (fun s hs => (List.mem_append.1 hs).elim (HZ1.out s) (HZ2.out s)) (by rw [List.length_append]; have := HL1.out; have := HL2.out; omega) HCL.out
            refine And.intro (fun u W A hW hBW hd hv hr => ?_) ?_
            · have e1 : u 1 = .bool true := hd 1 (by decide) (by kernel_rfl)
              have e9 : u 9 = .bool true := hd 9 (by decide) (by kernel_rfl)
              have t62 : A.eval (.tmp 62) = .bool true := (hv 62 (by kernel_rfl)).trans ((by kernel_rfl : slotV _ _ _ u 62 = u 1).trans e1)
              have t70 : A.eval (.tmp 70) = .bool true := (hv 70 (by kernel_rfl)).trans ((by kernel_rfl : slotV _ _ _ u 70 = u 9).trans e9)
              clear hd hv
              have s62 := evalT t62
              have s70 := evalT t70
              clear t62 t70
              refine fk_run ?_
              go_simp
            refine And.intro (fun u W A hW hBW hd hv hr => ?_) ?_
            · have e10 : u 10 = .bool true := hd 10 (by decide) (by kernel_rfl)
              have t71 : A.eval (.tmp 71) = .bool true := (hv 71 (by kernel_rfl)).trans ((by kernel_rfl : slotV _ _ _ u 71 = u 10).trans e10)
              clear hd hv
              have s71 := evalT t71
              clear t71
              refine fk_run ?_
              go_simp
            exact trivial
          intro u w9 hb hk2 hf
          have e11 : u 11 = .bool true := hf 11 (by decide) (by decide)
          have hb1 := below_undrew hb
          clear hf hb hk2
          have H9 := Lib.hid (H8.out.trans (hb1.mono H8.out.size))
          have WS9 := Lib.hid (WS8.out.on hb1)
          have WP9 := Lib.hid (WP8.out.on hb1)
          have R79 := Lib.hid (R78.out.on hb1)
          have R139 := Lib.hid (R138.out.on hb1)
          clear hb1
          clear H8 WS8 WP8 R78 R138
          generalize w9 = w9 at *
          simp only [List.take, List.drop, wpList, lexPut, Nat.zero_add, Nat.reduceAdd, e11, Act.put, List.setIfInBounds_toArray, List.set_cons_succ, List.set_cons_zero]
          clear e11
          go_wp2
          go_ret
          exact ⟨rfl, H9.out⟩
namespace sealSound
theorem walk {w : World} (hT : Tabs w) (s : ByteArray) (ws : s.size ≤ maxLen) (a : Int) (wa : (Lit.int .u8 a).wf = true) (m : ByteArray) (wm : m.size ≤ maxLen) (v : Value) (x : Int × List ByteArray × List ByteArray) (hx : SealIn w v x) :
    Calls Tryz.prog 4 #[.string s, .int .u8 a, .string m, v] w fun e w' => e = .returned (.bool true) ∧ Below w.heap.size w w' := by
  have h1 : 0 ≤ a ∧ a ≤ 255 := by simpa [Lit.wf, IntKind.min, IntKind.max, IntKind.signed, IntKind.bits] using wa
  obtain ⟨r, rfl⟩ := Int.eq_ofNat_of_zero_le h1.1
  obtain ⟨⟨vs, vp, rfl, h2, h3⟩, _, _, h4, h5⟩ := hx
  exact sound03_law s m r x.1 vs vp x.2.1 x.2.2 w ws wm (by omega) h2 h3 h4 h5 hT
end sealSound
end Go.Proofs.YtpogffdbencfnaaGreatDoor
