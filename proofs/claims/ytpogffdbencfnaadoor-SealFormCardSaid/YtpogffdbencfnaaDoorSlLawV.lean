import Derived.Test.YtpogffdbencfnaaDoorSlHead
set_option linter.unusedVariables false
namespace Go.Proofs.YtpogffdbencfnaaDoor
open Go Go.RowKit

theorem short_sz {l : List ByteArray} (h : shortB l = true) : ∀ s ∈ l, s.size ≤ 300 := by
  unfold shortB at h
  simpa using h
theorem short2_calls (a b : ByteArray) (w : World) (ha : a.size ≤ 9223372036854775807) (hb : b.size ≤ 9223372036854775807) :
    Calls Tryd.prog 7 #[.slice (some ⟨w.heap.size, 0, none⟩) 2 2] (w.alloc (.cells #[.string a, .string b] 9)) fun e w' => e = .returned (.bool (shortB [a, b])) ∧ Below w.heap.size w w' := by
  refine (short_calls _ [a, b] _ (strc_lit w [a, b] (show 2 ≤ maxLen by decide)) (by simp; exact ⟨ha, hb⟩)).mono ?_
  rintro e w' ⟨rfl, rfl⟩
  exact ⟨rfl, (Below.refl _ _).alloc (Nat.le_refl _) _⟩
theorem pow_facts (h : Nat) (hh : h ≤ 8) : 0 < (2 : Int) ^ h ∧ (2 : Int) ^ h ≤ 256 ∧ ((2 ^ h : Nat) : Int) = (2 : Int) ^ h := by
  have e : ((2 ^ h : Nat) : Int) = (2 : Int) ^ h := by simp
  have h1 := Nat.pow_pos (n := h) (show 0 < 2 by decide)
  have h2 := Nat.pow_le_pow_right (n := 2) (by decide) hh
  rw [← e]
  generalize 2 ^ h = p at *
  omega
theorem sameB_refl (l : List ByteArray) : sameB l l = true := decide_eq_true rfl
theorem at_is {l : List ByteArray} (h : ∀ s ∈ l, isS s = true) (k : Nat) (hk : k < l.length) : isS (l.getD k ByteArray.empty) = true ∧ (l.getD k ByteArray.empty).size ≤ 4611686018427387904 := by
  have e : isS (l.getD k ByteArray.empty) = true := by
    rw [show l.getD k ByteArray.empty = l[k] by simp [List.getD, hk]]
    exact h _ (List.getElem_mem hk)
  have := isS_size e
  exact ⟨e, by omega⟩
theorem sig_isS (secret : ByteArray) (h i : Nat) (m : ByteArray) (hh : h ≤ 8) (hi : i < 2 ^ h) : ∀ s ∈ sigT secret i m, isS s = true := by
  have hv := ver_own secret h i m hh hi
  unfold verT at hv
  simp only [Bool.and_eq_true] at hv
  exact List.all_eq_true.1 hv.1.1.1.1.2
theorem strc_cell {w : World} {b o n cap : Nat} {l : List ByteArray} (h : IsStrC w (.slice (some ⟨b, o, none⟩) n cap) l) (i : Nat) (hi : i < l.length) : w.cell? ⟨b, o + i, none⟩ = some (.string (l.getD i ByteArray.empty)) := by
  obtain ⟨ao, c, e, _, _, hc⟩ := h
  obtain ⟨b', o', rfl, _, hcl⟩ := hc i hi
  simp only [Value.slice.injEq, Option.some.injEq, Addr.mk.injEq] at e
  obtain ⟨⟨rfl, rfl, _⟩, _, _⟩ := e
  exact hcl
theorem strc_some {w : World} {ao : Option Addr} {n cap : Nat} {l : List ByteArray} (h : IsStrC w (.slice ao n cap) l) (i : Nat) (hi : i < l.length) : ∃ b o, ao = some ⟨b, o, none⟩ := by
  obtain ⟨ao', c, e, _, _, hc⟩ := h
  obtain ⟨b', o', rfl, _, hcl⟩ := hc i hi
  simp only [Value.slice.injEq] at e
  exact ⟨b', o', e.1⟩
set_option maxRecDepth 100000 in
set_option maxHeartbeats 8000000 in
theorem verifies_law (secret m : ByteArray) (rh ri : Nat) (w : World) (hs : secret.size ≤ 9223372036854775807) (hm : m.size ≤ 9223372036854775807) (hrh : rh ≤ 255) (hri : ri ≤ 255) (hT : Tabs w) :
    Calls Tryd.prog 3 #[.string secret, .int .u8 (rh : Int), .int .u8 (ri : Int), .string m] w (HeadPost w) := by
  have HT := Lib.hid hT
  clear hT
  cases hsh : shortB [secret, m] with
  | false =>
    have HSH := Lib.hid hsh
    clear hsh
    have H0 : Hid (Below w.heap.size w w) := Lib.hid (Below.refl w.heap.size w)
    go_enter Tryd.func3, Tryd.ntmps3
    go_wp2_with fail
    refine (head_calls w (HT.out.on H0.out)).mono ?_
    rintro e w1 ⟨rfl, hB⟩
    have H1 := Lib.hid (H0.out.trans (hB.mono H0.out.size))
    clear hB H0
    go_wp2_with fail
    refine (short2_calls secret m w1 hs hm).mono ?_
    rintro e w2 ⟨rfl, hB⟩
    have H2 := Lib.hid (H1.out.trans (hB.mono H1.out.size))
    clear hB H1
    rw [HSH.out]
    go_wp2
    go_ret
    exact ⟨rfl, H2.out⟩
  | true =>
    have hsz := short_sz hsh
    have hs3 : secret.size ≤ 300 := hsz secret (by simp)
    have hm3 : m.size ≤ 300 := hsz m (by simp)
    have HSH := Lib.hid hsh
    clear hsh hsz
    obtain ⟨h, hh⟩ : ∃ h, h = rh % 4 := ⟨_, rfl⟩
    have hh3 : h ≤ 3 := by omega
    have hmod : (rh : Int) % 4 = (h : Int) := by rw [hh]; rfl
    obtain ⟨hp0, hp1, hpe⟩ := pow_facts h (by omega)
    have HPE := Lib.hid hpe
    obtain ⟨i, hi⟩ : ∃ i, i = ri % 2 ^ h := ⟨_, rfl⟩
    have HI : Hid (i < 2 ^ h) := Lib.hid (by rw [hi]; exact Nat.mod_lt _ (Nat.pow_pos (by decide)))
    have hmod2 : (ri : Int) % (2 : Int) ^ h = (i : Int) := by rw [hi, ← hpe]; rfl
    have HI2 : Hid (i < 2 ^ (h + 1)) := Lib.hid (Nat.lt_of_lt_of_le HI.out (Nat.pow_le_pow_right (by decide) (by omega)))
    have HWP := Lib.hid (wrap_pow h (by omega))
    have HPZ0 : Hid (((2 : Int) ^ h == 0) = false) := Lib.hid (by rw [beq_eq_false_iff_ne]; omega)
    have HM1 := Lib.hid hmod
    have HM2 := Lib.hid hmod2
    clear hmod hmod2
    have HOWN := Lib.hid (ver_own secret h i m (by omega) HI.out)
    have HPL : Hid ((pathT (keysT secret h) i).length = h) := Lib.hid (by rw [path_length, keysT_len, lenT_pow h i HI.out])
    have HSL := Lib.hid (sigT_len secret i m)
    have HPZ := Lib.hid (pathT_sizes (keysT secret h) i)
    have HSZ := Lib.hid (sigT_sizes secret i m)
    have HRS : Hid ((pubT secret h).size = 16) := Lib.hid (root_size _)
    have HRI : Hid (isS (pubT secret h) = true) := Lib.hid (ver_root HOWN.out)
    have HSI : Hid (∀ k, k < 18 → isS ((sigT secret i m).getD k ByteArray.empty) = true ∧ ((sigT secret i m).getD k ByteArray.empty).size ≤ 4611686018427387904) := Lib.hid (fun k hk => at_is (sig_isS secret h i m (by omega) HI.out) k (by rw [HSL.out]; exact hk))
    have HPI : Hid (∀ k, k < h → isS ((pathT (keysT secret h) i).getD k ByteArray.empty) = true ∧ ((pathT (keysT secret h) i).getD k ByteArray.empty).size ≤ 4611686018427387904) := Lib.hid (fun k hk => at_is (List.all_eq_true.1 (path_isS (keysT secret h) i)) k (by rw [HPL.out]; exact hk))
    clear hh hi hpe
    have H0 : Hid (Below w.heap.size w w) := Lib.hid (Below.refl w.heap.size w)
    go_enter Tryd.func3, Tryd.ntmps3
    go_wp2_with fail
    refine (head_calls w (HT.out.on H0.out)).mono ?_
    rintro e w1 ⟨rfl, hB⟩
    have H1 := Lib.hid (H0.out.trans (hB.mono H0.out.size))
    clear hB H0
    go_wp2_with fail
    refine (short2_calls secret m w1 hs hm).mono ?_
    rintro e w2 ⟨rfl, hB⟩
    have H2 := Lib.hid (H1.out.trans (hB.mono H1.out.size))
    clear hB H1
    rw [HSH.out]
    have hwp := HWP.out
    have hpz := HPZ0.out
    have hm1 := HM1.out
    have hm2 := HM2.out
    go_wp2_with fail
    rw [HM1.out, HM2.out]
    clear hwp hpz hm1 hm2 HM1 HM2 HWP HPZ0
    refine (public_calls secret h w2 (by omega) (by omega) (HT.out.on H2.out)).mono ?_
    rintro e w3 ⟨rfl, hB⟩
    have H3 := Lib.hid (H2.out.trans (hB.mono H2.out.size))
    clear hB H2
    go_wp2_with fail
    refine (sign_ok secret m h i w3 (by omega) (by omega) (by omega) (by omega) HI.out (HT.out.on H3.out)).mono ?_
    rintro e w4 ⟨vsa, vpa, rfl, hsa, hpa, hB⟩
    have H4 := Lib.hid (H3.out.trans (hB.mono H3.out.size))
    clear hB H3
    obtain ⟨aosa, csa, rfl⟩ := strc_form hsa
    obtain ⟨aopa, cpa, rfl⟩ := strc_form hpa
    rw [HSL.out] at hsa ⊢
    rw [HPL.out] at hpa ⊢
    have VSa4 := Lib.hid (hsa)
    have VPa4 := Lib.hid (hpa)
    clear hsa hpa
    go_wp2_with fail
    have hq : Below w4.heap.size w4 (w4.alloc (.cells #[.int .i64 (i : Int), .slice aosa 18 csa, .slice aopa h cpa] 29)) := (Below.refl _ _).alloc (Nat.le_refl _) _
    have H5 := Lib.hid (H4.out.trans (hq.mono H4.out.size))
    have VSa5 := Lib.hid (VSa4.out.on hq)
    have VPa5 := Lib.hid (VPa4.out.on hq)
    have R145 := Lib.hid (RowIs.new w4 #[.int .i64 (i : Int), .slice aosa 18 csa, .slice aopa h cpa] 29)
    obtain ⟨b14, hb14⟩ : ∃ b, b = w4.heap.size := ⟨_, rfl⟩
    rw [← hb14] at R145 ⊢
    have Z14 : Hid ((w4.alloc (.cells #[.int .i64 (i : Int), .slice aosa 18 csa, .slice aopa h cpa] 29)).heap.size = b14 + 1) := Lib.hid (by rw [World.size_alloc, hb14])
    generalize hgw : w4.alloc (.cells #[.int .i64 (i : Int), .slice aosa 18 csa, .slice aopa h cpa] 29) = w5 at *
    clear hq hgw hb14 H4 VSa4 VPa4
    refine (sign_ok secret m h i w5 (by omega) (by omega) (by omega) (by omega) HI.out (HT.out.on H5.out)).mono ?_
    rintro e w6 ⟨vsb, vpb, rfl, hsb, hpb, hB⟩
    have H6 := Lib.hid (H5.out.trans (hB.mono H5.out.size))
    have VSa6 := Lib.hid (VSa5.out.on hB)
    have VPa6 := Lib.hid (VPa5.out.on hB)
    have R146 := Lib.hid (R145.out.on hB)
    clear hB H5 VSa5 VPa5 R145
    obtain ⟨aosb, csb, rfl⟩ := strc_form hsb
    obtain ⟨aopb, cpb, rfl⟩ := strc_form hpb
    rw [HSL.out] at hsb ⊢
    rw [HPL.out] at hpb ⊢
    have VSb6 := Lib.hid (hsb)
    have VPb6 := Lib.hid (hpb)
    clear hsb hpb
    go_wp2_with fail
    have hq : Below w6.heap.size w6 (w6.alloc (.cells #[.int .i64 (i : Int), .slice aosb 18 csb, .slice aopb h cpb] 29)) := (Below.refl _ _).alloc (Nat.le_refl _) _
    have H7 := Lib.hid (H6.out.trans (hq.mono H6.out.size))
    have VSa7 := Lib.hid (VSa6.out.on hq)
    have VPa7 := Lib.hid (VPa6.out.on hq)
    have R147 := Lib.hid (R146.out.on hq)
    have VSb7 := Lib.hid (VSb6.out.on hq)
    have VPb7 := Lib.hid (VPb6.out.on hq)
    have R167 := Lib.hid (RowIs.new w6 #[.int .i64 (i : Int), .slice aosb 18 csb, .slice aopb h cpb] 29)
    obtain ⟨b16, hb16⟩ : ∃ b, b = w6.heap.size := ⟨_, rfl⟩
    rw [← hb16] at R167 ⊢
    have Z16 : Hid ((w6.alloc (.cells #[.int .i64 (i : Int), .slice aosb 18 csb, .slice aopb h cpb] 29)).heap.size = b16 + 1) := Lib.hid (by rw [World.size_alloc, hb16])
    generalize hgw : w6.alloc (.cells #[.int .i64 (i : Int), .slice aosb 18 csb, .slice aopb h cpb] 29) = w7 at *
    clear hq hgw hb16 H6 VSa6 VPa6 R146 VSb6 VPb6
    rw [show ((h : Int) + 1) = ((h + 1 : Nat) : Int) from rfl]
    refine (sign_ok secret m (h + 1) i w7 (by omega) (by omega) (by omega) (by omega) HI2.out (HT.out.on H7.out)).mono ?_
    rintro e w8 ⟨vsc, vpc, rfl, hsc, hpc, hB⟩
    have H8 := Lib.hid (H7.out.trans (hB.mono H7.out.size))
    have VSa8 := Lib.hid (VSa7.out.on hB)
    have VPa8 := Lib.hid (VPa7.out.on hB)
    have R148 := Lib.hid (R147.out.on hB)
    have VSb8 := Lib.hid (VSb7.out.on hB)
    have VPb8 := Lib.hid (VPb7.out.on hB)
    have R168 := Lib.hid (R167.out.on hB)
    clear hB H7 VSa7 VPa7 R147 VSb7 VPb7 R167
    obtain ⟨aosc, csc, rfl⟩ := strc_form hsc
    obtain ⟨aopc, cpc, rfl⟩ := strc_form hpc
    rw [HSL.out] at hsc ⊢
    have VSc8 := Lib.hid (hsc)
    have VPc8 := Lib.hid (hpc)
    clear hsc hpc
    have c140_1 : ∀ o0 : Obj, (w8.alloc o0).cell? ⟨b14, 0, none⟩ = some (.int .i64 (i : Int)) := fun o0 => ((R148.out.on (below_new (Below.refl w8.heap.size w8) o0)).cell 0).trans rfl
    have c141_1 : ∀ o0 : Obj, (w8.alloc o0).cell? ⟨b14, 1, none⟩ = some (.slice aosa 18 csa) := fun o0 => ((R148.out.on (below_new (Below.refl w8.heap.size w8) o0)).cell 1).trans rfl
    have c142_1 : ∀ o0 : Obj, (w8.alloc o0).cell? ⟨b14, 2, none⟩ = some (.slice aopa h cpa) := fun o0 => ((R148.out.on (below_new (Below.refl w8.heap.size w8) o0)).cell 2).trans rfl
    have c160_1 : ∀ o0 : Obj, (w8.alloc o0).cell? ⟨b16, 0, none⟩ = some (.int .i64 (i : Int)) := fun o0 => ((R168.out.on (below_new (Below.refl w8.heap.size w8) o0)).cell 0).trans rfl
    have c161_1 : ∀ o0 : Obj, (w8.alloc o0).cell? ⟨b16, 1, none⟩ = some (.slice aosb 18 csb) := fun o0 => ((R168.out.on (below_new (Below.refl w8.heap.size w8) o0)).cell 1).trans rfl
    have c162_1 : ∀ o0 : Obj, (w8.alloc o0).cell? ⟨b16, 2, none⟩ = some (.slice aopb h cpb) := fun o0 => ((R168.out.on (below_new (Below.refl w8.heap.size w8) o0)).cell 2).trans rfl
    go_wp2_with fail
    clear c140_1 c141_1 c142_1 c160_1 c161_1 c162_1
    have hq : Below w8.heap.size w8 (w8.alloc (.cells #[.int .i64 (i : Int), .slice aosc 18 csc, .slice aopc (pathT (keysT secret (h + 1)) i).length cpc] 29)) := (Below.refl _ _).alloc (Nat.le_refl _) _
    have H9 := Lib.hid (H8.out.trans (hq.mono H8.out.size))
    have VSa9 := Lib.hid (VSa8.out.on hq)
    have VPa9 := Lib.hid (VPa8.out.on hq)
    have R149 := Lib.hid (R148.out.on hq)
    have VSb9 := Lib.hid (VSb8.out.on hq)
    have VPb9 := Lib.hid (VPb8.out.on hq)
    have R169 := Lib.hid (R168.out.on hq)
    have VSc9 := Lib.hid (VSc8.out.on hq)
    have VPc9 := Lib.hid (VPc8.out.on hq)
    have R189 := Lib.hid (RowIs.new w8 #[.int .i64 (i : Int), .slice aosc 18 csc, .slice aopc (pathT (keysT secret (h + 1)) i).length cpc] 29)
    obtain ⟨b18, hb18⟩ : ∃ b, b = w8.heap.size := ⟨_, rfl⟩
    rw [← hb18] at R189 ⊢
    have Z18 : Hid ((w8.alloc (.cells #[.int .i64 (i : Int), .slice aosc 18 csc, .slice aopc (pathT (keysT secret (h + 1)) i).length cpc] 29)).heap.size = b18 + 1) := Lib.hid (by rw [World.size_alloc, hb18])
    generalize hgw : w8.alloc (.cells #[.int .i64 (i : Int), .slice aosc 18 csc, .slice aopc (pathT (keysT secret (h + 1)) i).length cpc] 29) = w9 at *
    clear hq hgw hb18 H8 VSa8 VPa8 R148 VSb8 VPb8 R168 VSc8 VPc8
    refine (same03_calls (i : Int) (i : Int) _ _ _ _ (sigT secret i m) (sigT secret i m) (pathT (keysT secret h) i) (pathT (keysT secret h) i) w9 VSa9.out VSb9.out VPa9.out VPb9.out).mono ?_
    rintro e w10 ⟨rfl, hB⟩
    have H10 := Lib.hid (H9.out.trans (hB.mono H9.out.size))
    have VSa10 := Lib.hid (VSa9.out.on hB)
    have VPa10 := Lib.hid (VPa9.out.on hB)
    have R1410 := Lib.hid (R149.out.on hB)
    have VSb10 := Lib.hid (VSb9.out.on hB)
    have VPb10 := Lib.hid (VPb9.out.on hB)
    have R1610 := Lib.hid (R169.out.on hB)
    have VSc10 := Lib.hid (VSc9.out.on hB)
    have VPc10 := Lib.hid (VPc9.out.on hB)
    have R1810 := Lib.hid (R189.out.on hB)
    clear hB H9 VSa9 VPa9 R149 VSb9 VPb9 R169 VSc9 VPc9 R189
    rw [same3_refl]
    have c140 : w10.cell? ⟨b14, 0, none⟩ = some (.int .i64 (i : Int)) := (R1410.out.cell 0).trans rfl
    have c141 : w10.cell? ⟨b14, 1, none⟩ = some (.slice aosa 18 csa) := (R1410.out.cell 1).trans rfl
    have c142 : w10.cell? ⟨b14, 2, none⟩ = some (.slice aopa h cpa) := (R1410.out.cell 2).trans rfl
    go_wp2_with fail
    clear c140 c141 c142
    go_loopw [20] (fun vi W => ∃ k : Nat, vi = .int .i64 (k : Int) ∧ k ≤ 18 ∧ Hid (Below w10.heap.size w10 W)) (fun vi _ => 18 - (RowKit.intOf vi).toNat)
    case atStart => exact ⟨0, rfl, by omega, Lib.hid (Below.refl _ _)⟩
    case round =>
      obtain ⟨k, rfl, hk, HL⟩ := hrel
      have ck : wr.cell? ⟨b14, 1, none⟩ = some (.slice aosa 18 csa) := ((R1410.out.on HL.out).cell 1).trans rfl
      by_cases hlt : k < 18
      · obtain ⟨bs, os, rfl⟩ := strc_some VSa10.out k (by rw [HSL.out]; exact hlt)
        have cks := strc_cell (VSa10.out.on HL.out) k (by rw [HSL.out]; exact hlt)
        obtain ⟨hq1, hq2⟩ := HSI.out k hlt
        generalize (sigT secret i m).getD k ByteArray.empty = s at *
        have hlt' : (k : Int) < (18 : Int) := by omega
        go_wp2_with fail
        refine (is_calls s hq2 wr).mono ?_
        rintro e w' ⟨rfl, hB⟩
        rw [hq1]
        have HL2 := Lib.hid (HL.out.trans (hB.mono HL.out.size))
        clear hB HL ck cks
        go_wp2
        go_round
        case rel => exact ⟨k + 1, by go_num, by omega, HL2⟩
        case measure => simp only [RowKit.intOf]; omega
      · obtain rfl : k = 18 := by omega
        have hB := HL.out
        clear HL
        rw [show ((18 : Nat) : Int) = 18 from rfl]
        go_wp2_with fail
        clear ck
        have H11 := Lib.hid (H10.out.trans (hB.mono H10.out.size))
        have VSa11 := Lib.hid (VSa10.out.on hB)
        have VPa11 := Lib.hid (VPa10.out.on hB)
        have R1411 := Lib.hid (R1410.out.on hB)
        have VSb11 := Lib.hid (VSb10.out.on hB)
        have VPb11 := Lib.hid (VPb10.out.on hB)
        have R1611 := Lib.hid (R1610.out.on hB)
        have VSc11 := Lib.hid (VSc10.out.on hB)
        have VPc11 := Lib.hid (VPc10.out.on hB)
        have R1811 := Lib.hid (R1810.out.on hB)
        clear hB
        clear H10 VSa10 VPa10 R1410 VSb10 VPb10 R1610 VSc10 VPc10 R1810
        generalize wr = w11 at *
        go_loopw [21] (fun vi W => ∃ k : Nat, vi = .int .i64 (k : Int) ∧ k ≤ h ∧ Hid (Below w11.heap.size w11 W)) (fun vi _ => h - (RowKit.intOf vi).toNat)
        case atStart => exact ⟨0, rfl, by omega, Lib.hid (Below.refl _ _)⟩
        case round =>
          obtain ⟨k, rfl, hk, HL⟩ := hrel
          have ck : wr.cell? ⟨b14, 2, none⟩ = some (.slice aopa h cpa) := ((R1411.out.on HL.out).cell 2).trans rfl
          by_cases hlt : k < h
          · obtain ⟨bs, os, rfl⟩ := strc_some VPa11.out k (by rw [HPL.out]; exact hlt)
            have cks := strc_cell (VPa11.out.on HL.out) k (by rw [HPL.out]; exact hlt)
            obtain ⟨hq1, hq2⟩ := HPI.out k hlt
            generalize (pathT (keysT secret h) i).getD k ByteArray.empty = s at *
            have hlt' : (k : Int) < (h : Int) := by omega
            go_wp2_with fail
            refine (is_calls s hq2 wr).mono ?_
            rintro e w' ⟨rfl, hB⟩
            rw [hq1]
            have HL2 := Lib.hid (HL.out.trans (hB.mono HL.out.size))
            clear hB HL ck cks
            go_wp2
            go_round
            case rel => exact ⟨k + 1, by go_num, by omega, HL2⟩
            case measure => simp only [RowKit.intOf]; omega
          · obtain rfl : h = k := by omega
            have hB := HL.out
            clear HL
            go_wp2_with fail
            clear ck
            have H12 := Lib.hid (H11.out.trans (hB.mono H11.out.size))
            have VSa12 := Lib.hid (VSa11.out.on hB)
            have VPa12 := Lib.hid (VPa11.out.on hB)
            have R1412 := Lib.hid (R1411.out.on hB)
            have VSb12 := Lib.hid (VSb11.out.on hB)
            have VPb12 := Lib.hid (VPb11.out.on hB)
            have R1612 := Lib.hid (R1611.out.on hB)
            have VSc12 := Lib.hid (VSc11.out.on hB)
            have VPc12 := Lib.hid (VPc11.out.on hB)
            have R1812 := Lib.hid (R1811.out.on hB)
            clear hB
            clear H11 VSa11 VPa11 R1411 VSb11 VPb11 R1611 VSc11 VPc11 R1811
            generalize wr = w12 at *
            have c180 : w12.cell? ⟨b18, 0, none⟩ = some (.int .i64 (i : Int)) := (R1812.out.cell 0).trans rfl
            have c181 : w12.cell? ⟨b18, 1, none⟩ = some (.slice aosc 18 csc) := (R1812.out.cell 1).trans rfl
            have c182 : w12.cell? ⟨b18, 2, none⟩ = some (.slice aopc (pathT (keysT secret (h + 1)) i).length cpc) := (R1812.out.cell 2).trans rfl
            have c140 : w12.cell? ⟨b14, 0, none⟩ = some (.int .i64 (i : Int)) := (R1412.out.cell 0).trans rfl
            have c141 : w12.cell? ⟨b14, 1, none⟩ = some (.slice aosa 18 csa) := (R1412.out.cell 1).trans rfl
            have c142 : w12.cell? ⟨b14, 2, none⟩ = some (.slice aopa h cpa) := (R1412.out.cell 2).trans rfl
            go_wp2_with fail
            refine (is_calls (pubT secret h) (by have := HRS.out; omega) w12).mono ?_
            rintro e w13 ⟨rfl, hB⟩
            clear c180 c181 c182 c140 c141 c142
            have H13 := Lib.hid (H12.out.trans (hB.mono H12.out.size))
            have VSa13 := Lib.hid (VSa12.out.on hB)
            have VPa13 := Lib.hid (VPa12.out.on hB)
            have R1413 := Lib.hid (R1412.out.on hB)
            have VSb13 := Lib.hid (VSb12.out.on hB)
            have VPb13 := Lib.hid (VPb12.out.on hB)
            have R1613 := Lib.hid (R1612.out.on hB)
            have VSc13 := Lib.hid (VSc12.out.on hB)
            have VPc13 := Lib.hid (VPc12.out.on hB)
            have R1813 := Lib.hid (R1812.out.on hB)
            clear hB H12 VSa12 VPa12 R1412 VSb12 VPb12 R1612 VSc12 VPc12 R1812
            rw [HRI.out]
            have c180 : w13.cell? ⟨b18, 0, none⟩ = some (.int .i64 (i : Int)) := (R1813.out.cell 0).trans rfl
            have c181 : w13.cell? ⟨b18, 1, none⟩ = some (.slice aosc 18 csc) := (R1813.out.cell 1).trans rfl
            have c182 : w13.cell? ⟨b18, 2, none⟩ = some (.slice aopc (pathT (keysT secret (h + 1)) i).length cpc) := (R1813.out.cell 2).trans rfl
            have c140 : w13.cell? ⟨b14, 0, none⟩ = some (.int .i64 (i : Int)) := (R1413.out.cell 0).trans rfl
            have c141 : w13.cell? ⟨b14, 1, none⟩ = some (.slice aosa 18 csa) := (R1413.out.cell 1).trans rfl
            have c142 : w13.cell? ⟨b14, 2, none⟩ = some (.slice aopa h cpa) := (R1413.out.cell 2).trans rfl
            go_wp2_with fail
            refine (same_calls _ _ (sigT secret i m) (sigT secret i m) w13 VSc13.out.strs VSa13.out.strs).mono ?_
            rintro e w14 ⟨rfl, hB⟩
            clear c180 c181 c182 c140 c141 c142
            have H14 := Lib.hid (H13.out.trans (hB.mono H13.out.size))
            have VSa14 := Lib.hid (VSa13.out.on hB)
            have VPa14 := Lib.hid (VPa13.out.on hB)
            have R1414 := Lib.hid (R1413.out.on hB)
            have VSb14 := Lib.hid (VSb13.out.on hB)
            have VPb14 := Lib.hid (VPb13.out.on hB)
            have R1614 := Lib.hid (R1613.out.on hB)
            have VSc14 := Lib.hid (VSc13.out.on hB)
            have VPc14 := Lib.hid (VPc13.out.on hB)
            have R1814 := Lib.hid (R1813.out.on hB)
            clear hB H13 VSa13 VPa13 R1413 VSb13 VPb13 R1613 VSc13 VPc13 R1813
            rw [sameB_refl]
            have c140 : w14.cell? ⟨b14, 0, none⟩ = some (.int .i64 (i : Int)) := (R1414.out.cell 0).trans rfl
            have c141 : w14.cell? ⟨b14, 1, none⟩ = some (.slice aosa 18 csa) := (R1414.out.cell 1).trans rfl
            have c142 : w14.cell? ⟨b14, 2, none⟩ = some (.slice aopa h cpa) := (R1414.out.cell 2).trans rfl
            go_wp2_with fail
            refine (verify_calls (pubT secret h) m (i : Int) _ _ (sigT secret i m) (pathT (keysT secret h) i) w14 (by have := HRS.out; omega) (by omega) VSa14.out VPa14.out HSZ.out HPZ.out (HT.out.on H14.out)).mono ?_
            rintro e w15 ⟨rfl, hB⟩
            clear c140 c141 c142
            have H15 := Lib.hid (H14.out.trans (hB.mono H14.out.size))
            have VSa15 := Lib.hid (VSa14.out.on hB)
            have VPa15 := Lib.hid (VPa14.out.on hB)
            have R1415 := Lib.hid (R1414.out.on hB)
            have VSb15 := Lib.hid (VSb14.out.on hB)
            have VPb15 := Lib.hid (VPb14.out.on hB)
            have R1615 := Lib.hid (R1614.out.on hB)
            have VSc15 := Lib.hid (VSc14.out.on hB)
            have VPc15 := Lib.hid (VPc14.out.on hB)
            have R1815 := Lib.hid (R1814.out.on hB)
            clear hB H14 VSa14 VPa14 R1414 VSb14 VPb14 R1614 VSc14 VPc14 R1814
            rw [HOWN.out]
            go_wp2
            go_ret
            exact ⟨rfl, H15.out⟩
namespace sealVerifies
theorem walk {w : World} (hT : Tabs w) (s : ByteArray) (ws : s.size ≤ maxLen) (a : Int) (wa : (Lit.int .u8 a).wf = true) (b : Int) (wb : (Lit.int .u8 b).wf = true) (m : ByteArray) (wm : m.size ≤ maxLen) :
    Calls Tryd.prog 3 #[.string s, .int .u8 a, .int .u8 b, .string m] w fun e w' => e = .returned (.bool true) ∧ Below w.heap.size w w' := by
  have h1 : 0 ≤ a ∧ a ≤ 255 := by simpa [Lit.wf, IntKind.min, IntKind.max, IntKind.signed, IntKind.bits] using wa
  have h2 : 0 ≤ b ∧ b ≤ 255 := by simpa [Lit.wf, IntKind.min, IntKind.max, IntKind.signed, IntKind.bits] using wb
  obtain ⟨r, rfl⟩ := Int.eq_ofNat_of_zero_le h1.1
  obtain ⟨q, rfl⟩ := Int.eq_ofNat_of_zero_le h2.1
  exact verifies_law s m r q w ws wm (by omega) (by omega) hT
end sealVerifies
end Go.Proofs.YtpogffdbencfnaaDoor
