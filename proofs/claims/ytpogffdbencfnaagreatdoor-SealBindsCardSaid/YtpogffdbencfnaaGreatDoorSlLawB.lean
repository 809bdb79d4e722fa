import Derived.Test.YtpogffdbencfnaaGreatDoorSlChkB
import Derived.Test.YtpogffdbencfnaaGreatDoorTrShown
set_option linter.unusedVariables false
namespace Go.Proofs.YtpogffdbencfnaaGreatDoor
open Go Go.RowKit

set_option maxRecDepth 100000 in
set_option maxHeartbeats 8000000 in
theorem binds03_law (secret m other : ByteArray) (rh ri : Nat) (w : World) (hs : secret.size ≤ 9223372036854775807) (hm : m.size ≤ 9223372036854775807) (ho : other.size ≤ 9223372036854775807) (hrh : rh ≤ 255) (hri : ri ≤ 255) (hT : Tabs w) :
    Calls Tryz.prog 5 #[.string secret, .int .u8 (rh : Int), .int .u8 (ri : Int), .string m, .string other] w (HeadPost w) := by
  have HT := Lib.hid hT
  clear hT
  obtain ⟨h, hh⟩ : ∃ h, h = rh % 3 := ⟨_, rfl⟩
  have hh3 : h ≤ 2 := by omega
  have HM1 : Hid ((rh : Int) % 3 = (h : Int)) := Lib.hid (by rw [hh]; rfl)
  obtain ⟨hp0, hp1, hpe⟩ := pow_factsB h (by omega)
  have HPE := Lib.hid hpe
  obtain ⟨i, hi⟩ : ∃ i, i = ri % 2 ^ h := ⟨_, rfl⟩
  have HI : Hid (i < 2 ^ h) := Lib.hid (by rw [hi]; exact Nat.mod_lt _ (Nat.pow_pos (by decide)))
  have HM2 : Hid ((ri : Int) % (2 : Int) ^ h = (i : Int)) := Lib.hid (by rw [hi, ← hpe]; rfl)
  have hi255 : i ≤ 255 := by rw [hi]; exact Nat.le_trans (Nat.mod_le _ _) hri
  have HWP := Lib.hid (wrap_pow h (by omega))
  have HPZ0 : Hid (((2 : Int) ^ h == 0) = false) := Lib.hid (by rw [beq_eq_false_iff_ne]; omega)
  clear hh hi hpe
  cases hsh : shortB [secret, m, other] with
  | false =>
    have HSH := Lib.hid hsh
    clear hsh
    have H0 : Hid (Below w.heap.size w w) := Lib.hid (Below.refl w.heap.size w)
    go_enter Tryz.func5, Tryz.ntmps5
    go_wp2_with fail
    refine (head_calls w (HT.out.on H0.out)).mono ?_
    rintro e w1 ⟨rfl, hB⟩
    have H1 := Lib.hid (H0.out.trans (hB.mono H0.out.size))
    clear hB H0
    have hwp := HWP.out
    have hpz := HPZ0.out
    have hm1 := HM1.out
    have hm2 := HM2.out
    go_wp2_with fail
    rw [HM1.out, HM2.out]
    clear hwp hpz hm1 hm2
    refine (short3_callsB secret m other w1 hs hm ho).mono ?_
    rintro e w2 ⟨rfl, hB⟩
    have H2 := Lib.hid (H1.out.trans (hB.mono H1.out.size))
    clear hB H1
    rw [HSH.out]
    go_wp2
    go_ret
    exact ⟨rfl, H2.out⟩
  | true =>
    have hsz := short_szB hsh
    have hs3 : secret.size ≤ 300 := hsz secret (by simp)
    have ho3 : other.size ≤ 300 := hsz other (by simp)
    have hm3 : m.size ≤ 300 := hsz m (by simp)
    have HSH := Lib.hid hsh
    clear hsh hsz
    have HR1 := Lib.hid (fun W => rsum_calls m (by omega) W)
    have HR2 := Lib.hid (fun W => rsum_calls other (by omega) W)
    by_cases hne : sumS m = sumS other
    · have HNE := Lib.hid hne
      clear hne
      have H0 : Hid (Below w.heap.size w w) := Lib.hid (Below.refl w.heap.size w)
      go_enter Tryz.func5, Tryz.ntmps5
      go_wp2_with fail
      refine (head_calls w (HT.out.on H0.out)).mono ?_
      rintro e w1 ⟨rfl, hB⟩
      have H1 := Lib.hid (H0.out.trans (hB.mono H0.out.size))
      clear hB H0
      have hwp := HWP.out
      have hpz := HPZ0.out
      have hm1 := HM1.out
      have hm2 := HM2.out
      go_wp2_with fail
      rw [HM1.out, HM2.out]
      clear hwp hpz hm1 hm2
      refine (short3_callsB secret m other w1 hs hm ho).mono ?_
      rintro e w2 ⟨rfl, hB⟩
      have H2 := Lib.hid (H1.out.trans (hB.mono H1.out.size))
      clear hB H1
      rw [HSH.out]
      go_wp2_with fail
      refine (HR1.out w2).mono ?_
      rintro e w3 ⟨rfl, rfl⟩
      have H3 := Lib.hid H2.out
      clear  H2
      go_wp2_with fail
      refine (HR2.out w3).mono ?_
      rintro e w4 ⟨rfl, rfl⟩
      have H4 := Lib.hid H3.out
      clear  H3
      rw [← HNE.out]
      go_wp2
      go_ret
      exact ⟨rfl, H4.out⟩
    · have HNE := Lib.hid hne
      have hnes := strne hne
      have HPL : Hid ((pathT (keysT secret h) i).length = h) := Lib.hid (by rw [path_length, keysT_len, lenT_pow h i HI.out])
      have HSL := Lib.hid (sigT_len secret i m)
      have HPZ := Lib.hid (pathT_sizes (keysT secret h) i)
      have HSZ := Lib.hid (sigT_sizes secret i m)
      have HRS : Hid ((pubT secret h).size = 16) := Lib.hid (root_size _)
      clear hne
      cases hv : verT (pubT secret h) other (i : Int) (sigT secret i m) (pathT (keysT secret h) i) with
      | false =>
        have HV := Lib.hid hv
        clear hv
        have H0 : Hid (Below w.heap.size w w) := Lib.hid (Below.refl w.heap.size w)
        go_enter Tryz.func5, Tryz.ntmps5
        go_wp2_with fail
        refine (head_calls w (HT.out.on H0.out)).mono ?_
        rintro e w1 ⟨rfl, hB⟩
        have H1 := Lib.hid (H0.out.trans (hB.mono H0.out.size))
        clear hB H0
        have hwp := HWP.out
        have hpz := HPZ0.out
        have hm1 := HM1.out
        have hm2 := HM2.out
        go_wp2_with fail
        rw [HM1.out, HM2.out]
        clear hwp hpz hm1 hm2
        refine (short3_callsB secret m other w1 hs hm ho).mono ?_
        rintro e w2 ⟨rfl, hB⟩
        have H2 := Lib.hid (H1.out.trans (hB.mono H1.out.size))
        clear hB H1
        rw [HSH.out]
        go_wp2_with fail
        refine (HR1.out w2).mono ?_
        rintro e w3 ⟨rfl, rfl⟩
        have H3 := Lib.hid H2.out
        clear  H2
        go_wp2_with fail
        refine (HR2.out w3).mono ?_
        rintro e w4 ⟨rfl, rfl⟩
        have H4 := Lib.hid H3.out
        clear  H3
        go_wp2_with fail
        refine (public_calls secret h w4 (by omega) (by omega) (HT.out.on H4.out)).mono ?_
        rintro e w5 ⟨rfl, hB⟩
        have H5 := Lib.hid (H4.out.trans (hB.mono H4.out.size))
        clear hB H4
        go_wp2_with fail
        refine (sign_ok secret m h i w5 (by omega) (by omega) (by omega) (by omega) HI.out (HT.out.on H5.out)).mono ?_
        rintro e w6 ⟨vsa, vpa, rfl, hsa, hpa, hB⟩
        have H6 := Lib.hid (H5.out.trans (hB.mono H5.out.size))
        clear hB H5
        obtain ⟨aosa, csa, rfl⟩ := strc_form hsa
        obtain ⟨aopa, cpa, rfl⟩ := strc_form hpa
        rw [HSL.out] at hsa ⊢
        rw [HPL.out] at hpa ⊢
        have VSa6 := Lib.hid (hsa)
        have VPa6 := Lib.hid (hpa)
        clear hsa hpa
        go_wp2_with fail
        have hq : Below w6.heap.size w6 (w6.alloc (.cells #[.int .i64 (i : Int), .slice aosa 18 csa, .slice aopa h cpa] 24)) := (Below.refl _ _).alloc (Nat.le_refl _) _
        have H7 := Lib.hid (H6.out.trans (hq.mono H6.out.size))
        have VSa7 := Lib.hid (VSa6.out.on hq)
        have VPa7 := Lib.hid (VPa6.out.on hq)
        have R167 := Lib.hid (RowIs.new w6 #[.int .i64 (i : Int), .slice aosa 18 csa, .slice aopa h cpa] 24)
        obtain ⟨b16, hb16⟩ : ∃ b, b = w6.heap.size := ⟨_, rfl⟩
        rw [← hb16] at R167 ⊢
        have Z16 : Hid ((w6.alloc (.cells #[.int .i64 (i : Int), .slice aosa 18 csa, .slice aopa h cpa] 24)).heap.size = b16 + 1) := Lib.hid (by rw [World.size_alloc, hb16])
        generalize hgw : w6.alloc (.cells #[.int .i64 (i : Int), .slice aosa 18 csa, .slice aopa h cpa] 24) = w7 at *
        clear hq hgw hb16 H6 VSa6 VPa6
        refine (verify_calls (pubT secret h) other (i : Int) _ _ (sigT secret i m) (pathT (keysT secret h) i) w7 (by have := HRS.out; omega) (by omega) VSa7.out VPa7.out HSZ.out HPZ.out (HT.out.on H7.out)).mono ?_
        rintro e w8 ⟨rfl, hB⟩
        have H8 := Lib.hid (H7.out.trans (hB.mono H7.out.size))
        have VSa8 := Lib.hid (VSa7.out.on hB)
        have VPa8 := Lib.hid (VPa7.out.on hB)
        have R168 := Lib.hid (R167.out.on hB)
        clear hB H7 VSa7 VPa7 R167
        rw [HV.out]
        go_wp2
        go_ret
        exact ⟨rfl, H8.out⟩
      | true =>
        have HV := Lib.hid hv
        have HCL := Lib.hid (seal_binds HI.out HNE.out hv)
        have HL1 := Lib.hid (madeT_len secret h 30 (by omega) (by decide))
        have HZ1 := Lib.hid (madeT_size secret h 30 hs3 (by omega))
        have HZ2 := Lib.hid (checkedT_size other i (sigT_16 secret i m) (pathT_16 (keysT secret h) i))
        have HL2 := Lib.hid (checkedT_len other i (sigT secret i m) (pathT (keysT secret h) i) (by rw [HPL.out]; omega))
        clear hv
        have H0 : Hid (Below w.heap.size w w) := Lib.hid (Below.refl w.heap.size w)
        go_enter Tryz.func5, Tryz.ntmps5
        go_wp2_with fail
        refine (head_calls w (HT.out.on H0.out)).mono ?_
        rintro e w1 ⟨rfl, hB⟩
        have H1 := Lib.hid (H0.out.trans (hB.mono H0.out.size))
        clear hB H0
        have hwp := HWP.out
        have hpz := HPZ0.out
        have hm1 := HM1.out
        have hm2 := HM2.out
        go_wp2_with fail
        rw [HM1.out, HM2.out]
        clear hwp hpz hm1 hm2
        refine (short3_callsB secret m other w1 hs hm ho).mono ?_
        rintro e w2 ⟨rfl, hB⟩
        have H2 := Lib.hid (H1.out.trans (hB.mono H1.out.size))
        clear hB H1
        rw [HSH.out]
        go_wp2_with fail
        refine (HR1.out w2).mono ?_
        rintro e w3 ⟨rfl, rfl⟩
        have H3 := Lib.hid H2.out
        clear  H2
        go_wp2_with fail
        refine (HR2.out w3).mono ?_
        rintro e w4 ⟨rfl, rfl⟩
        have H4 := Lib.hid H3.out
        clear  H3
        go_wp2_with fail
        refine (public_calls secret h w4 (by omega) (by omega) (HT.out.on H4.out)).mono ?_
        rintro e w5 ⟨rfl, hB⟩
        have H5 := Lib.hid (H4.out.trans (hB.mono H4.out.size))
        clear hB H4
        go_wp2_with fail
        refine (sign_ok secret m h i w5 (by omega) (by omega) (by omega) (by omega) HI.out (HT.out.on H5.out)).mono ?_
        rintro e w6 ⟨vsa, vpa, rfl, hsa, hpa, hB⟩
        have H6 := Lib.hid (H5.out.trans (hB.mono H5.out.size))
        clear hB H5
        obtain ⟨aosa, csa, rfl⟩ := strc_form hsa
        obtain ⟨aopa, cpa, rfl⟩ := strc_form hpa
        rw [HSL.out] at hsa ⊢
        rw [HPL.out] at hpa ⊢
        have VSa6 := Lib.hid (hsa)
        have VPa6 := Lib.hid (hpa)
        clear hsa hpa
        go_wp2_with fail
        have hq : Below w6.heap.size w6 (w6.alloc (.cells #[.int .i64 (i : Int), .slice aosa 18 csa, .slice aopa h cpa] 24)) := (Below.refl _ _).alloc (Nat.le_refl _) _
        have H7 := Lib.hid (H6.out.trans (hq.mono H6.out.size))
        have VSa7 := Lib.hid (VSa6.out.on hq)
        have VPa7 := Lib.hid (VPa6.out.on hq)
        have R167 := Lib.hid (RowIs.new w6 #[.int .i64 (i : Int), .slice aosa 18 csa, .slice aopa h cpa] 24)
        obtain ⟨b16, hb16⟩ : ∃ b, b = w6.heap.size := ⟨_, rfl⟩
        rw [← hb16] at R167 ⊢
        have Z16 : Hid ((w6.alloc (.cells #[.int .i64 (i : Int), .slice aosa 18 csa, .slice aopa h cpa] 24)).heap.size = b16 + 1) := Lib.hid (by rw [World.size_alloc, hb16])
        generalize hgw : w6.alloc (.cells #[.int .i64 (i : Int), .slice aosa 18 csa, .slice aopa h cpa] 24) = w7 at *
        clear hq hgw hb16 H6 VSa6 VPa6
        refine (verify_calls (pubT secret h) other (i : Int) _ _ (sigT secret i m) (pathT (keysT secret h) i) w7 (by have := HRS.out; omega) (by omega) VSa7.out VPa7.out HSZ.out HPZ.out (HT.out.on H7.out)).mono ?_
        rintro e w8 ⟨rfl, hB⟩
        have H8 := Lib.hid (H7.out.trans (hB.mono H7.out.size))
        have VSa8 := Lib.hid (VSa7.out.on hB)
        have VPa8 := Lib.hid (VPa7.out.on hB)
        have R168 := Lib.hid (R167.out.on hB)
        clear hB H7 VSa7 VPa7 R167
        rw [HV.out]
        go_wp2_with fail
        refine wp_region_res 12 (w8.heap.size) (fun ii u => [valF (.bool true), valF (.bool true), valF (.string secret), valF (.int .i64 (h : Int)), OwnF w8.heap.size (madeT secret h 30), valF (.string other), valF (.agg #[.int .i64 (i : Int), .slice aosa 18 csa, .slice aopa h cpa]), OwnF w8.heap.size (checkedT other i (sigT secret i m) (pathT (keysT secret h) i)), OwnF w8.heap.size (madeT secret h 30 ++ checkedT other i (sigT secret i m) (pathT (keysT secret h) i)), valF (.bool true), valF (.bool true), valF (.bool true)].getD ii anyF) (fun jj ii => (jj == 8 && ii == 4)) (fun jj bb => False) (by kernel_rfl) (by kernel_rfl) (by kernel_rfl) (by kernel_rfl) (by kernel_rfl) (Nat.le_refl _) ?_ ?_ ?_ ?_ ?_
        · intro ii u hii
          refine AllKStable.at ?_ ii
          exact ⟨.inl (valF_stable _ _), .inl (valF_stable _ _), .inl (valF_stable _ _), .inl (valF_stable _ _), .inl (ownF_st _ _ _), .inl (valF_stable _ _), .inl (valF_stable _ _), .inl (ownF_st _ _ _), .inl (ownF_st _ _ _), .inl (valF_stable _ _), .inl (valF_stable _ _), .inl (valF_stable _ _), trivial⟩
        · exact fun _ _ _ _ _ => rfl
        · exact ⟨fun _ _ _ h => h.elim, fun _ _ _ _ _ h => h.elim⟩
        · refine And.intro (fun u W A hW hBW hd hv hr => ?_) ?_
          · have t11 : A.eval (.tmp 11) = .bool true := (hv 11 (by kernel_rfl)).trans (by kernel_rfl)
            clear hd hv
            have s11 := evalT t11
            clear t11
            refine fk_run ?_
            go_simp
          refine And.intro (fun u W A hW hBW hd hv hr => ?_) ?_
          · have e0 : u 0 = .bool true := hd 0 (by decide) (by kernel_rfl)
            have t67 : A.eval (.tmp 67) = .bool true := (hv 67 (by kernel_rfl)).trans ((by kernel_rfl : slotV _ _ _ u 67 = u 0).trans e0)
            clear hd hv
            have s67 := evalT t67
            clear t67
            refine fk_run ?_
            go_simp
          refine And.intro (fun u W A hW hBW hd hv hr => ?_) ?_
          · have e1 : u 1 = .bool true := hd 1 (by decide) (by kernel_rfl)
            have t0 : A.eval (.tmp 0) = .string secret := (hv 0 (by kernel_rfl)).trans (by kernel_rfl)
            clear hd hv
            have s0 := evalT t0
            clear t0
            refine Or.inl ⟨e1, ?_⟩
            refine fk_run ?_
            go_simp
          refine And.intro (fun u W A hW hBW hd hv hr => ?_) ?_
          · have e1 : u 1 = .bool true := hd 1 (by decide) (by kernel_rfl)
            have t12 : A.eval (.tmp 12) = .int .i64 (h : Int) := (hv 12 (by kernel_rfl)).trans (by kernel_rfl)
            clear hd hv
            have s12 := evalT t12
            clear t12
            refine Or.inl ⟨e1, ?_⟩
            refine fk_run ?_
            go_simp
          refine And.intro (fun u W A hW hBW hd hv hr => ?_) ?_
          · have e1 : u 1 = .bool true := hd 1 (by decide) (by kernel_rfl)
            have e2 : u 2 = .string secret := hd 2 (by decide) (by kernel_rfl)
            have e3 : u 3 = .int .i64 (h : Int) := hd 3 (by decide) (by kernel_rfl)
            have t69 : A.eval (.tmp 69) = .string secret := (hv 69 (by kernel_rfl)).trans ((by kernel_rfl : slotV _ _ _ u 69 = u 2).trans e2)
            have t70 : A.eval (.tmp 70) = .int .i64 (h : Int) := (hv 70 (by kernel_rfl)).trans ((by kernel_rfl : slotV _ _ _ u 70 = u 3).trans e3)
            have hW1 := below_undrew hW
            clear hd hv
            have s69 := evalT t69
            have s70 := evalT t70
            clear t69 t70
            refine Or.inl ⟨e1, ?_⟩
            refine fk_enter (f := 18) (args := #[.string secret, .int .i64 (h : Int), .int .i64 30]) (by go_simp) (fk_own hBW ?_)
            exact made_calls secret h 30 W hs3 (by omega) (by decide) (by decide) (HT.out.on (H8.out.trans (hW1.mono H8.out.size)))
          refine And.intro (fun u W A hW hBW hd hv hr => ?_) ?_
          · have e1 : u 1 = .bool true := hd 1 (by decide) (by kernel_rfl)
            have t4 : A.eval (.tmp 4) = .string other := (hv 4 (by kernel_rfl)).trans (by kernel_rfl)
            clear hd hv
            have s4 := evalT t4
            clear t4
            refine Or.inl ⟨e1, ?_⟩
            refine fk_run ?_
            go_simp
          refine And.intro (fun u W A hW hBW hd hv hr => ?_) ?_
          · have e1 : u 1 = .bool true := hd 1 (by decide) (by kernel_rfl)
            have t16 : A.eval (.tmp 16) = .pointer (some ⟨b16, 0, none⟩) := (hv 16 (by kernel_rfl)).trans (by kernel_rfl)
            have hW1 := below_undrew hW
            have hcl0 : W.cell? ⟨b16, 0, none⟩ = some (.int .i64 (i : Int)) := ((R168.out.on hW1).cell 0).trans rfl
            have hcl1 : W.cell? ⟨b16, 1, none⟩ = some (.slice aosa 18 csa) := ((R168.out.on hW1).cell 1).trans rfl
            have hcl2 : W.cell? ⟨b16, 2, none⟩ = some (.slice aopa h cpa) := ((R168.out.on hW1).cell 2).trans rfl
            clear hd hv
            have s16 := evalT t16
            clear t16
            refine Or.inl ⟨e1, ?_⟩
            refine fk_run ?_
            go_simp
          refine And.intro (fun u W A hW hBW hd hv hr => ?_) ?_
          · have e1 : u 1 = .bool true := hd 1 (by decide) (by kernel_rfl)
            have e5 : u 5 = .string other := hd 5 (by decide) (by kernel_rfl)
            have e6 : u 6 = .agg #[.int .i64 (i : Int), .slice aosa 18 csa, .slice aopa h cpa] := hd 6 (by decide) (by kernel_rfl)
            have t72 : A.eval (.tmp 72) = .string other := (hv 72 (by kernel_rfl)).trans ((by kernel_rfl : slotV _ _ _ u 72 = u 5).trans e5)
            have t73 : A.eval (.tmp 73) = .agg #[.int .i64 (i : Int), .slice aosa 18 csa, .slice aopa h cpa] := (hv 73 (by kernel_rfl)).trans ((by kernel_rfl : slotV _ _ _ u 73 = u 6).trans e6)
            have hW1 := below_undrew hW
            clear hd hv
            have s72 := evalT t72
            have s73 := evalT t73
            clear t72 t73
            refine Or.inl ⟨e1, ?_⟩
            refine fk_enter (f := 19) (args := #[.string other, .agg #[.int .i64 (i : Int), .slice aosa 18 csa, .slice aopa h cpa]]) (by go_simp) (fk_own hBW ?_)
            exact checked_calls other i _ _ (sigT secret i m) (pathT (keysT secret h) i) W (by omega) (by omega) (VSa8.out.on hW1) (VPa8.out.on hW1) HSL.out (by rw [HPL.out]; omega) (sigT_16 secret i m) (pathT_16 (keysT secret h) i) (HT.out.on (H8.out.trans (hW1.mono H8.out.size)))
          refine And.intro (fun u W A hW hBW hd hv hr => ?_) ?_
          · have e1 : u 1 = .bool true := hd 1 (by decide) (by kernel_rfl)
            have e4 : Own w8.heap.size W (u 4) (madeT secret h 30) := hd 4 (by decide) (by kernel_rfl)
            have e7 : Own w8.heap.size W (u 7) (checkedT other i (sigT secret i m) (pathT (keysT secret h) i)) := hd 7 (by decide) (by kernel_rfl)
            have t71 : A.eval (.tmp 71) = u 4 := (hv 71 (by kernel_rfl)).trans (by kernel_rfl)
            have t74 : A.eval (.tmp 74) = u 7 := (hv 74 (by kernel_rfl)).trans (by kernel_rfl)
            have hW1 := below_undrew hW
            clear hd hv
            refine Or.inl ⟨e1, ?_⟩
            exact fk_append (.tmp 71) (.tmp 74) rfl t71 t74 e4 e7.strc hBW (by have := HL1.out; have := HL2.out; omega) (fun c hc => .inl ⟨4, by decide, by decide, hc⟩)
          refine And.intro (fun u W A hW hBW hd hv hr => ?_) ?_
          · have e1 : u 1 = .bool true := hd 1 (by decide) (by kernel_rfl)
            have e8 : Own w8.heap.size W (u 8) (madeT secret h 30 ++ checkedT other i (sigT secret i m) (pathT (keysT secret h) i)) := hd 8 (by decide) (by kernel_rfl)
            have t75 : A.eval (.tmp 75) = u 8 := (hv 75 (by kernel_rfl)).trans (by kernel_rfl)
            have hW1 := below_undrew hW
            clear hd hv
            have s75 := evalT t75
            clear t75
            refine Or.inl ⟨e1, ?_⟩
            refine fk_enter (f := 17) (args := #[u 8]) (by go_simp) (fk_val ?_)
            exact shown_calls (madeT secret h 30 ++ checkedT other i (sigT secret i m) (pathT (keysT secret h) i)) _ W e8.strc (fun s hs => (List.mem_append.1 hs).elim (HZ1.out s) (HZ2.out s)) (by rw [List.length_append]; have := HL1.out; have := HL2.out; omega) HCL.out
          refine And.intro (fun u W A hW hBW hd hv hr => ?_) ?_
          · have e1 : u 1 = .bool true := hd 1 (by decide) (by kernel_rfl)
            have e9 : u 9 = .bool true := hd 9 (by decide) (by kernel_rfl)
            have t68 : A.eval (.tmp 68) = .bool true := (hv 68 (by kernel_rfl)).trans ((by kernel_rfl : slotV _ _ _ u 68 = u 1).trans e1)
            have t76 : A.eval (.tmp 76) = .bool true := (hv 76 (by kernel_rfl)).trans ((by kernel_rfl : slotV _ _ _ u 76 = u 9).trans e9)
            clear hd hv
            have s68 := evalT t68
            have s76 := evalT t76
            clear t68 t76
            refine fk_run ?_
            go_simp
          refine And.intro (fun u W A hW hBW hd hv hr => ?_) ?_
          · have e10 : u 10 = .bool true := hd 10 (by decide) (by kernel_rfl)
            have t77 : A.eval (.tmp 77) = .bool true := (hv 77 (by kernel_rfl)).trans ((by kernel_rfl : slotV _ _ _ u 77 = u 10).trans e10)
            clear hd hv
            have s77 := evalT t77
            clear t77
            refine fk_run ?_
            go_simp
          exact trivial
        intro u w9 hb hk2 hf
        have e11 : u 11 = .bool true := hf 11 (by decide) (by decide)
        have hb1 := below_undrew hb
        clear hf hb hk2
        have H9 := Lib.hid (H8.out.trans (hb1.mono H8.out.size))
        have VSa9 := Lib.hid (VSa8.out.on hb1)
        have VPa9 := Lib.hid (VPa8.out.on hb1)
        have R169 := Lib.hid (R168.out.on hb1)
        clear hb1
        clear H8 VSa8 VPa8 R168
        generalize w9 = w9 at *
        simp only [List.take, List.drop, wpList, lexPut, Nat.zero_add, Nat.reduceAdd, e11, Act.put, List.setIfInBounds_toArray, List.set_cons_succ, List.set_cons_zero]
        clear e11
        go_wp2
        go_ret
        exact ⟨rfl, H9.out⟩
namespace sealBinds
theorem walk {w : World} (hT : Tabs w) (s : ByteArray) (ws : s.size ≤ maxLen) (a : Int) (wa : (Lit.int .u8 a).wf = true) (b : Int) (wb : (Lit.int .u8 b).wf = true) (m : ByteArray) (wm : m.size ≤ maxLen) (o : ByteArray) (wo : o.size ≤ maxLen) :
    Calls Tryz.prog 5 #[.string s, .int .u8 a, .int .u8 b, .string m, .string o] w fun e w' => e = .returned (.bool true) ∧ Below w.heap.size w w' := by
  have h1 : 0 ≤ a ∧ a ≤ 255 := by simpa [Lit.wf, IntKind.min, IntKind.max, IntKind.signed, IntKind.bits] using wa
  have h2 : 0 ≤ b ∧ b ≤ 255 := by simpa [Lit.wf, IntKind.min, IntKind.max, IntKind.signed, IntKind.bits] using wb
  obtain ⟨r, rfl⟩ := Int.eq_ofNat_of_zero_le h1.1
  obtain ⟨q, rfl⟩ := Int.eq_ofNat_of_zero_le h2.1
  exact binds03_law s m o r q w ws wm wo (by omega) (by omega) hT
end sealBinds
end Go.Proofs.YtpogffdbencfnaaGreatDoor
