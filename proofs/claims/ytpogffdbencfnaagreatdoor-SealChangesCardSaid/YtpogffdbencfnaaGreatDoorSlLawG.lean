import Derived.Test.YtpogffdbencfnaaGreatDoorSlChg
set_option linter.unusedVariables false
namespace Go.Proofs.YtpogffdbencfnaaGreatDoor
open Go Go.RowKit

theorem checked_16 {pub m : ByteArray} {idx : Int} {sig path : List ByteArray} (h : verT pub m idx sig path = true) : (∀ s ∈ sig, s.size ≤ 16) ∧ ∀ s ∈ path, s.size ≤ 16 := by
  unfold verT at h
  simp only [Bool.and_eq_true, decide_eq_true_eq, List.all_eq_true] at h
  obtain ⟨⟨⟨⟨⟨⟨h1, h2⟩, h3⟩, h4⟩, h5⟩, h6⟩, _⟩ := h
  exact ⟨fun s hs => by have := isS_size (h3 s hs); omega, fun s hs => by have := isS_size (h4 s hs); omega⟩
theorem mem_set_size {l : List ByteArray} {k : Nat} {x : ByteArray} {b : Nat} (h : ∀ s ∈ l, s.size ≤ b) (hx : x.size ≤ b) : ∀ s ∈ l.set k x, s.size ≤ b := fun s hs => by
  rcases List.mem_or_eq_of_mem_set hs with e | e
  · exact h s e
  · rw [e]; exact hx
set_option maxRecDepth 100000 in
set_option maxHeartbeats 16000000 in
theorem changes03_law (secret m x : ByteArray) (rh ri ra : Nat) (w : World) (hs : secret.size ≤ 9223372036854775807) (hm : m.size ≤ 9223372036854775807) (hx : x.size ≤ 9223372036854775807) (hrh : rh ≤ 255) (hri : ri ≤ 255) (hra : ra ≤ 255) (hT : Tabs w) :
    Calls Tryz.prog 6 #[.string secret, .int .u8 (rh : Int), .int .u8 (ri : Int), .string m, .int .u8 (ra : Int), .string x] w (HeadPost w) := by
  have HT := Lib.hid hT
  clear hT
  obtain ⟨h, hh⟩ : ∃ h, h = rh % 3 := ⟨_, rfl⟩
  have hh3 : h ≤ 2 := by omega
  have HM1 : Hid ((rh : Int) % 3 = (h : Int)) := Lib.hid (by rw [hh]; rfl)
  obtain ⟨hp0, hp1, hpe⟩ := pow_factsB h (by omega)
  have HPE := Lib.hid hpe
  obtain ⟨i, hi⟩ : ∃ i, i = ri % 2 ^ h := ⟨_, rfl⟩
  have HI : Hid (i < 2 ^ h) := Lib.hid (by rw [hi]; exact Nat.mod_lt _ (Nat.pow_pos (by decide)))
  have HM2 : Hid ((ri : Int) % (2 : Int) ^ h = (i : Int)) := Lib.hid (by rw [hi, ← hpe]; rfl)
  have hi255 : i ≤ 255 := by rw [hi]; exact Nat.le_trans (Nat.mod_le _ _) hri
  have HWP := Lib.hid (wrap_pow h (by omega))
  have HPZ0 : Hid (((2 : Int) ^ h == 0) = false) := Lib.hid (by rw [beq_eq_false_iff_ne]; omega)
  obtain ⟨k, hk⟩ : ∃ k, k = ra % (19 + h) := ⟨_, rfl⟩
  have hkl : k < 19 + h := by rw [hk]; exact Nat.mod_lt _ (by omega)
  have HM3 : Hid ((ra : Int) % (19 + (h : Int)) = (k : Int)) := Lib.hid (by rw [hk]; rfl)
  have HPZ1 : Hid (((19 : Int) + (h : Int) == 0) = false) := Lib.hid (by rw [beq_eq_false_iff_ne]; omega)
  clear hh hi hpe hk
  cases hsh : shortB [secret, m, x] with
  | false =>
    have HSH := Lib.hid hsh
    clear hsh
    have H0 : Hid (Below w.heap.size w w) := Lib.hid (Below.refl w.heap.size w)
    go_enter Tryz.func6, Tryz.ntmps6
    go_wp2_with fail
    refine (head_calls w (HT.out.on H0.out)).mono ?_
    rintro e w1 ⟨rfl, hB⟩
    have H1 := Lib.hid (H0.out.trans (hB.mono H0.out.size))
    clear hB H0
    have hwp := HWP.out
    have hpz := HPZ0.out
    have hm1 := HM1.out
    have hm2 := HM2.out
    go_wp2_with fail
    rw [HM1.out, HM2.out]
    clear hwp hpz hm1 hm2
    refine (short3_callsB secret m x w1 hs hm hx).mono ?_
    rintro e w2 ⟨rfl, hB⟩
    have H2 := Lib.hid (H1.out.trans (hB.mono H1.out.size))
    clear hB H1
    rw [HSH.out]
    go_wp2
    go_ret
    exact ⟨rfl, H2.out⟩
  | true =>
    have hsz := short_szB hsh
    have hs3 : secret.size ≤ 300 := hsz secret (by simp)
    have hx3 : x.size ≤ 300 := hsz x (by simp)
    have hm3 : m.size ≤ 300 := hsz m (by simp)
    have HSH := Lib.hid hsh
    clear hsh hsz
    have HPL : Hid ((pathT (keysT secret h) i).length = h) := Lib.hid (by rw [path_length, keysT_len, lenT_pow h i HI.out])
    have HSL := Lib.hid (sigT_len secret i m)
    have HPZ := Lib.hid (pathT_sizes (keysT secret h) i)
    have HSZ := Lib.hid (sigT_sizes secret i m)
    have HP16 := Lib.hid (pathT_16 (keysT secret h) i)
    have HS16 := Lib.hid (sigT_16 secret i m)
    have HRS : Hid ((pubT secret h).size = 16) := Lib.hid (root_size _)
    have HL1 := Lib.hid (madeT_len secret h 15 (by omega) (by decide))
    have HZ1 := Lib.hid (madeT_size secret h 15 hs3 (by omega))
    have H0 : Hid (Below w.heap.size w w) := Lib.hid (Below.refl w.heap.size w)
    go_enter Tryz.func6, Tryz.ntmps6
    go_wp2_with fail
    refine (head_calls w (HT.out.on H0.out)).mono ?_
    rintro e w1 ⟨rfl, hB⟩
    have H1 := Lib.hid (H0.out.trans (hB.mono H0.out.size))
    clear hB H0
    have hwp := HWP.out
    have hpz := HPZ0.out
    have hm1 := HM1.out
    have hm2 := HM2.out
    go_wp2_with fail
    rw [HM1.out, HM2.out]
    clear hwp hpz hm1 hm2
    refine (short3_callsB secret m x w1 hs hm hx).mono ?_
    rintro e w2 ⟨rfl, hB⟩
    have H2 := Lib.hid (H1.out.trans (hB.mono H1.out.size))
    clear hB H1
    rw [HSH.out]
    go_wp2_with fail
    refine (public_calls secret h w2 (by omega) (by omega) (HT.out.on H2.out)).mono ?_
    rintro e w3 ⟨rfl, hB⟩
    have H3 := Lib.hid (H2.out.trans (hB.mono H2.out.size))
    clear hB H2
    go_wp2_with fail
    refine (sign_ok secret m h i w3 (by omega) (by omega) (by omega) (by omega) HI.out (HT.out.on H3.out)).mono ?_
    rintro e w4 ⟨vsa, vpa, rfl, hsa, hpa, hB⟩
    have H4 := Lib.hid (H3.out.trans (hB.mono H3.out.size))
    clear hB H3
    obtain ⟨aosa, csa, rfl⟩ := strc_form hsa
    obtain ⟨aopa, cpa, rfl⟩ := strc_form hpa
    rw [HSL.out] at hsa ⊢
    rw [HPL.out] at hpa ⊢
    have VSa4 := Lib.hid (hsa)
    have VPa4 := Lib.hid (hpa)
    clear hsa hpa
    go_wp2_with fail
    have hq : Below w4.heap.size w4 (w4.alloc (.cells #[.int .i64 (i : Int), .slice aosa 18 csa, .slice aopa h cpa] 24)) := (Below.refl _ _).alloc (Nat.le_refl _) _
    have H5 := Lib.hid (H4.out.trans (hq.mono H4.out.size))
    have VSa5 := Lib.hid (VSa4.out.on hq)
    have VPa5 := Lib.hid (VPa4.out.on hq)
    have R165 := Lib.hid (RowIs.new w4 #[.int .i64 (i : Int), .slice aosa 18 csa, .slice aopa h cpa] 24)
    obtain ⟨b16, hb16⟩ : ∃ b, b = w4.heap.size := ⟨_, rfl⟩
    rw [← hb16] at R165 ⊢
    have Z16 : Hid ((w4.alloc (.cells #[.int .i64 (i : Int), .slice aosa 18 csa, .slice aopa h cpa] 24)).heap.size = b16 + 1) := Lib.hid (by rw [World.size_alloc, hb16])
    generalize hgw : w4.alloc (.cells #[.int .i64 (i : Int), .slice aosa 18 csa, .slice aopa h cpa] 24) = w5 at *
    clear hq hgw hb16 H4 VSa4 VPa4
    have c160 : w5.cell? ⟨b16, 0, none⟩ = some (.int .i64 (i : Int)) := (R165.out.cell 0).trans rfl
    have c161 : w5.cell? ⟨b16, 1, none⟩ = some (.slice aosa 18 csa) := (R165.out.cell 1).trans rfl
    have c162 : w5.cell? ⟨b16, 2, none⟩ = some (.slice aopa h cpa) := (R165.out.cell 2).trans rfl
    go_wp2_with fail
    clear c160 c161 c162
    refine wp_region_resF 13 (w5.heap.size) (fun ii u => [valF (.pointer (some ⟨b16, 0, none⟩)), valF (.int .i64 (i : Int)), OwnF w5.heap.size ([]), valF (.pointer (some ⟨b16, 1, none⟩)), valF (.slice aosa 18 csa), OwnF w5.heap.size ([] ++ sigT secret i m), OwnF w5.heap.size ([]), valF (.pointer (some ⟨b16, 2, none⟩)), valF (.slice aopa h cpa), OwnF w5.heap.size ([] ++ pathT (keysT secret h) i), AggK (.int .i64 (i : Int)) (u 5) (u 9), PtrK 24 #[.int .i64 0, .slice none 0 0, .slice none 0 0], StoK 24 (u 11) (u 10)].getD ii anyF) (fun jj ii => (jj == 5 && ii == 2) || (jj == 9 && ii == 6) || (jj == 12 && ii == 11)) (fun jj bb => False) (by kernel_rfl) (by kernel_rfl) (by kernel_rfl) (by kernel_rfl) (by kernel_rfl) (Nat.le_refl _) ?_ ?_ ?_ ?_ ?_
    · intro ii u hii
      refine AllKStable.at ?_ ii
      exact ⟨.inl (valF_stable _ _), .inl (valF_stable _ _), .inl (ownF_st _ _ _), .inl (valF_stable _ _), .inl (valF_stable _ _), .inl (ownF_st _ _ _), .inl (ownF_st _ _ _), .inl (valF_stable _ _), .inl (valF_stable _ _), .inl (ownF_st _ _ _), .inl (aggK_st _ _ _ _), .inl (ptrK_st _ _ _), .inl (stoK_st _ _ _ _), trivial⟩
    · intro ii u u2 hii hx
      match ii, hii, hx with
      | 0, _, _ => rfl
      | 1, _, _ => rfl
      | 2, _, _ => rfl
      | 3, _, _ => rfl
      | 4, _, _ => rfl
      | 5, _, _ => rfl
      | 6, _, _ => rfl
      | 7, _, _ => rfl
      | 8, _, _ => rfl
      | 9, _, _ => rfl
      | 10, _, hx =>
        have h5 := hx 5 (by decide) (by kernel_rfl)
        have h9 := hx 9 (by decide) (by kernel_rfl)
        show AggK (.int .i64 (i : Int)) (u 5) (u 9) = AggK (.int .i64 (i : Int)) (u2 5) (u2 9)
        rw [h5]
        rw [h9]
      | 11, _, _ => rfl
      | 12, _, hx =>
        have h10 := hx 10 (by decide) (by kernel_rfl)
        have h11 := hx 11 (by decide) (by kernel_rfl)
        show StoK 24 (u 11) (u 10) = StoK 24 (u2 11) (u2 10)
        rw [h10]
        rw [h11]
      | m + 13, hm, _ => exact absurd hm (by omega)
    · exact ⟨fun _ _ _ h => h.elim, fun _ _ _ _ _ h => h.elim⟩
    · refine And.intro (fun u W A hW hBW hd hv hr => ?_) ?_
      · have t18 : A.eval (.tmp 18) = .pointer (some ⟨b16, 0, none⟩) := (hv 18 (by kernel_rfl)).trans (by kernel_rfl)
        clear hd hv
        have s18 := evalT t18
        clear t18
        refine fk_run ?_
        go_simp
      refine And.intro (fun u W A hW hBW hd hv hr => ?_) ?_
      · have e0 : u 0 = .pointer (some ⟨b16, 0, none⟩) := hd 0 (by decide) (by kernel_rfl)
        have t71 : A.eval (.tmp 71) = .pointer (some ⟨b16, 0, none⟩) := (hv 71 (by kernel_rfl)).trans ((by kernel_rfl : slotV _ _ _ u 71 = u 0).trans e0)
        have hW1 := below_undrew hW
        have hcl : W.cell? ⟨b16, 0, none⟩ = some (.int .i64 (i : Int)) := ((R165.out.on hW1).cell 0).trans rfl
        clear hd hv
        have s71 := evalT t71
        clear t71
        refine fk_run ?_
        go_simp
      refine And.intro (fun u W A hW hBW hd hv hr => ?_) ?_
      · clear hd hv
        exact fk_step (v := .slice (some ⟨W.heap.size, 0, none⟩) 0 0) (w' := W.alloc (.cells #[] 9)) (by go_simp) (fk_own_of hBW (own_lit W [] (by decide)) ((Below.refl _ _).alloc (Nat.le_refl _) _))
      refine And.intro (fun u W A hW hBW hd hv hr => ?_) ?_
      · have t18 : A.eval (.tmp 18) = .pointer (some ⟨b16, 0, none⟩) := (hv 18 (by kernel_rfl)).trans (by kernel_rfl)
        clear hd hv
        have s18 := evalT t18
        clear t18
        refine fk_run ?_
        go_simp
      refine And.intro (fun u W A hW hBW hd hv hr => ?_) ?_
      · have e3 : u 3 = .pointer (some ⟨b16, 1, none⟩) := hd 3 (by decide) (by kernel_rfl)
        have t74 : A.eval (.tmp 74) = .pointer (some ⟨b16, 1, none⟩) := (hv 74 (by kernel_rfl)).trans ((by kernel_rfl : slotV _ _ _ u 74 = u 3).trans e3)
        have hW1 := below_undrew hW
        have hcl : W.cell? ⟨b16, 1, none⟩ = some (.slice aosa 18 csa) := ((R165.out.on hW1).cell 1).trans rfl
        clear hd hv
        have s74 := evalT t74
        clear t74
        refine fk_run ?_
        go_simp
      refine And.intro (fun u W A hW hBW hd hv hr => ?_) ?_
      · have e2 : Own w5.heap.size W (u 2) ([]) := hd 2 (by decide) (by kernel_rfl)
        have e4 : u 4 = .slice aosa 18 csa := hd 4 (by decide) (by kernel_rfl)
        have t73 : A.eval (.tmp 73) = u 2 := (hv 73 (by kernel_rfl)).trans (by kernel_rfl)
        have t75 : A.eval (.tmp 75) = .slice aosa 18 csa := (hv 75 (by kernel_rfl)).trans ((by kernel_rfl : slotV _ _ _ u 75 = u 4).trans e4)
        have hW1 := below_undrew hW
        clear hd hv
        exact fk_append (.tmp 73) (.tmp 75) rfl t73 t75 e2 (VSa5.out.on hW1) hBW (by rw [HSL.out]; decide) (fun c hc => .inl ⟨2, by decide, by decide, hc⟩)
      refine And.intro (fun u W A hW hBW hd hv hr => ?_) ?_
      · clear hd hv
        exact fk_step (v := .slice (some ⟨W.heap.size, 0, none⟩) 0 0) (w' := W.alloc (.cells #[] 9)) (by go_simp) (fk_own_of hBW (own_lit W [] (by decide)) ((Below.refl _ _).alloc (Nat.le_refl _) _))
      refine And.intro (fun u W A hW hBW hd hv hr => ?_) ?_
      · have t18 : A.eval (.tmp 18) = .pointer (some ⟨b16, 0, none⟩) := (hv 18 (by kernel_rfl)).trans (by kernel_rfl)
        clear hd hv
        have s18 := evalT t18
        clear t18
        refine fk_run ?_
        go_simp
      refine And.intro (fun u W A hW hBW hd hv hr => ?_) ?_
      · have e7 : u 7 = .pointer (some ⟨b16, 2, none⟩) := hd 7 (by decide) (by kernel_rfl)
        have t78 : A.eval (.tmp 78) = .pointer (some ⟨b16, 2, none⟩) := (hv 78 (by kernel_rfl)).trans ((by kernel_rfl : slotV _ _ _ u 78 = u 7).trans e7)
        have hW1 := below_undrew hW
        have hcl : W.cell? ⟨b16, 2, none⟩ = some (.slice aopa h cpa) := ((R165.out.on hW1).cell 2).trans rfl
        clear hd hv
        have s78 := evalT t78
        clear t78
        refine fk_run ?_
        go_simp
      refine And.intro (fun u W A hW hBW hd hv hr => ?_) ?_
      · have e6 : Own w5.heap.size W (u 6) ([]) := hd 6 (by decide) (by kernel_rfl)
        have e8 : u 8 = .slice aopa h cpa := hd 8 (by decide) (by kernel_rfl)
        have t77 : A.eval (.tmp 77) = u 6 := (hv 77 (by kernel_rfl)).trans (by kernel_rfl)
        have t79 : A.eval (.tmp 79) = .slice aopa h cpa := (hv 79 (by kernel_rfl)).trans ((by kernel_rfl : slotV _ _ _ u 79 = u 8).trans e8)
        have hW1 := below_undrew hW
        clear hd hv
        exact fk_append (.tmp 77) (.tmp 79) rfl t77 t79 e6 (VPa5.out.on hW1) hBW (by rw [HPL.out]; have := hh3; simp; omega) (fun c hc => .inl ⟨6, by decide, by decide, hc⟩)
      refine And.intro (fun u W A hW hBW hd hv hr => ?_) ?_
      · have e1 : u 1 = .int .i64 (i : Int) := hd 1 (by decide) (by kernel_rfl)
        have e5 : Own w5.heap.size W (u 5) ([] ++ sigT secret i m) := hd 5 (by decide) (by kernel_rfl)
        have e9 : Own w5.heap.size W (u 9) ([] ++ pathT (keysT secret h) i) := hd 9 (by decide) (by kernel_rfl)
        have t72 : A.eval (.tmp 72) = .int .i64 (i : Int) := (hv 72 (by kernel_rfl)).trans ((by kernel_rfl : slotV _ _ _ u 72 = u 1).trans e1)
        have t76 : A.eval (.tmp 76) = u 5 := (hv 76 (by kernel_rfl)).trans (by kernel_rfl)
        have t80 : A.eval (.tmp 80) = u 9 := (hv 80 (by kernel_rfl)).trans (by kernel_rfl)
        clear hd hv
        have s72 := evalT t72
        have s76 := evalT t76
        have s80 := evalT t80
        clear t72 t76 t80
        obtain ⟨ao5, n5, c5, h5⟩ := own_form e5
        obtain ⟨ao9, n9, c9, h9⟩ := own_form e9
        change fkindAt _ _ _ _ _ _ (AggK (.int .i64 (i : Int)) (u 5) (u 9))
        rw [h5] at s76 ⊢
        rw [h9] at s80 ⊢
        exact fk_agg ⟨_, _, _, rfl⟩ ⟨_, _, _, rfl⟩ (by go_simp)
      refine And.intro (fun u W A hW hBW hd hv hr => ?_) ?_
      · have hW1 := below_undrew hW
        clear hd hv
        exact fk_ptr (by go_simp)
      refine And.intro (fun u W A hW hBW hd hv hr => ?_) ?_
      · have e10 : u 10 = .agg #[.int .i64 (i : Int), u 5, u 9] ∧ (∃ a b c, u 5 = .slice a b c) ∧ ∃ a b c, u 9 = .slice a b c := hd 10 (by decide) (by kernel_rfl)
        have e11 : ∃ b, u 11 = .pointer (some ⟨b, 0, none⟩) ∧ W.heap[b]? = some (.cells #[.int .i64 0, .slice none 0 0, .slice none 0 0] 24 (0, 0)) := hd 11 (by decide) (by kernel_rfl)
        have t20 : A.eval (.tmp 20) = u 11 := (hv 20 (by kernel_rfl)).trans (by kernel_rfl)
        have t81 : A.eval (.tmp 81) = u 10 := (hv 81 (by kernel_rfl)).trans (by kernel_rfl)
        have hW1 := below_undrew hW
        clear hd hv
        have s20 := evalT t20
        have s81 := evalT t81
        clear t20 t81
        obtain ⟨bb, hbb, hob⟩ := e11
        rw [hbb] at s20
        rw [e10.1] at s81
        obtain ⟨e10, ⟨ao5, n5, c5, h5⟩, ao9, n9, c9, h9⟩ := e10
        have hcl0 : W.cell? ⟨bb, 0, none⟩ = some (.int .i64 0) := by rw [cell_of_row W bb 0 _ _ _ hob]; rfl
        have hcl1 : W.cell? ⟨bb, 1, none⟩ = some (.slice none 0 0) := by rw [cell_of_row W bb 1 _ _ _ hob]; rfl
        have hcl2 : W.cell? ⟨bb, 2, none⟩ = some (.slice none 0 0) := by rw [cell_of_row W bb 2 _ _ _ hob]; rfl
        have hfz : ∀ o, W.frozen? ⟨bb, o, none⟩ = false := fun o => by simp [World.frozen?, hob]
        rw [h5, h9] at s81
        exact fk_sto (x := .int .i64 (i : Int)) (y := u 5) (z := u 9) hbb e10 hob (by rw [h5, h9]; go_simp) (.inl ⟨11, by decide, by decide, hbb⟩)
      exact trivial
    intro u wz hb hk2 hf hlo hdi
    have f5 : Own w5.heap.size wz (u 5) ([] ++ sigT secret i m) := hf 5 (by decide) (by decide)
    have f9 : Own w5.heap.size wz (u 9) ([] ++ pathT (keysT secret h) i) := hf 9 (by decide) (by decide)
    have f10 : u 10 = .agg #[.int .i64 (i : Int), u 5, u 9] := (hf 10 (by decide) (by decide)).1
    obtain ⟨b5, x5, y5, z5, p5, a5, o5⟩ := (hf 12 (by decide) (by decide) : ∃ b x y z, u 11 = .pointer (some ⟨b, 0, none⟩) ∧ u 10 = .agg #[x, y, z] ∧ wz.heap[b]? = some (.cells #[x, y, z] 24 (0, 0)))
    rw [f10] at a5
    simp only [Value.agg.injEq, Array.mk.injEq, List.cons.injEq, and_true] at a5
    obtain ⟨rfl, rfl, rfl⟩ := a5
    have hb1 := below_undrew hb
    have HB0 : Hid (Bad3 w5.heap.size w5 wz b5 (i : Int) (u 5) (u 9) (sigT secret i m) (pathT (keysT secret h) i)) := Lib.hid ⟨hb1, f5, f9, o5, (hlo 12 (by decide) (by decide) b5 p5).1, fun c hc => hdi 5 9 (by decide) (by decide) (by decide) (by decide) (by decide) c hc, fun hc => hdi 5 12 (by decide) (by decide) (by decide) (by decide) (by decide) b5 hc p5, fun hc => hdi 9 12 (by decide) (by decide) (by decide) (by decide) (by decide) b5 hc p5⟩
    clear hf hb hk2 hlo hdi f5 f9 o5 f10
    simp only [List.take, List.drop, wpList, lexPut, Nat.zero_add, Nat.reduceAdd, p5, Act.put, List.setIfInBounds_toArray, List.set_cons_succ, List.set_cons_zero]
    clear p5
    generalize u 5 = vs at *
    generalize u 9 = vp at *
    clear hb1
    have hm3 := HM3.out
    have hpz := HPZ1.out
    by_cases hk18 : k < 18
    · have HSL2 : Hid (((sigT secret i m).set k x).length = 18) := Lib.hid (by rw [List.length_set]; exact HSL.out)
      have HPL2 : Hid ((pathT (keysT secret h) i).length ≤ 8) := Lib.hid (by rw [HPL.out]; omega)
      have HSZ2 : Hid (∀ s ∈ (sigT secret i m).set k x, s.size ≤ 1099511627776) := Lib.hid (mem_set_size HSZ.out (by omega))
      have HPZ2 : Hid (∀ s ∈ pathT (keysT secret h) i, s.size ≤ 1099511627776) := Lib.hid (HPZ.out)
      have hd18 : decide ((k : Int) < 18) = true := decide_eq_true (by omega)
      obtain ⟨g, cap, rfl, hfz, hcl, hbad⟩ := HB0.out.setS (k) x (by rw [HSL.out]; exact hk18)
      rw [HSL.out] at hbad HB0 ⊢
      obtain ⟨aoq, nq, cq, rfl⟩ := own_form HB0.out.op
      have hln : h = nq := by obtain ⟨a, c, e⟩ := strc_form HB0.out.op.strc; rw [HPL.out] at e; cases e; rfl
      subst hln
      have HBX := Lib.hid hbad
      clear hbad
      have c50 : (wz).cell? ⟨b5, 0, none⟩ = some (.int .i64 (i : Int)) := ((HB0.out.row).cell 0).trans rfl
      have c51 : (wz).cell? ⟨b5, 1, none⟩ = some (.slice (some ⟨g, 0, none⟩) 18 cap) := ((HB0.out.row).cell 1).trans rfl
      have c52 : (wz).cell? ⟨b5, 2, none⟩ = some (.slice aoq h cq) := ((HB0.out.row).cell 2).trans rfl
      have d50 : (wz.setCell ⟨g, k, none⟩ (.string x)).cell? ⟨b5, 0, none⟩ = some (.int .i64 (i : Int)) := ((HBX.out.row).cell 0).trans rfl
      have d51 : (wz.setCell ⟨g, k, none⟩ (.string x)).cell? ⟨b5, 1, none⟩ = some (.slice (some ⟨g, 0, none⟩) 18 cap) := ((HBX.out.row).cell 1).trans rfl
      have d52 : (wz.setCell ⟨g, k, none⟩ (.string x)).cell? ⟨b5, 2, none⟩ = some (.slice aoq h cq) := ((HBX.out.row).cell 2).trans rfl
      have d60 : (wz.setCell ⟨g, k, none⟩ (.string x)).cell? ⟨b16, 0, none⟩ = some (.int .i64 (i : Int)) := ((R165.out.on HBX.out.below).cell 0).trans rfl
      have d61 : (wz.setCell ⟨g, k, none⟩ (.string x)).cell? ⟨b16, 1, none⟩ = some (.slice aosa 18 csa) := ((R165.out.on HBX.out.below).cell 1).trans rfl
      have d62 : (wz.setCell ⟨g, k, none⟩ (.string x)).cell? ⟨b16, 2, none⟩ = some (.slice aopa h cpa) := ((R165.out.on HBX.out.below).cell 2).trans rfl
      go_wp2_with fail
      have hqq := HBX.out.below
      clear hm3 hpz hfz hcl HB0 hd18
      clear c50 c51 c52 d50 d51 d52 d60 d61 d62
      have H6 := Lib.hid (H5.out.trans (hqq.mono H5.out.size))
      have VSa6 := Lib.hid (VSa5.out.on hqq)
      have VPa6 := Lib.hid (VPa5.out.on hqq)
      have R166 := Lib.hid (R165.out.on hqq)
      clear hqq
      clear H5 VSa5 VPa5 R165
      generalize wz.setCell ⟨g, k, none⟩ (.string x) = w6 at *
      have R56 : Hid (RowIs b5 #[.int .i64 (i : Int), .slice (some ⟨g, 0, none⟩) 18 cap, .slice aoq h cq] 24 w6) := Lib.hid HBX.out.row
      have VB6 : Hid (IsStrC w6 (.slice (some ⟨g, 0, none⟩) 18 cap) ((sigT secret i m).set k x)) := Lib.hid HBX.out.os.strc
      have VQ6 : Hid (IsStrC w6 (.slice aoq h cq) (pathT (keysT secret h) i)) := Lib.hid HBX.out.op.strc
      clear HBX
      cases hsm : same3 (i : Int) (i : Int) ((sigT secret i m).set k x) (sigT secret i m) (pathT (keysT secret h) i) (pathT (keysT secret h) i) with
      | true =>
        have HSM := Lib.hid hsm
        clear hsm
        refine (same03_calls (i : Int) (i : Int) _ _ _ _ ((sigT secret i m).set k x) (sigT secret i m) (pathT (keysT secret h) i) (pathT (keysT secret h) i) w6 VB6.out VSa6.out VQ6.out VPa6.out).mono ?_
        rintro e w7 ⟨rfl, hB⟩
        have H7 := Lib.hid (H6.out.trans (hB.mono H6.out.size))
        have VSa7 := Lib.hid (VSa6.out.on hB)
        have VPa7 := Lib.hid (VPa6.out.on hB)
        have R167 := Lib.hid (R166.out.on hB)
        have R57 := Lib.hid (R56.out.on hB)
        have VB7 := Lib.hid (VB6.out.on hB)
        have VQ7 := Lib.hid (VQ6.out.on hB)
        clear hB H6 VSa6 VPa6 R166 R56 VB6 VQ6
        rw [HSM.out]
        go_wp2
        go_ret
        exact ⟨rfl, H7.out⟩
      | false =>
        have HSM := Lib.hid hsm
        have hch : ((i : Int) = (i : Int) ∧ ¬ (((sigT secret i m).set k x) = sigT secret i m ∧ (pathT (keysT secret h) i) = pathT (keysT secret h) i)) ∨ (((i : Nat) : Int).toNat ≠ i ∧ ((sigT secret i m).set k x) = sigT secret i m) := .inl ⟨rfl, fun hx => by rw [hx.1, hx.2] at hsm; rw [same3_refl] at hsm; cases hsm⟩
        clear hsm
        cases hv : verT (pubT secret h) m (i : Int) ((sigT secret i m).set k x) (pathT (keysT secret h) i) with
        | false =>
          have HV := Lib.hid hv
          clear hv hch
          refine (same03_calls (i : Int) (i : Int) _ _ _ _ ((sigT secret i m).set k x) (sigT secret i m) (pathT (keysT secret h) i) (pathT (keysT secret h) i) w6 VB6.out VSa6.out VQ6.out VPa6.out).mono ?_
          rintro e w7 ⟨rfl, hB⟩
          have H7 := Lib.hid (H6.out.trans (hB.mono H6.out.size))
          have VSa7 := Lib.hid (VSa6.out.on hB)
          have VPa7 := Lib.hid (VPa6.out.on hB)
          have R167 := Lib.hid (R166.out.on hB)
          have R57 := Lib.hid (R56.out.on hB)
          have VB7 := Lib.hid (VB6.out.on hB)
          have VQ7 := Lib.hid (VQ6.out.on hB)
          clear hB H6 VSa6 VPa6 R166 R56 VB6 VQ6
          rw [HSM.out]
          have c50 : w7.cell? ⟨b5, 0, none⟩ = some (.int .i64 (i : Int)) := (R57.out.cell 0).trans rfl
          have c51 : w7.cell? ⟨b5, 1, none⟩ = some (.slice (some ⟨g, 0, none⟩) 18 cap) := (R57.out.cell 1).trans rfl
          have c52 : w7.cell? ⟨b5, 2, none⟩ = some (.slice aoq h cq) := (R57.out.cell 2).trans rfl
          go_wp2_with fail
          refine (verify_calls (pubT secret h) m (i : Int) _ _ ((sigT secret i m).set k x) (pathT (keysT secret h) i) w7 (by have := HRS.out; omega) (by omega) VB7.out VQ7.out HSZ2.out HPZ2.out (HT.out.on H7.out)).mono ?_
          rintro e w8 ⟨rfl, hB⟩
          clear c50 c51 c52
          have H8 := Lib.hid (H7.out.trans (hB.mono H7.out.size))
          have VSa8 := Lib.hid (VSa7.out.on hB)
          have VPa8 := Lib.hid (VPa7.out.on hB)
          have R168 := Lib.hid (R167.out.on hB)
          have R58 := Lib.hid (R57.out.on hB)
          have VB8 := Lib.hid (VB7.out.on hB)
          have VQ8 := Lib.hid (VQ7.out.on hB)
          clear hB H7 VSa7 VPa7 R167 R57 VB7 VQ7
          rw [HV.out]
          go_wp2
          go_ret
          exact ⟨rfl, H8.out⟩
        | true =>
          have HV := Lib.hid hv
          have hcl := seal_changes HI.out hch hv
          rw [Int.toNat_natCast] at hcl
          have HCL := Lib.hid hcl
          have h16 := checked_16 hv
          have HB16 := Lib.hid h16.1
          have HQ16 := Lib.hid h16.2
          have HZ2 := Lib.hid (checkedT_size m (i) h16.1 h16.2)
          have HL2 := Lib.hid (checkedT_len m (i) ((sigT secret i m).set k x) (pathT (keysT secret h) i) HPL2.out)
          clear hv hch hcl h16
          refine (same03_calls (i : Int) (i : Int) _ _ _ _ ((sigT secret i m).set k x) (sigT secret i m) (pathT (keysT secret h) i) (pathT (keysT secret h) i) w6 VB6.out VSa6.out VQ6.out VPa6.out).mono ?_
          rintro e w7 ⟨rfl, hB⟩
          have H7 := Lib.hid (H6.out.trans (hB.mono H6.out.size))
          have VSa7 := Lib.hid (VSa6.out.on hB)
          have VPa7 := Lib.hid (VPa6.out.on hB)
          have R167 := Lib.hid (R166.out.on hB)
          have R57 := Lib.hid (R56.out.on hB)
          have VB7 := Lib.hid (VB6.out.on hB)
          have VQ7 := Lib.hid (VQ6.out.on hB)
          clear hB H6 VSa6 VPa6 R166 R56 VB6 VQ6
          rw [HSM.out]
          have c50 : w7.cell? ⟨b5, 0, none⟩ = some (.int .i64 (i : Int)) := (R57.out.cell 0).trans rfl
          have c51 : w7.cell? ⟨b5, 1, none⟩ = some (.slice (some ⟨g, 0, none⟩) 18 cap) := (R57.out.cell 1).trans rfl
          have c52 : w7.cell? ⟨b5, 2, none⟩ = some (.slice aoq h cq) := (R57.out.cell 2).trans rfl
          go_wp2_with fail
          refine (verify_calls (pubT secret h) m (i : Int) _ _ ((sigT secret i m).set k x) (pathT (keysT secret h) i) w7 (by have := HRS.out; omega) (by omega) VB7.out VQ7.out HSZ2.out HPZ2.out (HT.out.on H7.out)).mono ?_
          rintro e w8 ⟨rfl, hB⟩
          clear c50 c51 c52
          have H8 := Lib.hid (H7.out.trans (hB.mono H7.out.size))
          have VSa8 := Lib.hid (VSa7.out.on hB)
          have VPa8 := Lib.hid (VPa7.out.on hB)
          have R168 := Lib.hid (R167.out.on hB)
          have R58 := Lib.hid (R57.out.on hB)
          have VB8 := Lib.hid (VB7.out.on hB)
          have VQ8 := Lib.hid (VQ7.out.on hB)
          clear hB H7 VSa7 VPa7 R167 R57 VB7 VQ7
          rw [HV.out]
          go_wp2_with fail
          refine wp_region_res 12 (w8.heap.size) (fun ii u => [valF (.bool true), valF (.bool true), valF (.string secret), valF (.int .i64 (h : Int)), OwnF w8.heap.size (madeT secret h 15), valF (.string m), valF (.agg #[.int .i64 (i : Int), .slice (some ⟨g, 0, none⟩) 18 cap, .slice aoq h cq]), OwnF w8.heap.size (checkedT m (i) ((sigT secret i m).set k x) (pathT (keysT secret h) i)), OwnF w8.heap.size (madeT secret h 15 ++ checkedT m (i) ((sigT secret i m).set k x) (pathT (keysT secret h) i)), valF (.bool true), valF (.bool true), valF (.bool true)].getD ii anyF) (fun jj ii => (jj == 8 && ii == 4)) (fun jj bb => False) (by kernel_rfl) (by kernel_rfl) (by kernel_rfl) (by kernel_rfl) (by kernel_rfl) (Nat.le_refl _) ?_ ?_ ?_ ?_ ?_
          · intro ii u hii
            refine AllKStable.at ?_ ii
            exact ⟨.inl (valF_stable _ _), .inl (valF_stable _ _), .inl (valF_stable _ _), .inl (valF_stable _ _), .inl (ownF_st _ _ _), .inl (valF_stable _ _), .inl (valF_stable _ _), .inl (ownF_st _ _ _), .inl (ownF_st _ _ _), .inl (valF_stable _ _), .inl (valF_stable _ _), .inl (valF_stable _ _), trivial⟩
          · exact fun _ _ _ _ _ => rfl
          · exact ⟨fun _ _ _ h => h.elim, fun _ _ _ _ _ h => h.elim⟩
          · refine And.intro (fun u W A hW hBW hd hv hr => ?_) ?_
            · have t13 : A.eval (.tmp 13) = .bool true := (hv 13 (by kernel_rfl)).trans (by kernel_rfl)
              clear hd hv
              have s13 := evalT t13
              clear t13
              refine fk_run ?_
              go_simp
            refine And.intro (fun u W A hW hBW hd hv hr => ?_) ?_
            · have e0 : u 0 = .bool true := hd 0 (by decide) (by kernel_rfl)
              have t122 : A.eval (.tmp 122) = .bool true := (hv 122 (by kernel_rfl)).trans ((by kernel_rfl : slotV _ _ _ u 122 = u 0).trans e0)
              clear hd hv
              have s122 := evalT t122
              clear t122
              refine fk_run ?_
              go_simp
            refine And.intro (fun u W A hW hBW hd hv hr => ?_) ?_
            · have e1 : u 1 = .bool true := hd 1 (by decide) (by kernel_rfl)
              have t0 : A.eval (.tmp 0) = .string secret := (hv 0 (by kernel_rfl)).trans (by kernel_rfl)
              clear hd hv
              have s0 := evalT t0
              clear t0
              refine Or.inl ⟨e1, ?_⟩
              refine fk_run ?_
              go_simp
            refine And.intro (fun u W A hW hBW hd hv hr => ?_) ?_
            · have e1 : u 1 = .bool true := hd 1 (by decide) (by kernel_rfl)
              have t14 : A.eval (.tmp 14) = .int .i64 (h : Int) := (hv 14 (by kernel_rfl)).trans (by kernel_rfl)
              clear hd hv
              have s14 := evalT t14
              clear t14
              refine Or.inl ⟨e1, ?_⟩
              refine fk_run ?_
              go_simp
            refine And.intro (fun u W A hW hBW hd hv hr => ?_) ?_
            · have e1 : u 1 = .bool true := hd 1 (by decide) (by kernel_rfl)
              have e2 : u 2 = .string secret := hd 2 (by decide) (by kernel_rfl)
              have e3 : u 3 = .int .i64 (h : Int) := hd 3 (by decide) (by kernel_rfl)
              have t124 : A.eval (.tmp 124) = .string secret := (hv 124 (by kernel_rfl)).trans ((by kernel_rfl : slotV _ _ _ u 124 = u 2).trans e2)
              have t125 : A.eval (.tmp 125) = .int .i64 (h : Int) := (hv 125 (by kernel_rfl)).trans ((by kernel_rfl : slotV _ _ _ u 125 = u 3).trans e3)
              have hW1 := below_undrew hW
              clear hd hv
              have s124 := evalT t124
              have s125 := evalT t125
              clear t124 t125
              refine Or.inl ⟨e1, ?_⟩
              refine fk_enter (f := 18) (args := #[.string secret, .int .i64 (h : Int), .int .i64 15]) (by go_simp) (fk_own hBW ?_)
              exact made_calls secret h 15 W hs3 (by omega) (by decide) (by decide) (HT.out.on (H8.out.trans (hW1.mono H8.out.size)))
            refine And.intro (fun u W A hW hBW hd hv hr => ?_) ?_
            · have e1 : u 1 = .bool true := hd 1 (by decide) (by kernel_rfl)
              have t3 : A.eval (.tmp 3) = .string m := (hv 3 (by kernel_rfl)).trans (by kernel_rfl)
              clear hd hv
              have s3 := evalT t3
              clear t3
              refine Or.inl ⟨e1, ?_⟩
              refine fk_run ?_
              go_simp
            refine And.intro (fun u W A hW hBW hd hv hr => ?_) ?_
            · have e1 : u 1 = .bool true := hd 1 (by decide) (by kernel_rfl)
              have t20 : A.eval (.tmp 20) = .pointer (some ⟨b5, 0, none⟩) := (hv 20 (by kernel_rfl)).trans (by kernel_rfl)
              have hW1 := below_undrew hW
              have hcl0 : W.cell? ⟨b5, 0, none⟩ = some (.int .i64 (i : Int)) := ((R58.out.on hW1).cell 0).trans rfl
              have hcl1 : W.cell? ⟨b5, 1, none⟩ = some (.slice (some ⟨g, 0, none⟩) 18 cap) := ((R58.out.on hW1).cell 1).trans rfl
              have hcl2 : W.cell? ⟨b5, 2, none⟩ = some (.slice aoq h cq) := ((R58.out.on hW1).cell 2).trans rfl
              clear hd hv
              have s20 := evalT t20
              clear t20
              refine Or.inl ⟨e1, ?_⟩
              refine fk_run ?_
              go_simp
            refine And.intro (fun u W A hW hBW hd hv hr => ?_) ?_
            · have e1 : u 1 = .bool true := hd 1 (by decide) (by kernel_rfl)
              have e5 : u 5 = .string m := hd 5 (by decide) (by kernel_rfl)
              have e6 : u 6 = .agg #[.int .i64 (i : Int), .slice (some ⟨g, 0, none⟩) 18 cap, .slice aoq h cq] := hd 6 (by decide) (by kernel_rfl)
              have t127 : A.eval (.tmp 127) = .string m := (hv 127 (by kernel_rfl)).trans ((by kernel_rfl : slotV _ _ _ u 127 = u 5).trans e5)
              have t128 : A.eval (.tmp 128) = .agg #[.int .i64 (i : Int), .slice (some ⟨g, 0, none⟩) 18 cap, .slice aoq h cq] := (hv 128 (by kernel_rfl)).trans ((by kernel_rfl : slotV _ _ _ u 128 = u 6).trans e6)
              have hW1 := below_undrew hW
              clear hd hv
              have s127 := evalT t127
              have s128 := evalT t128
              clear t127 t128
              refine Or.inl ⟨e1, ?_⟩
              refine fk_enter (f := 19) (args := #[.string m, .agg #[.int .i64 (i : Int), .slice (some ⟨g, 0, none⟩) 18 cap, .slice aoq h cq]]) (by go_simp) (fk_own hBW ?_)
              exact checked_calls m (i) _ _ ((sigT secret i m).set k x) (pathT (keysT secret h) i) W (by omega) (by omega) (VB8.out.on hW1) (VQ8.out.on hW1) HSL2.out HPL2.out HB16.out HQ16.out (HT.out.on (H8.out.trans (hW1.mono H8.out.size)))
            refine And.intro (fun u W A hW hBW hd hv hr => ?_) ?_
            · have e1 : u 1 = .bool true := hd 1 (by decide) (by kernel_rfl)
              have e4 : Own w8.heap.size W (u 4) (madeT secret h 15) := hd 4 (by decide) (by kernel_rfl)
              have e7 : Own w8.heap.size W (u 7) (checkedT m (i) ((sigT secret i m).set k x) (pathT (keysT secret h) i)) := hd 7 (by decide) (by kernel_rfl)
              have t126 : A.eval (.tmp 126) = u 4 := (hv 126 (by kernel_rfl)).trans (by kernel_rfl)
              have t129 : A.eval (.tmp 129) = u 7 := (hv 129 (by kernel_rfl)).trans (by kernel_rfl)
              have hW1 := below_undrew hW
              clear hd hv
              refine Or.inl ⟨e1, ?_⟩
              exact fk_append (.tmp 126) (.tmp 129) rfl t126 t129 e4 e7.strc hBW (by have := HL1.out; have := HL2.out; omega) (fun c hc => .inl ⟨4, by decide, by decide, hc⟩)
            refine And.intro (fun u W A hW hBW hd hv hr => ?_) ?_
            · have e1 : u 1 = .bool true := hd 1 (by decide) (by kernel_rfl)
              have e8 : Own w8.heap.size W (u 8) (madeT secret h 15 ++ checkedT m (i) ((sigT secret i m).set k x) (pathT (keysT secret h) i)) := hd 8 (by decide) (by kernel_rfl)
              have t130 : A.eval (.tmp 130) = u 8 := (hv 130 (by kernel_rfl)).trans (by kernel_rfl)
              have hW1 := below_undrew hW
              clear hd hv
              have s130 := evalT t130
              clear t130
              refine Or.inl ⟨e1, ?_⟩
              refine fk_enter (f := 17) (args := #[u 8]) (by go_simp) (fk_val ?_)
              exact shown_calls (madeT secret h 15 ++ checkedT m (i) ((sigT secret i m).set k x) (pathT (keysT secret h) i)) _ W e8.strc (fun s hs => (List.mem_append.1 hs).elim (HZ1.out s) (HZ2.out s)) (by rw [List.length_append]; have := HL1.out; have := HL2.out; omega) HCL.out
            refine And.intro (fun u W A hW hBW hd hv hr => ?_) ?_
            · have e1 : u 1 = .bool true := hd 1 (by decide) (by kernel_rfl)
              have e9 : u 9 = .bool true := hd 9 (by decide) (by kernel_rfl)
              have t123 : A.eval (.tmp 123) = .bool true := (hv 123 (by kernel_rfl)).trans ((by kernel_rfl : slotV _ _ _ u 123 = u 1).trans e1)
              have t131 : A.eval (.tmp 131) = .bool true := (hv 131 (by kernel_rfl)).trans ((by kernel_rfl : slotV _ _ _ u 131 = u 9).trans e9)
              clear hd hv
              have s123 := evalT t123
              have s131 := evalT t131
              clear t123 t131
              refine fk_run ?_
              go_simp
            refine And.intro (fun u W A hW hBW hd hv hr => ?_) ?_
            · have e10 : u 10 = .bool true := hd 10 (by decide) (by kernel_rfl)
              have t132 : A.eval (.tmp 132) = .bool true := (hv 132 (by kernel_rfl)).trans ((by kernel_rfl : slotV _ _ _ u 132 = u 10).trans e10)
              clear hd hv
              have s132 := evalT t132
              clear t132
              refine fk_run ?_
              go_simp
            exact trivial
          intro u w9 hb hk2 hf
          have e11 : u 11 = .bool true := hf 11 (by decide) (by decide)
          have hb1 := below_undrew hb
          clear hf hb hk2
          have H9 := Lib.hid (H8.out.trans (hb1.mono H8.out.size))
          have VSa9 := Lib.hid (VSa8.out.on hb1)
          have VPa9 := Lib.hid (VPa8.out.on hb1)
          have R169 := Lib.hid (R168.out.on hb1)
          have R59 := Lib.hid (R58.out.on hb1)
          have VB9 := Lib.hid (VB8.out.on hb1)
          have VQ9 := Lib.hid (VQ8.out.on hb1)
          clear hb1
          clear H8 VSa8 VPa8 R168 R58 VB8 VQ8
          generalize w9 = w9 at *
          simp only [List.take, List.drop, wpList, lexPut, Nat.zero_add, Nat.reduceAdd, e11, Act.put, List.setIfInBounds_toArray, List.set_cons_succ, List.set_cons_zero]
          clear e11
          go_wp2
          go_ret
          exact ⟨rfl, H9.out⟩
    · by_cases hkh : k < 18 + h
      · have HSL2 : Hid ((sigT secret i m).length = 18) := Lib.hid (by exact HSL.out)
        have HPL2 : Hid (((pathT (keysT secret h) i).set (k - 18) x).length ≤ 8) := Lib.hid (by rw [List.length_set]; rw [HPL.out]; omega)
        have HSZ2 : Hid (∀ s ∈ sigT secret i m, s.size ≤ 1099511627776) := Lib.hid (HSZ.out)
        have HPZ2 : Hid (∀ s ∈ (pathT (keysT secret h) i).set (k - 18) x, s.size ≤ 1099511627776) := Lib.hid (mem_set_size HPZ.out (by omega))
        have hd18 : decide ((k : Int) < 18) = false := decide_eq_false (by omega)
        have hdh : decide ((k : Int) < 18 + (h : Int)) = true := decide_eq_true (by omega)
        obtain ⟨r, rfl⟩ : ∃ r, k = 18 + r := ⟨k - 18, by omega⟩
        have hrh : r < h := by omega
        have e18 : 18 + r - 18 = r := by omega
        rw [e18] at HPL2 HPZ2
        clear e18
        obtain ⟨g, cap, rfl, hfz, hcl, hbad⟩ := HB0.out.setP (r) x (by rw [HPL.out]; exact hrh)
        rw [HPL.out] at hbad HB0 ⊢
        obtain ⟨aoq, nq, cq, rfl⟩ := own_form HB0.out.os
        have hln : 18 = nq := by obtain ⟨a, c, e⟩ := strc_form HB0.out.os.strc; rw [HSL.out] at e; cases e; rfl
        subst hln
        have HBX := Lib.hid hbad
        clear hbad
        have c50 : (wz).cell? ⟨b5, 0, none⟩ = some (.int .i64 (i : Int)) := ((HB0.out.row).cell 0).trans rfl
        have c51 : (wz).cell? ⟨b5, 1, none⟩ = some (.slice aoq 18 cq) := ((HB0.out.row).cell 1).trans rfl
        have c52 : (wz).cell? ⟨b5, 2, none⟩ = some (.slice (some ⟨g, 0, none⟩) h cap) := ((HB0.out.row).cell 2).trans rfl
        have d50 : (wz.setCell ⟨g, r, none⟩ (.string x)).cell? ⟨b5, 0, none⟩ = some (.int .i64 (i : Int)) := ((HBX.out.row).cell 0).trans rfl
        have d51 : (wz.setCell ⟨g, r, none⟩ (.string x)).cell? ⟨b5, 1, none⟩ = some (.slice aoq 18 cq) := ((HBX.out.row).cell 1).trans rfl
        have d52 : (wz.setCell ⟨g, r, none⟩ (.string x)).cell? ⟨b5, 2, none⟩ = some (.slice (some ⟨g, 0, none⟩) h cap) := ((HBX.out.row).cell 2).trans rfl
        have d60 : (wz.setCell ⟨g, r, none⟩ (.string x)).cell? ⟨b16, 0, none⟩ = some (.int .i64 (i : Int)) := ((R165.out.on HBX.out.below).cell 0).trans rfl
        have d61 : (wz.setCell ⟨g, r, none⟩ (.string x)).cell? ⟨b16, 1, none⟩ = some (.slice aosa 18 csa) := ((R165.out.on HBX.out.below).cell 1).trans rfl
        have d62 : (wz.setCell ⟨g, r, none⟩ (.string x)).cell? ⟨b16, 2, none⟩ = some (.slice aopa h cpa) := ((R165.out.on HBX.out.below).cell 2).trans rfl
        go_wp2_with fail
        have hqq := HBX.out.below
        clear hm3 hpz hfz hcl HB0 hd18 hdh
        clear c50 c51 c52 d50 d51 d52 d60 d61 d62
        have H6 := Lib.hid (H5.out.trans (hqq.mono H5.out.size))
        have VSa6 := Lib.hid (VSa5.out.on hqq)
        have VPa6 := Lib.hid (VPa5.out.on hqq)
        have R166 := Lib.hid (R165.out.on hqq)
        clear hqq
        clear H5 VSa5 VPa5 R165
        generalize wz.setCell ⟨g, r, none⟩ (.string x) = w6 at *
        have R56 : Hid (RowIs b5 #[.int .i64 (i : Int), .slice aoq 18 cq, .slice (some ⟨g, 0, none⟩) h cap] 24 w6) := Lib.hid HBX.out.row
        have VB6 : Hid (IsStrC w6 (.slice aoq 18 cq) (sigT secret i m)) := Lib.hid HBX.out.os.strc
        have VQ6 : Hid (IsStrC w6 (.slice (some ⟨g, 0, none⟩) h cap) ((pathT (keysT secret h) i).set r x)) := Lib.hid HBX.out.op.strc
        clear HBX
        cases hsm : same3 (i : Int) (i : Int) (sigT secret i m) (sigT secret i m) ((pathT (keysT secret h) i).set r x) (pathT (keysT secret h) i) with
        | true =>
          have HSM := Lib.hid hsm
          clear hsm
          refine (same03_calls (i : Int) (i : Int) _ _ _ _ (sigT secret i m) (sigT secret i m) ((pathT (keysT secret h) i).set r x) (pathT (keysT secret h) i) w6 VB6.out VSa6.out VQ6.out VPa6.out).mono ?_
          rintro e w7 ⟨rfl, hB⟩
          have H7 := Lib.hid (H6.out.trans (hB.mono H6.out.size))
          have VSa7 := Lib.hid (VSa6.out.on hB)
          have VPa7 := Lib.hid (VPa6.out.on hB)
          have R167 := Lib.hid (R166.out.on hB)
          have R57 := Lib.hid (R56.out.on hB)
          have VB7 := Lib.hid (VB6.out.on hB)
          have VQ7 := Lib.hid (VQ6.out.on hB)
          clear hB H6 VSa6 VPa6 R166 R56 VB6 VQ6
          rw [HSM.out]
          go_wp2
          go_ret
          exact ⟨rfl, H7.out⟩
        | false =>
          have HSM := Lib.hid hsm
          have hch : ((i : Int) = (i : Int) ∧ ¬ ((sigT secret i m) = sigT secret i m ∧ ((pathT (keysT secret h) i).set r x) = pathT (keysT secret h) i)) ∨ (((i : Nat) : Int).toNat ≠ i ∧ (sigT secret i m) = sigT secret i m) := .inl ⟨rfl, fun hx => by rw [hx.1, hx.2] at hsm; rw [same3_refl] at hsm; cases hsm⟩
          clear hsm
          cases hv : verT (pubT secret h) m (i : Int) (sigT secret i m) ((pathT (keysT secret h) i).set r x) with
          | false =>
            have HV := Lib.hid hv
            clear hv hch
            refine (same03_calls (i : Int) (i : Int) _ _ _ _ (sigT secret i m) (sigT secret i m) ((pathT (keysT secret h) i).set r x) (pathT (keysT secret h) i) w6 VB6.out VSa6.out VQ6.out VPa6.out).mono ?_
            rintro e w7 ⟨rfl, hB⟩
            have H7 := Lib.hid (H6.out.trans (hB.mono H6.out.size))
            have VSa7 := Lib.hid (VSa6.out.on hB)
            have VPa7 := Lib.hid (VPa6.out.on hB)
            have R167 := Lib.hid (R166.out.on hB)
            have R57 := Lib.hid (R56.out.on hB)
            have VB7 := Lib.hid (VB6.out.on hB)
            have VQ7 := Lib.hid (VQ6.out.on hB)
            clear hB H6 VSa6 VPa6 R166 R56 VB6 VQ6
            rw [HSM.out]
            have c50 : w7.cell? ⟨b5, 0, none⟩ = some (.int .i64 (i : Int)) := (R57.out.cell 0).trans rfl
            have c51 : w7.cell? ⟨b5, 1, none⟩ = some (.slice aoq 18 cq) := (R57.out.cell 1).trans rfl
            have c52 : w7.cell? ⟨b5, 2, none⟩ = some (.slice (some ⟨g, 0, none⟩) h cap) := (R57.out.cell 2).trans rfl
            go_wp2_with fail
            refine (verify_calls (pubT secret h) m (i : Int) _ _ (sigT secret i m) ((pathT (keysT secret h) i).set r x) w7 (by have := HRS.out; omega) (by omega) VB7.out VQ7.out HSZ2.out HPZ2.out (HT.out.on H7.out)).mono ?_
            rintro e w8 ⟨rfl, hB⟩
            clear c50 c51 c52
            have H8 := Lib.hid (H7.out.trans (hB.mono H7.out.size))
            have VSa8 := Lib.hid (VSa7.out.on hB)
            have VPa8 := Lib.hid (VPa7.out.on hB)
            have R168 := Lib.hid (R167.out.on hB)
            have R58 := Lib.hid (R57.out.on hB)
            have VB8 := Lib.hid (VB7.out.on hB)
            have VQ8 := Lib.hid (VQ7.out.on hB)
            clear hB H7 VSa7 VPa7 R167 R57 VB7 VQ7
            rw [HV.out]
            go_wp2
            go_ret
            exact ⟨rfl, H8.out⟩
          | true =>
            have HV := Lib.hid hv
            have hcl := seal_changes HI.out hch hv
            rw [Int.toNat_natCast] at hcl
            have HCL := Lib.hid hcl
            have h16 := checked_16 hv
            have HB16 := Lib.hid h16.1
            have HQ16 := Lib.hid h16.2
            have HZ2 := Lib.hid (checkedT_size m (i) h16.1 h16.2)
            have HL2 := Lib.hid (checkedT_len m (i) (sigT secret i m) ((pathT (keysT secret h) i).set r x) HPL2.out)
            clear hv hch hcl h16
            refine (same03_calls (i : Int) (i : Int) _ _ _ _ (sigT secret i m) (sigT secret i m) ((pathT (keysT secret h) i).set r x) (pathT (keysT secret h) i) w6 VB6.out VSa6.out VQ6.out VPa6.out).mono ?_
            rintro e w7 ⟨rfl, hB⟩
            have H7 := Lib.hid (H6.out.trans (hB.mono H6.out.size))
            have VSa7 := Lib.hid (VSa6.out.on hB)
            have VPa7 := Lib.hid (VPa6.out.on hB)
            have R167 := Lib.hid (R166.out.on hB)
            have R57 := Lib.hid (R56.out.on hB)
            have VB7 := Lib.hid (VB6.out.on hB)
            have VQ7 := Lib.hid (VQ6.out.on hB)
            clear hB H6 VSa6 VPa6 R166 R56 VB6 VQ6
            rw [HSM.out]
            have c50 : w7.cell? ⟨b5, 0, none⟩ = some (.int .i64 (i : Int)) := (R57.out.cell 0).trans rfl
            have c51 : w7.cell? ⟨b5, 1, none⟩ = some (.slice aoq 18 cq) := (R57.out.cell 1).trans rfl
            have c52 : w7.cell? ⟨b5, 2, none⟩ = some (.slice (some ⟨g, 0, none⟩) h cap) := (R57.out.cell 2).trans rfl
            go_wp2_with fail
            refine (verify_calls (pubT secret h) m (i : Int) _ _ (sigT secret i m) ((pathT (keysT secret h) i).set r x) w7 (by have := HRS.out; omega) (by omega) VB7.out VQ7.out HSZ2.out HPZ2.out (HT.out.on H7.out)).mono ?_
            rintro e w8 ⟨rfl, hB⟩
            clear c50 c51 c52
            have H8 := Lib.hid (H7.out.trans (hB.mono H7.out.size))
            have VSa8 := Lib.hid (VSa7.out.on hB)
            have VPa8 := Lib.hid (VPa7.out.on hB)
            have R168 := Lib.hid (R167.out.on hB)
            have R58 := Lib.hid (R57.out.on hB)
            have VB8 := Lib.hid (VB7.out.on hB)
            have VQ8 := Lib.hid (VQ7.out.on hB)
            clear hB H7 VSa7 VPa7 R167 R57 VB7 VQ7
            rw [HV.out]
            go_wp2_with fail
            refine wp_region_res 12 (w8.heap.size) (fun ii u => [valF (.bool true), valF (.bool true), valF (.string secret), valF (.int .i64 (h : Int)), OwnF w8.heap.size (madeT secret h 15), valF (.string m), valF (.agg #[.int .i64 (i : Int), .slice aoq 18 cq, .slice (some ⟨g, 0, none⟩) h cap]), OwnF w8.heap.size (checkedT m (i) (sigT secret i m) ((pathT (keysT secret h) i).set r x)), OwnF w8.heap.size (madeT secret h 15 ++ checkedT m (i) (sigT secret i m) ((pathT (keysT secret h) i).set r x)), valF (.bool true), valF (.bool true), valF (.bool true)].getD ii anyF) (fun jj ii => (jj == 8 && ii == 4)) (fun jj bb => False) (by kernel_rfl) (by kernel_rfl) (by kernel_rfl) (by kernel_rfl) (by kernel_rfl) (Nat.le_refl _) ?_ ?_ ?_ ?_ ?_
            · intro ii u hii
              refine AllKStable.at ?_ ii
              exact ⟨.inl (valF_stable _ _), .inl (valF_stable _ _), .inl (valF_stable _ _), .inl (valF_stable _ _), .inl (ownF_st _ _ _), .inl (valF_stable _ _), .inl (valF_stable _ _), .inl (ownF_st _ _ _), .inl (ownF_st _ _ _), .inl (valF_stable _ _), .inl (valF_stable _ _), .inl (valF_stable _ _), trivial⟩
            · exact fun _ _ _ _ _ => rfl
            · exact ⟨fun _ _ _ h => h.elim, fun _ _ _ _ _ h => h.elim⟩
            · refine And.intro (fun u W A hW hBW hd hv hr => ?_) ?_
              · have t13 : A.eval (.tmp 13) = .bool true := (hv 13 (by kernel_rfl)).trans (by kernel_rfl)
                clear hd hv
                have s13 := evalT t13
                clear t13
                refine fk_run ?_
                go_simp
              refine And.intro (fun u W A hW hBW hd hv hr => ?_) ?_
              · have e0 : u 0 = .bool true := hd 0 (by decide) (by kernel_rfl)
                have t122 : A.eval (.tmp 122) = .bool true := (hv 122 (by kernel_rfl)).trans ((by kernel_rfl : slotV _ _ _ u 122 = u 0).trans e0)
                clear hd hv
                have s122 := evalT t122
                clear t122
                refine fk_run ?_
                go_simp
              refine And.intro (fun u W A hW hBW hd hv hr => ?_) ?_
              · have e1 : u 1 = .bool true := hd 1 (by decide) (by kernel_rfl)
                have t0 : A.eval (.tmp 0) = .string secret := (hv 0 (by kernel_rfl)).trans (by kernel_rfl)
                clear hd hv
                have s0 := evalT t0
                clear t0
                refine Or.inl ⟨e1, ?_⟩
                refine fk_run ?_
                go_simp
              refine And.intro (fun u W A hW hBW hd hv hr => ?_) ?_
              · have e1 : u 1 = .bool true := hd 1 (by decide) (by kernel_rfl)
                have t14 : A.eval (.tmp 14) = .int .i64 (h : Int) := (hv 14 (by kernel_rfl)).trans (by kernel_rfl)
                clear hd hv
                have s14 := evalT t14
                clear t14
                refine Or.inl ⟨e1, ?_⟩
                refine fk_run ?_
                go_simp
              refine And.intro (fun u W A hW hBW hd hv hr => ?_) ?_
              · have e1 : u 1 = .bool true := hd 1 (by decide) (by kernel_rfl)
                have e2 : u 2 = .string secret := hd 2 (by decide) (by kernel_rfl)
                have e3 : u 3 = .int .i64 (h : Int) := hd 3 (by decide) (by kernel_rfl)
                have t124 : A.eval (.tmp 124) = .string secret := (hv 124 (by kernel_rfl)).trans ((by kernel_rfl : slotV _ _ _ u 124 = u 2).trans e2)
                have t125 : A.eval (.tmp 125) = .int .i64 (h : Int) := (hv 125 (by kernel_rfl)).trans ((by kernel_rfl : slotV _ _ _ u 125 = u 3).trans e3)
                have hW1 := below_undrew hW
                clear hd hv
                have s124 := evalT t124
                have s125 := evalT t125
                clear t124 t125
                refine Or.inl ⟨e1, ?_⟩
                refine fk_enter (f := 18) (args := #[.string secret, .int .i64 (h : Int), .int .i64 15]) (by go_simp) (fk_own hBW ?_)
                exact made_calls secret h 15 W hs3 (by omega) (by decide) (by decide) (HT.out.on (H8.out.trans (hW1.mono H8.out.size)))
              refine And.intro (fun u W A hW hBW hd hv hr => ?_) ?_
              · have e1 : u 1 = .bool true := hd 1 (by decide) (by kernel_rfl)
                have t3 : A.eval (.tmp 3) = .string m := (hv 3 (by kernel_rfl)).trans (by kernel_rfl)
                clear hd hv
                have s3 := evalT t3
                clear t3
                refine Or.inl ⟨e1, ?_⟩
                refine fk_run ?_
                go_simp
              refine And.intro (fun u W A hW hBW hd hv hr => ?_) ?_
              · have e1 : u 1 = .bool true := hd 1 (by decide) (by kernel_rfl)
                have t20 : A.eval (.tmp 20) = .pointer (some ⟨b5, 0, none⟩) := (hv 20 (by kernel_rfl)).trans (by kernel_rfl)
                have hW1 := below_undrew hW
                have hcl0 : W.cell? ⟨b5, 0, none⟩ = some (.int .i64 (i : Int)) := ((R58.out.on hW1).cell 0).trans rfl
                have hcl1 : W.cell? ⟨b5, 1, none⟩ = some (.slice aoq 18 cq) := ((R58.out.on hW1).cell 1).trans rfl
                have hcl2 : W.cell? ⟨b5, 2, none⟩ = some (.slice (some ⟨g, 0, none⟩) h cap) := ((R58.out.on hW1).cell 2).trans rfl
                clear hd hv
                have s20 := evalT t20
                clear t20
                refine Or.inl ⟨e1, ?_⟩
                refine fk_run ?_
                go_simp
              refine And.intro (fun u W A hW hBW hd hv hr => ?_) ?_
              · have e1 : u 1 = .bool true := hd 1 (by decide) (by kernel_rfl)
                have e5 : u 5 = .string m := hd 5 (by decide) (by kernel_rfl)
                have e6 : u 6 = .agg #[.int .i64 (i : Int), .slice aoq 18 cq, .slice (some ⟨g, 0, none⟩) h cap] := hd 6 (by decide) (by kernel_rfl)
                have t127 : A.eval (.tmp 127) = .string m := (hv 127 (by kernel_rfl)).trans ((by kernel_rfl : slotV _ _ _ u 127 = u 5).trans e5)
                have t128 : A.eval (.tmp 128) = .agg #[.int .i64 (i : Int), .slice aoq 18 cq, .slice (some ⟨g, 0, none⟩) h cap] := (hv 128 (by kernel_rfl)).trans ((by kernel_rfl : slotV _ _ _ u 128 = u 6).trans e6)
                have hW1 := below_undrew hW
                clear hd hv
                have s127 := evalT t127
                have s128 := evalT t128
                clear t127 t128
                refine Or.inl ⟨e1, ?_⟩
                refine fk_enter (f := 19) (args := #[.string m, .agg #[.int .i64 (i : Int), .slice aoq 18 cq, .slice (some ⟨g, 0, none⟩) h cap]]) (by go_simp) (fk_own hBW ?_)
                exact checked_calls m (i) _ _ (sigT secret i m) ((pathT (keysT secret h) i).set r x) W (by omega) (by omega) (VB8.out.on hW1) (VQ8.out.on hW1) HSL2.out HPL2.out HB16.out HQ16.out (HT.out.on (H8.out.trans (hW1.mono H8.out.size)))
              refine And.intro (fun u W A hW hBW hd hv hr => ?_) ?_
              · have e1 : u 1 = .bool true := hd 1 (by decide) (by kernel_rfl)
                have e4 : Own w8.heap.size W (u 4) (madeT secret h 15) := hd 4 (by decide) (by kernel_rfl)
                have e7 : Own w8.heap.size W (u 7) (checkedT m (i) (sigT secret i m) ((pathT (keysT secret h) i).set r x)) := hd 7 (by decide) (by kernel_rfl)
                have t126 : A.eval (.tmp 126) = u 4 := (hv 126 (by kernel_rfl)).trans (by kernel_rfl)
                have t129 : A.eval (.tmp 129) = u 7 := (hv 129 (by kernel_rfl)).trans (by kernel_rfl)
                have hW1 := below_undrew hW
                clear hd hv
                refine Or.inl ⟨e1, ?_⟩
                exact fk_append (.tmp 126) (.tmp 129) rfl t126 t129 e4 e7.strc hBW (by have := HL1.out; have := HL2.out; omega) (fun c hc => .inl ⟨4, by decide, by decide, hc⟩)
              refine And.intro (fun u W A hW hBW hd hv hr => ?_) ?_
              · have e1 : u 1 = .bool true := hd 1 (by decide) (by kernel_rfl)
                have e8 : Own w8.heap.size W (u 8) (madeT secret h 15 ++ checkedT m (i) (sigT secret i m) ((pathT (keysT secret h) i).set r x)) := hd 8 (by decide) (by kernel_rfl)
                have t130 : A.eval (.tmp 130) = u 8 := (hv 130 (by kernel_rfl)).trans (by kernel_rfl)
                have hW1 := below_undrew hW
                clear hd hv
                have s130 := evalT t130
                clear t130
                refine Or.inl ⟨e1, ?_⟩
                refine fk_enter (f := 17) (args := #[u 8]) (by go_simp) (fk_val ?_)
                exact shown_calls (madeT secret h 15 ++ checkedT m (i) (sigT secret i m) ((pathT (keysT secret h) i).set r x)) _ W e8.strc (fun s hs => (List.mem_append.1 hs).elim (HZ1.out s) (HZ2.out s)) (by rw [List.length_append]; have := HL1.out; have := HL2.out; omega) HCL.out
              refine And.intro (fun u W A hW hBW hd hv hr => ?_) ?_
              · have e1 : u 1 = .bool true := hd 1 (by decide) (by kernel_rfl)
                have e9 : u 9 = .bool true := hd 9 (by decide) (by kernel_rfl)
                have t123 : A.eval (.tmp 123) = .bool true := (hv 123 (by kernel_rfl)).trans ((by kernel_rfl : slotV _ _ _ u 123 = u 1).trans e1)
                have t131 : A.eval (.tmp 131) = .bool true := (hv 131 (by kernel_rfl)).trans ((by kernel_rfl : slotV _ _ _ u 131 = u 9).trans e9)
                clear hd hv
                have s123 := evalT t123
                have s131 := evalT t131
                clear t123 t131
                refine fk_run ?_
                go_simp
              refine And.intro (fun u W A hW hBW hd hv hr => ?_) ?_
              · have e10 : u 10 = .bool true := hd 10 (by decide) (by kernel_rfl)
                have t132 : A.eval (.tmp 132) = .bool true := (hv 132 (by kernel_rfl)).trans ((by kernel_rfl : slotV _ _ _ u 132 = u 10).trans e10)
                clear hd hv
                have s132 := evalT t132
                clear t132
                refine fk_run ?_
                go_simp
              exact trivial
            intro u w9 hb hk2 hf
            have e11 : u 11 = .bool true := hf 11 (by decide) (by decide)
            have hb1 := below_undrew hb
            clear hf hb hk2
            have H9 := Lib.hid (H8.out.trans (hb1.mono H8.out.size))
            have VSa9 := Lib.hid (VSa8.out.on hb1)
            have VPa9 := Lib.hid (VPa8.out.on hb1)
            have R169 := Lib.hid (R168.out.on hb1)
            have R59 := Lib.hid (R58.out.on hb1)
            have VB9 := Lib.hid (VB8.out.on hb1)
            have VQ9 := Lib.hid (VQ8.out.on hb1)
            clear hb1
            clear H8 VSa8 VPa8 R168 R58 VB8 VQ8
            generalize w9 = w9 at *
            simp only [List.take, List.drop, wpList, lexPut, Nat.zero_add, Nat.reduceAdd, e11, Act.put, List.setIfInBounds_toArray, List.set_cons_succ, List.set_cons_zero]
            clear e11
            go_wp2
            go_ret
            exact ⟨rfl, H9.out⟩
      · have HSL2 : Hid ((sigT secret i m).length = 18) := Lib.hid (by exact HSL.out)
        have HPL2 : Hid ((pathT (keysT secret h) i).length ≤ 8) := Lib.hid (by rw [HPL.out]; omega)
        have HSZ2 : Hid (∀ s ∈ sigT secret i m, s.size ≤ 1099511627776) := Lib.hid (HSZ.out)
        have HPZ2 : Hid (∀ s ∈ pathT (keysT secret h) i, s.size ≤ 1099511627776) := Lib.hid (HPZ.out)
        have hd18 : decide ((k : Int) < 18) = false := decide_eq_false (by omega)
        have hdh : decide ((k : Int) < 18 + (h : Int)) = false := decide_eq_false (by omega)
        obtain ⟨aoq, nq, cq, rfl⟩ := own_form HB0.out.os
        have hln : 18 = nq := by obtain ⟨a, c, e⟩ := strc_form HB0.out.os.strc; rw [HSL.out] at e; cases e; rfl
        subst hln
        obtain ⟨aor, nr, cr, rfl⟩ := own_form HB0.out.op
        have hln : h = nr := by obtain ⟨a, c, e⟩ := strc_form HB0.out.op.strc; rw [HPL.out] at e; cases e; rfl
        subst hln
        obtain ⟨i2, hi2⟩ : ∃ i2, i2 = (i + 1) % 2 ^ h := ⟨_, rfl⟩
        have hi2lt : i2 ≤ 256 := by
          have := Nat.mod_lt (i + 1) (Nat.pow_pos (n := h) (show 0 < 2 by decide))
          have := HPE.out
          rw [← hi2] at *
          omega
        have HM4 : Hid (((i : Int) + 1) % (2 : Int) ^ h = (i2 : Int)) := Lib.hid (by rw [hi2, ← HPE.out]; rfl)
        have HI2 := Lib.hid hi2
        clear hi2
        go_wp2_with fail
        have hlo5 := HB0.out.lo
        have hlt5 := HB0.out.lt
        clear hm3 hpz hd18 hdh
        refine wp_region_res 8 (b5) (fun ii u => [valF (.pointer (some ⟨b16, 0, none⟩)), valF (.int .i64 (i : Int)), valF (.int .i64 ((i : Int) + 1)), valF (.int .i64 (h : Int)), valF (.int .i64 ((2 : Int) ^ h)), valF (.int .i64 (i2 : Int)), valF (.pointer (some ⟨b5, 0, none⟩)), MemK b5 (.cells #[.int .i64 (i2 : Int), .slice aoq 18 cq, .slice aor h cr] 24 (0, 0))].getD ii anyF) (fun jj ii => false) (fun jj bb => (jj = 7 ∧ bb = b5)) (by kernel_rfl) (by kernel_rfl) (by kernel_rfl) (by kernel_rfl) (by kernel_rfl) (Nat.le_of_lt hlt5) ?_ ?_ ?_ ?_ ?_
        · intro ii u hii
          refine AllKStable.at ?_ ii
          exact ⟨.inl (valF_stable _ _), .inl (valF_stable _ _), .inl (valF_stable _ _), .inl (valF_stable _ _), .inl (valF_stable _ _), .inl (valF_stable _ _), .inl (valF_stable _ _), .inl (memK_st _ _ _), trivial⟩
        · exact fun _ _ _ _ _ => rfl
        · refine ⟨fun j b _ h => ?_, fun j j2 b _ _ h h2 => ?_⟩
          · obtain ⟨_, h⟩ := h; omega
          · obtain ⟨h, _⟩ := h; obtain ⟨h2, _⟩ := h2; omega
        · refine And.intro (fun u W A hW hBW hd hv hr => ?_) ?_
          · have t18 : A.eval (.tmp 18) = .pointer (some ⟨b16, 0, none⟩) := (hv 18 (by kernel_rfl)).trans (by kernel_rfl)
            clear hd hv
            have s18 := evalT t18
            clear t18
            refine fk_run ?_
            go_simp
          refine And.intro (fun u W A hW hBW hd hv hr => ?_) ?_
          · have e0 : u 0 = .pointer (some ⟨b16, 0, none⟩) := hd 0 (by decide) (by kernel_rfl)
            have t104 : A.eval (.tmp 104) = .pointer (some ⟨b16, 0, none⟩) := (hv 104 (by kernel_rfl)).trans ((by kernel_rfl : slotV _ _ _ u 104 = u 0).trans e0)
            have hW1 := below_undrew hW
            have hcl : W.cell? ⟨b16, 0, none⟩ = some (.int .i64 (i : Int)) := ((R165.out.on (HB0.out.below.trans (hW1.mono hlo5))).cell 0).trans rfl
            clear hd hv
            have s104 := evalT t104
            clear t104
            refine fk_run ?_
            go_simp
          refine And.intro (fun u W A hW hBW hd hv hr => ?_) ?_
          · have e1 : u 1 = .int .i64 (i : Int) := hd 1 (by decide) (by kernel_rfl)
            have t105 : A.eval (.tmp 105) = .int .i64 (i : Int) := (hv 105 (by kernel_rfl)).trans ((by kernel_rfl : slotV _ _ _ u 105 = u 1).trans e1)
            clear hd hv
            have s105 := evalT t105
            clear t105
            refine fk_run ?_
            go_simp
            exact IntWalk.i64_in _ (by omega)
          refine And.intro (fun u W A hW hBW hd hv hr => ?_) ?_
          · have t14 : A.eval (.tmp 14) = .int .i64 (h : Int) := (hv 14 (by kernel_rfl)).trans (by kernel_rfl)
            clear hd hv
            have s14 := evalT t14
            clear t14
            refine fk_run ?_
            go_simp
          refine And.intro (fun u W A hW hBW hd hv hr => ?_) ?_
          · have e3 : u 3 = .int .i64 (h : Int) := hd 3 (by decide) (by kernel_rfl)
            have t107 : A.eval (.tmp 107) = .int .i64 (h : Int) := (hv 107 (by kernel_rfl)).trans ((by kernel_rfl : slotV _ _ _ u 107 = u 3).trans e3)
            clear hd hv
            have s107 := evalT t107
            clear t107
            refine fk_run ?_
            go_simp
            exact wrap_powI h (by omega)
          refine And.intro (fun u W A hW hBW hd hv hr => ?_) ?_
          · have e2 : u 2 = .int .i64 ((i : Int) + 1) := hd 2 (by decide) (by kernel_rfl)
            have e4 : u 4 = .int .i64 ((2 : Int) ^ h) := hd 4 (by decide) (by kernel_rfl)
            have t106 : A.eval (.tmp 106) = .int .i64 ((i : Int) + 1) := (hv 106 (by kernel_rfl)).trans ((by kernel_rfl : slotV _ _ _ u 106 = u 2).trans e2)
            have t108 : A.eval (.tmp 108) = .int .i64 ((2 : Int) ^ h) := (hv 108 (by kernel_rfl)).trans ((by kernel_rfl : slotV _ _ _ u 108 = u 4).trans e4)
            clear hd hv
            have s106 := evalT t106
            have s108 := evalT t108
            clear t106 t108
            refine fk_run ?_
            go_simp
            have hz : ¬ ((2 : Int) ^ h = 0) := by omega
            rw [if_neg hz, Int.tmod_eq_emod_of_nonneg (by omega), HM4.out]
          refine And.intro (fun u W A hW hBW hd hv hr => ?_) ?_
          · have t20 : A.eval (.tmp 20) = .pointer (some ⟨b5, 0, none⟩) := (hv 20 (by kernel_rfl)).trans (by kernel_rfl)
            clear hd hv
            have s20 := evalT t20
            clear t20
            refine fk_run ?_
            go_simp
          refine And.intro (fun u W A hW hBW hd hv hr => ?_) ?_
          · have e5 : u 5 = .int .i64 (i2 : Int) := hd 5 (by decide) (by kernel_rfl)
            have e6 : u 6 = .pointer (some ⟨b5, 0, none⟩) := hd 6 (by decide) (by kernel_rfl)
            have t110 : A.eval (.tmp 110) = .pointer (some ⟨b5, 0, none⟩) := (hv 110 (by kernel_rfl)).trans ((by kernel_rfl : slotV _ _ _ u 110 = u 6).trans e6)
            have t109 : A.eval (.tmp 109) = .int .i64 (i2 : Int) := (hv 109 (by kernel_rfl)).trans ((by kernel_rfl : slotV _ _ _ u 109 = u 5).trans e5)
            have hW1 := below_undrew hW
            have hob5 := (hr 7 b5 (by decide) (.inl rfl) ⟨rfl, rfl⟩).trans HB0.out.blk
            have hsz : wz.heap.size ≤ W.heap.size := hW1.size
            clear hd hv
            have s110 := evalT t110
            have s109 := evalT t109
            clear t110 t109
            have hcl : W.cell? ⟨b5, 0, none⟩ = some (.int .i64 (i : Int)) := by rw [cell_of_row W b5 0 _ _ _ hob5]; rfl
            have hfz : W.frozen? ⟨b5, 0, none⟩ = false := by simp [World.frozen?, hob5]
            refine fk_store (b := b5) (i := 0) (v := .int .i64 (i2 : Int)) (by go_simp) (by omega) (.inr ⟨rfl, rfl⟩) ?_
            rw [heap_set_same W b5 0 _ _ _ _ hob5]; rfl
          exact trivial
        intro u wy hb hk2 hf
        have e7 : wy.heap[b5]? = some (.cells #[.int .i64 (i2 : Int), .slice aoq 18 cq, .slice aor h cr] 24 (0, 0)) := hf 7 (by decide) (by decide)
        have hb1 := below_undrew hb
        have hbad := HB0.out.setI (HB0.out.below.trans (hb1.mono hlo5)) hb1.size hb1.os hb1.tape hb1.output (fun q hq hne => hk2 q hq (fun _ _ h => hne h.2)) e7
        have HBX := Lib.hid hbad
        clear hf hb hk2 e7 hb1 hbad HB0
        simp only [List.take, List.drop, wpList, lexPut, Nat.zero_add, Nat.reduceAdd, Act.put, List.setIfInBounds_toArray, List.set_cons_succ, List.set_cons_zero]
        have d50 : (wy).cell? ⟨b5, 0, none⟩ = some (.int .i64 (i2 : Int)) := ((HBX.out.row).cell 0).trans rfl
        have d51 : (wy).cell? ⟨b5, 1, none⟩ = some (.slice aoq 18 cq) := ((HBX.out.row).cell 1).trans rfl
        have d52 : (wy).cell? ⟨b5, 2, none⟩ = some (.slice aor h cr) := ((HBX.out.row).cell 2).trans rfl
        have d60 : (wy).cell? ⟨b16, 0, none⟩ = some (.int .i64 (i : Int)) := ((R165.out.on HBX.out.below).cell 0).trans rfl
        have d61 : (wy).cell? ⟨b16, 1, none⟩ = some (.slice aosa 18 csa) := ((R165.out.on HBX.out.below).cell 1).trans rfl
        have d62 : (wy).cell? ⟨b16, 2, none⟩ = some (.slice aopa h cpa) := ((R165.out.on HBX.out.below).cell 2).trans rfl
        go_wp2_with fail
        have hqq := HBX.out.below
        clear d50 d51 d52 d60 d61 d62
        have H6 := Lib.hid (H5.out.trans (hqq.mono H5.out.size))
        have VSa6 := Lib.hid (VSa5.out.on hqq)
        have VPa6 := Lib.hid (VPa5.out.on hqq)
        have R166 := Lib.hid (R165.out.on hqq)
        clear hqq
        clear H5 VSa5 VPa5 R165
        generalize wy = w6 at *
        have R56 : Hid (RowIs b5 #[.int .i64 (i2 : Int), .slice aoq 18 cq, .slice aor h cr] 24 w6) := Lib.hid HBX.out.row
        have VB6 : Hid (IsStrC w6 (.slice aoq 18 cq) (sigT secret i m)) := Lib.hid HBX.out.os.strc
        have VQ6 : Hid (IsStrC w6 (.slice aor h cr) (pathT (keysT secret h) i)) := Lib.hid HBX.out.op.strc
        clear HBX
        cases hsm : same3 (i2 : Int) (i : Int) (sigT secret i m) (sigT secret i m) (pathT (keysT secret h) i) (pathT (keysT secret h) i) with
        | true =>
          have HSM := Lib.hid hsm
          clear hsm
          refine (same03_calls (i2 : Int) (i : Int) _ _ _ _ (sigT secret i m) (sigT secret i m) (pathT (keysT secret h) i) (pathT (keysT secret h) i) w6 VB6.out VSa6.out VQ6.out VPa6.out).mono ?_
          rintro e w7 ⟨rfl, hB⟩
          have H7 := Lib.hid (H6.out.trans (hB.mono H6.out.size))
          have VSa7 := Lib.hid (VSa6.out.on hB)
          have VPa7 := Lib.hid (VPa6.out.on hB)
          have R167 := Lib.hid (R166.out.on hB)
          have R57 := Lib.hid (R56.out.on hB)
          have VB7 := Lib.hid (VB6.out.on hB)
          have VQ7 := Lib.hid (VQ6.out.on hB)
          clear hB H6 VSa6 VPa6 R166 R56 VB6 VQ6
          rw [HSM.out]
          go_wp2
          go_ret
          exact ⟨rfl, H7.out⟩
        | false =>
          have HSM := Lib.hid hsm
          have hch : ((i2 : Int) = (i : Int) ∧ ¬ ((sigT secret i m) = sigT secret i m ∧ (pathT (keysT secret h) i) = pathT (keysT secret h) i)) ∨ (((i2 : Nat) : Int).toNat ≠ i ∧ (sigT secret i m) = sigT secret i m) := by
            by_cases he : i2 = i
            · exact absurd HSM.out (by rw [he, same3_refl]; decide)
            · exact .inr ⟨by rw [Int.toNat_natCast]; exact he, rfl⟩
          clear hsm
          cases hv : verT (pubT secret h) m (i2 : Int) (sigT secret i m) (pathT (keysT secret h) i) with
          | false =>
            have HV := Lib.hid hv
            clear hv hch
            refine (same03_calls (i2 : Int) (i : Int) _ _ _ _ (sigT secret i m) (sigT secret i m) (pathT (keysT secret h) i) (pathT (keysT secret h) i) w6 VB6.out VSa6.out VQ6.out VPa6.out).mono ?_
            rintro e w7 ⟨rfl, hB⟩
            have H7 := Lib.hid (H6.out.trans (hB.mono H6.out.size))
            have VSa7 := Lib.hid (VSa6.out.on hB)
            have VPa7 := Lib.hid (VPa6.out.on hB)
            have R167 := Lib.hid (R166.out.on hB)
            have R57 := Lib.hid (R56.out.on hB)
            have VB7 := Lib.hid (VB6.out.on hB)
            have VQ7 := Lib.hid (VQ6.out.on hB)
            clear hB H6 VSa6 VPa6 R166 R56 VB6 VQ6
            rw [HSM.out]
            have c50 : w7.cell? ⟨b5, 0, none⟩ = some (.int .i64 (i2 : Int)) := (R57.out.cell 0).trans rfl
            have c51 : w7.cell? ⟨b5, 1, none⟩ = some (.slice aoq 18 cq) := (R57.out.cell 1).trans rfl
            have c52 : w7.cell? ⟨b5, 2, none⟩ = some (.slice aor h cr) := (R57.out.cell 2).trans rfl
            go_wp2_with fail
            refine (verify_calls (pubT secret h) m (i2 : Int) _ _ (sigT secret i m) (pathT (keysT secret h) i) w7 (by have := HRS.out; omega) (by omega) VB7.out VQ7.out HSZ2.out HPZ2.out (HT.out.on H7.out)).mono ?_
            rintro e w8 ⟨rfl, hB⟩
            clear c50 c51 c52
            have H8 := Lib.hid (H7.out.trans (hB.mono H7.out.size))
            have VSa8 := Lib.hid (VSa7.out.on hB)
            have VPa8 := Lib.hid (VPa7.out.on hB)
            have R168 := Lib.hid (R167.out.on hB)
            have R58 := Lib.hid (R57.out.on hB)
            have VB8 := Lib.hid (VB7.out.on hB)
            have VQ8 := Lib.hid (VQ7.out.on hB)
            clear hB H7 VSa7 VPa7 R167 R57 VB7 VQ7
            rw [HV.out]
            go_wp2
            go_ret
            exact ⟨rfl, H8.out⟩
          | true =>
            have HV := Lib.hid hv
            have hcl := seal_changes HI.out hch hv
            rw [Int.toNat_natCast] at hcl
            have HCL := Lib.hid hcl
            have h16 := checked_16 hv
            have HB16 := Lib.hid h16.1
            have HQ16 := Lib.hid h16.2
            have HZ2 := Lib.hid (checkedT_size m (i2) h16.1 h16.2)
            have HL2 := Lib.hid (checkedT_len m (i2) (sigT secret i m) (pathT (keysT secret h) i) HPL2.out)
            clear hv hch hcl h16
            refine (same03_calls (i2 : Int) (i : Int) _ _ _ _ (sigT secret i m) (sigT secret i m) (pathT (keysT secret h) i) (pathT (keysT secret h) i) w6 VB6.out VSa6.out VQ6.out VPa6.out).mono ?_
            rintro e w7 ⟨rfl, hB⟩
            have H7 := Lib.hid (H6.out.trans (hB.mono H6.out.size))
            have VSa7 := Lib.hid (VSa6.out.on hB)
            have VPa7 := Lib.hid (VPa6.out.on hB)
            have R167 := Lib.hid (R166.out.on hB)
            have R57 := Lib.hid (R56.out.on hB)
            have VB7 := Lib.hid (VB6.out.on hB)
            have VQ7 := Lib.hid (VQ6.out.on hB)
            clear hB H6 VSa6 VPa6 R166 R56 VB6 VQ6
            rw [HSM.out]
            have c50 : w7.cell? ⟨b5, 0, none⟩ = some (.int .i64 (i2 : Int)) := (R57.out.cell 0).trans rfl
            have c51 : w7.cell? ⟨b5, 1, none⟩ = some (.slice aoq 18 cq) := (R57.out.cell 1).trans rfl
            have c52 : w7.cell? ⟨b5, 2, none⟩ = some (.slice aor h cr) := (R57.out.cell 2).trans rfl
            go_wp2_with fail
            refine (verify_calls (pubT secret h) m (i2 : Int) _ _ (sigT secret i m) (pathT (keysT secret h) i) w7 (by have := HRS.out; omega) (by omega) VB7.out VQ7.out HSZ2.out HPZ2.out (HT.out.on H7.out)).mono ?_
            rintro e w8 ⟨rfl, hB⟩
            clear c50 c51 c52
            have H8 := Lib.hid (H7.out.trans (hB.mono H7.out.size))
            have VSa8 := Lib.hid (VSa7.out.on hB)
            have VPa8 := Lib.hid (VPa7.out.on hB)
            have R168 := Lib.hid (R167.out.on hB)
            have R58 := Lib.hid (R57.out.on hB)
            have VB8 := Lib.hid (VB7.out.on hB)
            have VQ8 := Lib.hid (VQ7.out.on hB)
            clear hB H7 VSa7 VPa7 R167 R57 VB7 VQ7
            rw [HV.out]
            go_wp2_with fail
            refine wp_region_res 12 (w8.heap.size) (fun ii u => [valF (.bool true), valF (.bool true), valF (.string secret), valF (.int .i64 (h : Int)), OwnF w8.heap.size (madeT secret h 15), valF (.string m), valF (.agg #[.int .i64 (i2 : Int), .slice aoq 18 cq, .slice aor h cr]), OwnF w8.heap.size (checkedT m (i2) (sigT secret i m) (pathT (keysT secret h) i)), OwnF w8.heap.size (madeT secret h 15 ++ checkedT m (i2) (sigT secret i m) (pathT (keysT secret h) i)), valF (.bool true), valF (.bool true), valF (.bool true)].getD ii anyF) (fun jj ii => (jj == 8 && ii == 4)) (fun jj bb => False) (by kernel_rfl) (by kernel_rfl) (by kernel_rfl) (by kernel_rfl) (by kernel_rfl) (Nat.le_refl _) ?_ ?_ ?_ ?_ ?_
            · intro ii u hii
              refine AllKStable.at ?_ ii
              exact ⟨.inl (valF_stable _ _), .inl (valF_stable _ _), .inl (valF_stable _ _), .inl (valF_stable _ _), .inl (ownF_st _ _ _), .inl (valF_stable _ _), .inl (valF_stable _ _), .inl (ownF_st _ _ _), .inl (ownF_st _ _ _), .inl (valF_stable _ _), .inl (valF_stable _ _), .inl (valF_stable _ _), trivial⟩
            · exact fun _ _ _ _ _ => rfl
            · exact ⟨fun _ _ _ h => h.elim, fun _ _ _ _ _ h => h.elim⟩
            · refine And.intro (fun u W A hW hBW hd hv hr => ?_) ?_
              · have t13 : A.eval (.tmp 13) = .bool true := (hv 13 (by kernel_rfl)).trans (by kernel_rfl)
                clear hd hv
                have s13 := evalT t13
                clear t13
                refine fk_run ?_
                go_simp
              refine And.intro (fun u W A hW hBW hd hv hr => ?_) ?_
              · have e0 : u 0 = .bool true := hd 0 (by decide) (by kernel_rfl)
                have t122 : A.eval (.tmp 122) = .bool true := (hv 122 (by kernel_rfl)).trans ((by kernel_rfl : slotV _ _ _ u 122 = u 0).trans e0)
                clear hd hv
                have s122 := evalT t122
                clear t122
                refine fk_run ?_
                go_simp
              refine And.intro (fun u W A hW hBW hd hv hr => ?_) ?_
              · have e1 : u 1 = .bool true := hd 1 (by decide) (by kernel_rfl)
                have t0 : A.eval (.tmp 0) = .string secret := (hv 0 (by kernel_rfl)).trans (by kernel_rfl)
                clear hd hv
                have s0 := evalT t0
                clear t0
                refine Or.inl ⟨e1, ?_⟩
                refine fk_run ?_
                go_simp
              refine And.intro (fun u W A hW hBW hd hv hr => ?_) ?_
              · have e1 : u 1 = .bool true := hd 1 (by decide) (by kernel_rfl)
                have t14 : A.eval (.tmp 14) = .int .i64 (h : Int) := (hv 14 (by kernel_rfl)).trans (by kernel_rfl)
                clear hd hv
                have s14 := evalT t14
                clear t14
                refine Or.inl ⟨e1, ?_⟩
                refine fk_run ?_
                go_simp
              refine And.intro (fun u W A hW hBW hd hv hr => ?_) ?_
              · have e1 : u 1 = .bool true := hd 1 (by decide) (by kernel_rfl)
                have e2 : u 2 = .string secret := hd 2 (by decide) (by kernel_rfl)
                have e3 : u 3 = .int .i64 (h : Int) := hd 3 (by decide) (by kernel_rfl)
                have t124 : A.eval (.tmp 124) = .string secret := (hv 124 (by kernel_rfl)).trans ((by kernel_rfl : slotV _ _ _ u 124 = u 2).trans e2)
                have t125 : A.eval (.tmp 125) = .int .i64 (h : Int) := (hv 125 (by kernel_rfl)).trans ((by kernel_rfl : slotV _ _ _ u 125 = u 3).trans e3)
                have hW1 := below_undrew hW
                clear hd hv
                have s124 := evalT t124
                have s125 := evalT t125
                clear t124 t125
                refine Or.inl ⟨e1, ?_⟩
                refine fk_enter (f := 18) (args := #[.string secret, .int .i64 (h : Int), .int .i64 15]) (by go_simp) (fk_own hBW ?_)
                exact made_calls secret h 15 W hs3 (by omega) (by decide) (by decide) (HT.out.on (H8.out.trans (hW1.mono H8.out.size)))
              refine And.intro (fun u W A hW hBW hd hv hr => ?_) ?_
              · have e1 : u 1 = .bool true := hd 1 (by decide) (by kernel_rfl)
                have t3 : A.eval (.tmp 3) = .string m := (hv 3 (by kernel_rfl)).trans (by kernel_rfl)
                clear hd hv
                have s3 := evalT t3
                clear t3
                refine Or.inl ⟨e1, ?_⟩
                refine fk_run ?_
                go_simp
              refine And.intro (fun u W A hW hBW hd hv hr => ?_) ?_
              · have e1 : u 1 = .bool true := hd 1 (by decide) (by kernel_rfl)
                have t20 : A.eval (.tmp 20) = .pointer (some ⟨b5, 0, none⟩) := (hv 20 (by kernel_rfl)).trans (by kernel_rfl)
                have hW1 := below_undrew hW
                have hcl0 : W.cell? ⟨b5, 0, none⟩ = some (.int .i64 (i2 : Int)) := ((R58.out.on hW1).cell 0).trans rfl
                have hcl1 : W.cell? ⟨b5, 1, none⟩ = some (.slice aoq 18 cq) := ((R58.out.on hW1).cell 1).trans rfl
                have hcl2 : W.cell? ⟨b5, 2, none⟩ = some (.slice aor h cr) := ((R58.out.on hW1).cell 2).trans rfl
                clear hd hv
                have s20 := evalT t20
                clear t20
                refine Or.inl ⟨e1, ?_⟩
                refine fk_run ?_
                go_simp
              refine And.intro (fun u W A hW hBW hd hv hr => ?_) ?_
              · have e1 : u 1 = .bool true := hd 1 (by decide) (by kernel_rfl)
                have e5 : u 5 = .string m := hd 5 (by decide) (by kernel_rfl)
                have e6 : u 6 = .agg #[.int .i64 (i2 : Int), .slice aoq 18 cq, .slice aor h cr] := hd 6 (by decide) (by kernel_rfl)
                have t127 : A.eval (.tmp 127) = .string m := (hv 127 (by kernel_rfl)).trans ((by kernel_rfl : slotV _ _ _ u 127 = u 5).trans e5)
                have t128 : A.eval (.tmp 128) = .agg #[.int .i64 (i2 : Int), .slice aoq 18 cq, .slice aor h cr] := (hv 128 (by kernel_rfl)).trans ((by kernel_rfl : slotV _ _ _ u 128 = u 6).trans e6)
                have hW1 := below_undrew hW
                clear hd hv
                have s127 := evalT t127
                have s128 := evalT t128
                clear t127 t128
                refine Or.inl ⟨e1, ?_⟩
                refine fk_enter (f := 19) (args := #[.string m, .agg #[.int .i64 (i2 : Int), .slice aoq 18 cq, .slice aor h cr]]) (by go_simp) (fk_own hBW ?_)
                exact checked_calls m (i2) _ _ (sigT secret i m) (pathT (keysT secret h) i) W (by omega) (by omega) (VB8.out.on hW1) (VQ8.out.on hW1) HSL2.out HPL2.out HB16.out HQ16.out (HT.out.on (H8.out.trans (hW1.mono H8.out.size)))
              refine And.intro (fun u W A hW hBW hd hv hr => ?_) ?_
              · have e1 : u 1 = .bool true := hd 1 (by decide) (by kernel_rfl)
                have e4 : Own w8.heap.size W (u 4) (madeT secret h 15) := hd 4 (by decide) (by kernel_rfl)
                have e7 : Own w8.heap.size W (u 7) (checkedT m (i2) (sigT secret i m) (pathT (keysT secret h) i)) := hd 7 (by decide) (by kernel_rfl)
                have t126 : A.eval (.tmp 126) = u 4 := (hv 126 (by kernel_rfl)).trans (by kernel_rfl)
                have t129 : A.eval (.tmp 129) = u 7 := (hv 129 (by kernel_rfl)).trans (by kernel_rfl)
                have hW1 := below_undrew hW
                clear hd hv
                refine Or.inl ⟨e1, ?_⟩
                exact fk_append (.tmp 126) (.tmp 129) rfl t126 t129 e4 e7.strc hBW (by have := HL1.out; have := HL2.out; omega) (fun c hc => .inl ⟨4, by decide, by decide, hc⟩)
              refine And.intro (fun u W A hW hBW hd hv hr => ?_) ?_
              · have e1 : u 1 = .bool true := hd 1 (by decide) (by kernel_rfl)
                have e8 : Own w8.heap.size W (u 8) (madeT secret h 15 ++ checkedT m (i2) (sigT secret i m) (pathT (keysT secret h) i)) := hd 8 (by decide) (by kernel_rfl)
                have t130 : A.eval (.tmp 130) = u 8 := (hv 130 (by kernel_rfl)).trans (by kernel_rfl)
                have hW1 := below_undrew hW
                clear hd hv
                have s130 := evalT t130
                clear t130
                refine Or.inl ⟨e1, ?_⟩
                refine fk_enter (f := 17) (args := #[u 8]) (by go_simp) (fk_val ?_)
                exact shown_calls (madeT secret h 15 ++ checkedT m (i2) (sigT secret i m) (pathT (keysT secret h) i)) _ W e8.strc (fun s hs => (List.mem_append.1 hs).elim (HZ1.out s) (HZ2.out s)) (by rw [List.length_append]; have := HL1.out; have := HL2.out; omega) HCL.out
              refine And.intro (fun u W A hW hBW hd hv hr => ?_) ?_
              · have e1 : u 1 = .bool true := hd 1 (by decide) (by kernel_rfl)
                have e9 : u 9 = .bool true := hd 9 (by decide) (by kernel_rfl)
                have t123 : A.eval (.tmp 123) = .bool true := (hv 123 (by kernel_rfl)).trans ((by kernel_rfl : slotV _ _ _ u 123 = u 1).trans e1)
                have t131 : A.eval (.tmp 131) = .bool true := (hv 131 (by kernel_rfl)).trans ((by kernel_rfl : slotV _ _ _ u 131 = u 9).trans e9)
                clear hd hv
                have s123 := evalT t123
                have s131 := evalT t131
                clear t123 t131
                refine fk_run ?_
                go_simp
              refine And.intro (fun u W A hW hBW hd hv hr => ?_) ?_
              · have e10 : u 10 = .bool true := hd 10 (by decide) (by kernel_rfl)
                have t132 : A.eval (.tmp 132) = .bool true := (hv 132 (by kernel_rfl)).trans ((by kernel_rfl : slotV _ _ _ u 132 = u 10).trans e10)
                clear hd hv
                have s132 := evalT t132
                clear t132
                refine fk_run ?_
                go_simp
              exact trivial
            intro u w9 hb hk2 hf
            have e11 : u 11 = .bool true := hf 11 (by decide) (by decide)
            have hb1 := below_undrew hb
            clear hf hb hk2
            have H9 := Lib.hid (H8.out.trans (hb1.mono H8.out.size))
            have VSa9 := Lib.hid (VSa8.out.on hb1)
            have VPa9 := Lib.hid (VPa8.out.on hb1)
            have R169 := Lib.hid (R168.out.on hb1)
            have R59 := Lib.hid (R58.out.on hb1)
            have VB9 := Lib.hid (VB8.out.on hb1)
            have VQ9 := Lib.hid (VQ8.out.on hb1)
            clear hb1
            clear H8 VSa8 VPa8 R168 R58 VB8 VQ8
            generalize w9 = w9 at *
            simp only [List.take, List.drop, wpList, lexPut, Nat.zero_add, Nat.reduceAdd, e11, Act.put, List.setIfInBounds_toArray, List.set_cons_succ, List.set_cons_zero]
            clear e11
            go_wp2
            go_ret
            exact ⟨rfl, H9.out⟩
namespace sealChanges
theorem walk {w : World} (hT : Tabs w) (s : ByteArray) (ws : s.size ≤ maxLen) (a : Int) (wa : (Lit.int .u8 a).wf = true) (b : Int) (wb : (Lit.int .u8 b).wf = true) (m : ByteArray) (wm : m.size ≤ maxLen) (c : Int) (wc : (Lit.int .u8 c).wf = true) (x : ByteArray) (wx : x.size ≤ maxLen) :
    Calls Tryz.prog 6 #[.string s, .int .u8 a, .int .u8 b, .string m, .int .u8 c, .string x] w fun e w' => e = .returned (.bool true) ∧ Below w.heap.size w w' := by
  have h1 : 0 ≤ a ∧ a ≤ 255 := by simpa [Lit.wf, IntKind.min, IntKind.max, IntKind.signed, IntKind.bits] using wa
  have h2 : 0 ≤ b ∧ b ≤ 255 := by simpa [Lit.wf, IntKind.min, IntKind.max, IntKind.signed, IntKind.bits] using wb
  have h3 : 0 ≤ c ∧ c ≤ 255 := by simpa [Lit.wf, IntKind.min, IntKind.max, IntKind.signed, IntKind.bits] using wc
  obtain ⟨r, rfl⟩ := Int.eq_ofNat_of_zero_le h1.1
  obtain ⟨q, rfl⟩ := Int.eq_ofNat_of_zero_le h2.1
  obtain ⟨p, rfl⟩ := Int.eq_ofNat_of_zero_le h3.1
  exact changes03_law s m x r q p w ws wm wx (by omega) (by omega) (by omega) hT
end sealChanges
end Go.Proofs.YtpogffdbencfnaaGreatDoor
