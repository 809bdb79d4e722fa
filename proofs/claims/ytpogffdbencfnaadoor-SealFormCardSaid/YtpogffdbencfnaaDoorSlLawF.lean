import Derived.Test.YtpogffdbencfnaaDoorSlLawV
import Derived.Test.YtpogffdbencfnaaDoorSlOpn
set_option linter.unusedVariables false
namespace Go.Proofs.YtpogffdbencfnaaDoor
open Go Go.RowKit

theorem RowIs.le {b : Nat} {cs : Array Value} {T : TypeId} {w : World} (h : RowIs b cs T w) : b < w.heap.size := h.1
theorem form_facts {pub m : ByteArray} {idx : Int} {sig path : List ByteArray} (h : verT pub m idx sig path = true) :
    sig.length = 18 ∧ path.length ≤ 8 ∧ (∀ s ∈ sig, isS s = true) ∧ (∀ s ∈ path, isS s = true) ∧ 0 ≤ idx ∧ idx < ((2 ^ path.length : Nat) : Int) := by
  unfold verT at h
  simp only [Bool.and_eq_true, decide_eq_true_eq, List.all_eq_true] at h
  obtain ⟨⟨⟨⟨⟨⟨h1, h2⟩, h3⟩, h4⟩, h5⟩, h6⟩, _⟩ := h
  exact ⟨h1, h2, h3, h4, h5, h6⟩
set_option maxRecDepth 100000 in
set_option maxHeartbeats 8000000 in
theorem form_law (pub m : ByteArray) (idx : Int) (vs vp : Value) (sig path : List ByteArray) (w : World) (hpub : pub.size ≤ 9223372036854775807) (hm : m.size ≤ 9223372036854775807) (hs : IsStrC w vs sig) (hp : IsStrC w vp path)
    (hss : ∀ s ∈ sig, s.size ≤ 9223372036854775807) (hps : ∀ s ∈ path, s.size ≤ 9223372036854775807) (hT : Tabs w) :
    Calls Tryd.prog 5 #[.string pub, .string m, .agg #[.int .i64 idx, vs, vp]] w (HeadPost w) := by
  have HT := Lib.hid hT
  have HSS := Lib.hid hss
  have HPS := Lib.hid hps
  obtain ⟨aos, cs, rfl⟩ := strc_form hs
  obtain ⟨aop, cp, rfl⟩ := strc_form hp
  obtain ⟨ls, hls⟩ : ∃ ls, ls = sig.length := ⟨_, rfl⟩
  obtain ⟨lp, hlp⟩ : ∃ lp, lp = path.length := ⟨_, rfl⟩
  rw [← hls] at hs ⊢
  rw [← hlp] at hp ⊢
  have HLS := Lib.hid hls
  have HLP := Lib.hid hlp
  have HVS := Lib.hid hs
  have HVP := Lib.hid hp
  clear hT hss hps hs hp hls hlp
  cases hsh : shortB [pub, m] with
  | false =>
    have HSH := Lib.hid hsh
    clear hsh
    have H0 : Hid (Below w.heap.size w w) := Lib.hid (Below.refl w.heap.size w)
    go_enter Tryd.func5, Tryd.ntmps5
    have WS0 := Lib.hid (HVS.out)
    have WP0 := Lib.hid (HVP.out)
    go_wp2_with fail
    have hq : Below w.heap.size w (w.alloc (.cells #[.int .i64 idx, .slice aos ls cs, .slice aop lp cp] 29)) := (Below.refl _ _).alloc (Nat.le_refl _) _
    have H1 := Lib.hid (H0.out.trans (hq.mono H0.out.size))
    have WS1 := Lib.hid (WS0.out.on hq)
    have WP1 := Lib.hid (WP0.out.on hq)
    have R51 := Lib.hid (RowIs.new w #[.int .i64 idx, .slice aos ls cs, .slice aop lp cp] 29)
    obtain ⟨b5, hb5⟩ : ∃ b, b = w.heap.size := ⟨_, rfl⟩
    rw [← hb5] at R51 ⊢
    have Z5 : Hid ((w.alloc (.cells #[.int .i64 idx, .slice aos ls cs, .slice aop lp cp] 29)).heap.size = b5 + 1) := Lib.hid (by rw [World.size_alloc, hb5])
    generalize hgw : w.alloc (.cells #[.int .i64 idx, .slice aos ls cs, .slice aop lp cp] 29) = w1 at *
    clear hq hgw hb5 H0 WS0 WP0
    refine (head_calls w1 (HT.out.on H1.out)).mono ?_
    rintro e w2 ⟨rfl, hB⟩
    have H2 := Lib.hid (H1.out.trans (hB.mono H1.out.size))
    have WS2 := Lib.hid (WS1.out.on hB)
    have WP2 := Lib.hid (WP1.out.on hB)
    have R52 := Lib.hid (R51.out.on hB)
    clear hB H1 WS1 WP1 R51
    go_wp2_with fail
    refine (short2_calls pub m w2 hpub hm).mono ?_
    rintro e w3 ⟨rfl, hB⟩
    have H3 := Lib.hid (H2.out.trans (hB.mono H2.out.size))
    have WS3 := Lib.hid (WS2.out.on hB)
    have WP3 := Lib.hid (WP2.out.on hB)
    have R53 := Lib.hid (R52.out.on hB)
    clear hB H2 WS2 WP2 R52
    rw [HSH.out]
    go_wp2
    go_ret
    exact ⟨rfl, H3.out⟩
  | true =>
    have hsz := short_sz hsh
    have hpub3 : pub.size ≤ 300 := hsz pub (by simp)
    have hm3 : m.size ≤ 300 := hsz m (by simp)
    have HSH := Lib.hid hsh
    clear hsh hsz
    cases hfw : fewS sig path with
    | false =>
      have HFW := Lib.hid hfw
      clear hfw
      have H0 : Hid (Below w.heap.size w w) := Lib.hid (Below.refl w.heap.size w)
      go_enter Tryd.func5, Tryd.ntmps5
      have WS0 := Lib.hid (HVS.out)
      have WP0 := Lib.hid (HVP.out)
      go_wp2_with fail
      have hq : Below w.heap.size w (w.alloc (.cells #[.int .i64 idx, .slice aos ls cs, .slice aop lp cp] 29)) := (Below.refl _ _).alloc (Nat.le_refl _) _
      have H1 := Lib.hid (H0.out.trans (hq.mono H0.out.size))
      have WS1 := Lib.hid (WS0.out.on hq)
      have WP1 := Lib.hid (WP0.out.on hq)
      have R51 := Lib.hid (RowIs.new w #[.int .i64 idx, .slice aos ls cs, .slice aop lp cp] 29)
      obtain ⟨b5, hb5⟩ : ∃ b, b = w.heap.size := ⟨_, rfl⟩
      rw [← hb5] at R51 ⊢
      have Z5 : Hid ((w.alloc (.cells #[.int .i64 idx, .slice aos ls cs, .slice aop lp cp] 29)).heap.size = b5 + 1) := Lib.hid (by rw [World.size_alloc, hb5])
      generalize hgw : w.alloc (.cells #[.int .i64 idx, .slice aos ls cs, .slice aop lp cp] 29) = w1 at *
      clear hq hgw hb5 H0 WS0 WP0
      refine (head_calls w1 (HT.out.on H1.out)).mono ?_
      rintro e w2 ⟨rfl, hB⟩
      have H2 := Lib.hid (H1.out.trans (hB.mono H1.out.size))
      have WS2 := Lib.hid (WS1.out.on hB)
      have WP2 := Lib.hid (WP1.out.on hB)
      have R52 := Lib.hid (R51.out.on hB)
      clear hB H1 WS1 WP1 R51
      go_wp2_with fail
      refine (short2_calls pub m w2 hpub hm).mono ?_
      rintro e w3 ⟨rfl, hB⟩
      have H3 := Lib.hid (H2.out.trans (hB.mono H2.out.size))
      have WS3 := Lib.hid (WS2.out.on hB)
      have WP3 := Lib.hid (WP2.out.on hB)
      have R53 := Lib.hid (R52.out.on hB)
      clear hB H2 WS2 WP2 R52
      rw [HSH.out]
      have c50 : w3.cell? ⟨b5, 0, none⟩ = some (.int .i64 idx) := (R53.out.cell 0).trans rfl
      have c51 : w3.cell? ⟨b5, 1, none⟩ = some (.slice aos ls cs) := (R53.out.cell 1).trans rfl
      have c52 : w3.cell? ⟨b5, 2, none⟩ = some (.slice aop lp cp) := (R53.out.cell 2).trans rfl
      go_wp2_with fail
      refine (few03_calls idx _ _ sig path w3 WS3.out WP3.out HSS.out HPS.out).mono ?_
      rintro e w4 ⟨rfl, hB⟩
      clear c50 c51 c52
      have H4 := Lib.hid (H3.out.trans (hB.mono H3.out.size))
      have WS4 := Lib.hid (WS3.out.on hB)
      have WP4 := Lib.hid (WP3.out.on hB)
      have R54 := Lib.hid (R53.out.on hB)
      clear hB H3 WS3 WP3 R53
      rw [HFW.out]
      go_wp2
      go_ret
      exact ⟨rfl, H4.out⟩
    | true =>
      obtain ⟨hf1, hf2, hf3, hf4⟩ := few_facts hfw
      have HFW := Lib.hid hfw
      have HSZ : Hid (∀ s ∈ sig, s.size ≤ 1099511627776) := Lib.hid (fun s hs => Nat.le_trans (hf3 s hs) (by decide))
      have HPZ : Hid (∀ s ∈ path, s.size ≤ 1099511627776) := Lib.hid (fun s hs => Nat.le_trans (hf4 s hs) (by decide))
      clear hfw hf1 hf2 hf3 hf4
      cases hv : verT pub m idx sig path with
      | false =>
        have HV := Lib.hid hv
        clear hv
        have H0 : Hid (Below w.heap.size w w) := Lib.hid (Below.refl w.heap.size w)
        go_enter Tryd.func5, Tryd.ntmps5
        have WS0 := Lib.hid (HVS.out)
        have WP0 := Lib.hid (HVP.out)
        go_wp2_with fail
        have hq : Below w.heap.size w (w.alloc (.cells #[.int .i64 idx, .slice aos ls cs, .slice aop lp cp] 29)) := (Below.refl _ _).alloc (Nat.le_refl _) _
        have H1 := Lib.hid (H0.out.trans (hq.mono H0.out.size))
        have WS1 := Lib.hid (WS0.out.on hq)
        have WP1 := Lib.hid (WP0.out.on hq)
        have R51 := Lib.hid (RowIs.new w #[.int .i64 idx, .slice aos ls cs, .slice aop lp cp] 29)
        obtain ⟨b5, hb5⟩ : ∃ b, b = w.heap.size := ⟨_, rfl⟩
        rw [← hb5] at R51 ⊢
        have Z5 : Hid ((w.alloc (.cells #[.int .i64 idx, .slice aos ls cs, .slice aop lp cp] 29)).heap.size = b5 + 1) := Lib.hid (by rw [World.size_alloc, hb5])
        generalize hgw : w.alloc (.cells #[.int .i64 idx, .slice aos ls cs, .slice aop lp cp] 29) = w1 at *
        clear hq hgw hb5 H0 WS0 WP0
        refine (head_calls w1 (HT.out.on H1.out)).mono ?_
        rintro e w2 ⟨rfl, hB⟩
        have H2 := Lib.hid (H1.out.trans (hB.mono H1.out.size))
        have WS2 := Lib.hid (WS1.out.on hB)
        have WP2 := Lib.hid (WP1.out.on hB)
        have R52 := Lib.hid (R51.out.on hB)
        clear hB H1 WS1 WP1 R51
        go_wp2_with fail
        refine (short2_calls pub m w2 hpub hm).mono ?_
        rintro e w3 ⟨rfl, hB⟩
        have H3 := Lib.hid (H2.out.trans (hB.mono H2.out.size))
        have WS3 := Lib.hid (WS2.out.on hB)
        have WP3 := Lib.hid (WP2.out.on hB)
        have R53 := Lib.hid (R52.out.on hB)
        clear hB H2 WS2 WP2 R52
        rw [HSH.out]
        have c50 : w3.cell? ⟨b5, 0, none⟩ = some (.int .i64 idx) := (R53.out.cell 0).trans rfl
        have c51 : w3.cell? ⟨b5, 1, none⟩ = some (.slice aos ls cs) := (R53.out.cell 1).trans rfl
        have c52 : w3.cell? ⟨b5, 2, none⟩ = some (.slice aop lp cp) := (R53.out.cell 2).trans rfl
        go_wp2_with fail
        refine (few03_calls idx _ _ sig path w3 WS3.out WP3.out HSS.out HPS.out).mono ?_
        rintro e w4 ⟨rfl, hB⟩
        clear c50 c51 c52
        have H4 := Lib.hid (H3.out.trans (hB.mono H3.out.size))
        have WS4 := Lib.hid (WS3.out.on hB)
        have WP4 := Lib.hid (WP3.out.on hB)
        have R54 := Lib.hid (R53.out.on hB)
        clear hB H3 WS3 WP3 R53
        rw [HFW.out]
        have c50 : w4.cell? ⟨b5, 0, none⟩ = some (.int .i64 idx) := (R54.out.cell 0).trans rfl
        have c51 : w4.cell? ⟨b5, 1, none⟩ = some (.slice aos ls cs) := (R54.out.cell 1).trans rfl
        have c52 : w4.cell? ⟨b5, 2, none⟩ = some (.slice aop lp cp) := (R54.out.cell 2).trans rfl
        go_wp2_with fail
        refine (verify_calls pub m idx _ _ sig path w4 (by omega) (by omega) WS4.out WP4.out HSZ.out HPZ.out (HT.out.on H4.out)).mono ?_
        rintro e w5 ⟨rfl, hB⟩
        clear c50 c51 c52
        have H5 := Lib.hid (H4.out.trans (hB.mono H4.out.size))
        have WS5 := Lib.hid (WS4.out.on hB)
        have WP5 := Lib.hid (WP4.out.on hB)
        have R55 := Lib.hid (R54.out.on hB)
        clear hB H4 WS4 WP4 R54
        rw [HV.out]
        go_wp2
        go_ret
        exact ⟨rfl, H5.out⟩
      | true =>
        have HV := Lib.hid hv
        have HPI := Lib.hid (ver_root hv)
        have hpub16 := isS_size (ver_root hv)
        obtain ⟨h1, h2, h3, h4, h5, h6⟩ := form_facts hv
        have HSL := Lib.hid h1
        have HPL : Hid (path.length = lp) := Lib.hid HLP.out.symm
        have hl18 : 18 = ls := by have := HLS.out; omega
        subst hl18
        rw [HPL.out] at h2 h6
        obtain ⟨hp0, hp1, hpe⟩ := pow_facts lp h2
        rw [hpe] at h6
        have HSI : Hid (∀ k, k < 18 → isS (sig.getD k ByteArray.empty) = true ∧ (sig.getD k ByteArray.empty).size ≤ 4611686018427387904) := Lib.hid (fun k hk => at_is h3 k (by rw [HSL.out]; exact hk))
        have HPX : Hid (∀ k, k < lp → isS (path.getD k ByteArray.empty) = true ∧ (path.getD k ByteArray.empty).size ≤ 4611686018427387904) := Lib.hid (fun k hk => at_is h4 k (by rw [HPL.out]; exact hk))
        have HLESS : Hid (verT pub m idx (sig.take 17) path = false) := Lib.hid (form_less (by rw [List.length_take, HSL.out]; decide))
        have HFAR : Hid (verT pub m (idx + (2 : Int) ^ lp) sig path = false) := Lib.hid (form_far (by rw [HPL.out, hpe]; omega))
        have HBEL : Hid (verT pub m (idx - (2 : Int) ^ lp) sig path = false) := Lib.hid (form_far (by rw [HPL.out, hpe]; omega))
        have HWI := Lib.hid (wrap_powI lp (by omega))
        clear hv h1 h3 h4 hpe
        have H0 : Hid (Below w.heap.size w w) := Lib.hid (Below.refl w.heap.size w)
        go_enter Tryd.func5, Tryd.ntmps5
        have WS0 := Lib.hid (HVS.out)
        have WP0 := Lib.hid (HVP.out)
        go_wp2_with fail
        have hq : Below w.heap.size w (w.alloc (.cells #[.int .i64 idx, .slice aos 18 cs, .slice aop lp cp] 29)) := (Below.refl _ _).alloc (Nat.le_refl _) _
        have H1 := Lib.hid (H0.out.trans (hq.mono H0.out.size))
        have WS1 := Lib.hid (WS0.out.on hq)
        have WP1 := Lib.hid (WP0.out.on hq)
        have R51 := Lib.hid (RowIs.new w #[.int .i64 idx, .slice aos 18 cs, .slice aop lp cp] 29)
        obtain ⟨b5, hb5⟩ : ∃ b, b = w.heap.size := ⟨_, rfl⟩
        rw [← hb5] at R51 ⊢
        have Z5 : Hid ((w.alloc (.cells #[.int .i64 idx, .slice aos 18 cs, .slice aop lp cp] 29)).heap.size = b5 + 1) := Lib.hid (by rw [World.size_alloc, hb5])
        generalize hgw : w.alloc (.cells #[.int .i64 idx, .slice aos 18 cs, .slice aop lp cp] 29) = w1 at *
        clear hq hgw hb5 H0 WS0 WP0
        refine (head_calls w1 (HT.out.on H1.out)).mono ?_
        rintro e w2 ⟨rfl, hB⟩
        have H2 := Lib.hid (H1.out.trans (hB.mono H1.out.size))
        have WS2 := Lib.hid (WS1.out.on hB)
        have WP2 := Lib.hid (WP1.out.on hB)
        have R52 := Lib.hid (R51.out.on hB)
        clear hB H1 WS1 WP1 R51
        go_wp2_with fail
        refine (short2_calls pub m w2 hpub hm).mono ?_
        rintro e w3 ⟨rfl, hB⟩
        have H3 := Lib.hid (H2.out.trans (hB.mono H2.out.size))
        have WS3 := Lib.hid (WS2.out.on hB)
        have WP3 := Lib.hid (WP2.out.on hB)
        have R53 := Lib.hid (R52.out.on hB)
        clear hB H2 WS2 WP2 R52
        rw [HSH.out]
        have c50 : w3.cell? ⟨b5, 0, none⟩ = some (.int .i64 idx) := (R53.out.cell 0).trans rfl
        have c51 : w3.cell? ⟨b5, 1, none⟩ = some (.slice aos 18 cs) := (R53.out.cell 1).trans rfl
        have c52 : w3.cell? ⟨b5, 2, none⟩ = some (.slice aop lp cp) := (R53.out.cell 2).trans rfl
        go_wp2_with fail
        refine (few03_calls idx _ _ sig path w3 WS3.out WP3.out HSS.out HPS.out).mono ?_
        rintro e w4 ⟨rfl, hB⟩
        clear c50 c51 c52
        have H4 := Lib.hid (H3.out.trans (hB.mono H3.out.size))
        have WS4 := Lib.hid (WS3.out.on hB)
        have WP4 := Lib.hid (WP3.out.on hB)
        have R54 := Lib.hid (R53.out.on hB)
        clear hB H3 WS3 WP3 R53
        rw [HFW.out]
        have c50 : w4.cell? ⟨b5, 0, none⟩ = some (.int .i64 idx) := (R54.out.cell 0).trans rfl
        have c51 : w4.cell? ⟨b5, 1, none⟩ = some (.slice aos 18 cs) := (R54.out.cell 1).trans rfl
        have c52 : w4.cell? ⟨b5, 2, none⟩ = some (.slice aop lp cp) := (R54.out.cell 2).trans rfl
        go_wp2_with fail
        refine (verify_calls pub m idx _ _ sig path w4 (by omega) (by omega) WS4.out WP4.out HSZ.out HPZ.out (HT.out.on H4.out)).mono ?_
        rintro e w5 ⟨rfl, hB⟩
        clear c50 c51 c52
        have H5 := Lib.hid (H4.out.trans (hB.mono H4.out.size))
        have WS5 := Lib.hid (WS4.out.on hB)
        have WP5 := Lib.hid (WP4.out.on hB)
        have R55 := Lib.hid (R54.out.on hB)
        clear hB H4 WS4 WP4 R54
        rw [HV.out]
        go_wp2_with fail
        refine wp_region_res 29 (w5.heap.size) (fun ii u => [valF (.pointer (some ⟨b5, 1, none⟩)), valF (.slice aos 18 cs), valF (.int .i64 18), valF (.bool false), valF (.bool false), valF (.pointer (some ⟨b5, 2, none⟩)), valF (.slice aop lp cp), valF (.int .i64 (lp : Int)), valF (.bool false), valF (.bool false), valF (.bool false), valF (.pointer (some ⟨b5, 0, none⟩)), valF (.int .i64 idx), valF (.bool false), valF (.bool false), valF (.bool false), valF (.pointer (some ⟨b5, 0, none⟩)), valF (.int .i64 idx), valF (.pointer (some ⟨b5, 2, none⟩)), valF (.slice aop lp cp), valF (.int .i64 (lp : Int)), valF (.int .i64 ((2 : Int) ^ lp)), valF (.bool false), valF (.bool false), valF (.bool false), valF (.string pub), valF (.bool true), valF (.bool false), valF (.bool false)].getD ii anyF) (fun jj ii => false) (fun jj bb => False) (by kernel_rfl) (by kernel_rfl) (by kernel_rfl) (by kernel_rfl) (by kernel_rfl) (Nat.le_refl _) ?_ ?_ ?_ ?_ ?_
        · intro ii u hii
          refine AllKStable.at ?_ ii
          exact ⟨.inl (valF_stable _ _), .inl (valF_stable _ _), .inl (valF_stable _ _), .inl (valF_stable _ _), .inl (valF_stable _ _), .inl (valF_stable _ _), .inl (valF_stable _ _), .inl (valF_stable _ _), .inl (valF_stable _ _), .inl (valF_stable _ _), .inl (valF_stable _ _), .inl (valF_stable _ _), .inl (valF_stable _ _), .inl (valF_stable _ _), .inl (valF_stable _ _), .inl (valF_stable _ _), .inl (valF_stable _ _), .inl (valF_stable _ _), .inl (valF_stable _ _), .inl (valF_stable _ _), .inl (valF_stable _ _), .inl (valF_stable _ _), .inl (valF_stable _ _), .inl (valF_stable _ _), .inl (valF_stable _ _), .inl (valF_stable _ _), .inl (valF_stable _ _), .inl (valF_stable _ _), .inl (valF_stable _ _), trivial⟩
        · exact fun _ _ _ _ _ => rfl
        · exact ⟨fun _ _ _ h => h.elim, fun _ _ _ _ _ h => h.elim⟩
        · refine And.intro (fun u W A hW hBW hd hv hr => ?_) ?_
          · have t5 : A.eval (.tmp 5) = .pointer (some ⟨b5, 0, none⟩) := (hv 5 (by kernel_rfl)).trans (by kernel_rfl)
            clear hd hv
            have s5 := evalT t5
            clear t5
            refine fk_run ?_
            go_simp
          refine And.intro (fun u W A hW hBW hd hv hr => ?_) ?_
          · have e0 : u 0 = .pointer (some ⟨b5, 1, none⟩) := hd 0 (by decide) (by kernel_rfl)
            have t32 : A.eval (.tmp 32) = .pointer (some ⟨b5, 1, none⟩) := (hv 32 (by kernel_rfl)).trans ((by kernel_rfl : slotV _ _ _ u 32 = u 0).trans e0)
            have hW1 := below_undrew hW
            have hcl : W.cell? ⟨b5, 1, none⟩ = some (.slice aos 18 cs) := ((R55.out.on hW1).cell 1).trans rfl
            clear hd hv
            have s32 := evalT t32
            clear t32
            refine fk_run ?_
            go_simp
          refine And.intro (fun u W A hW hBW hd hv hr => ?_) ?_
          · have e1 : u 1 = .slice aos 18 cs := hd 1 (by decide) (by kernel_rfl)
            have t33 : A.eval (.tmp 33) = .slice aos 18 cs := (hv 33 (by kernel_rfl)).trans ((by kernel_rfl : slotV _ _ _ u 33 = u 1).trans e1)
            clear hd hv
            have s33 := evalT t33
            clear t33
            refine fk_run ?_
            go_simp
          refine And.intro (fun u W A hW hBW hd hv hr => ?_) ?_
          · have e2 : u 2 = .int .i64 18 := hd 2 (by decide) (by kernel_rfl)
            have t34 : A.eval (.tmp 34) = .int .i64 18 := (hv 34 (by kernel_rfl)).trans ((by kernel_rfl : slotV _ _ _ u 34 = u 2).trans e2)
            clear hd hv
            have s34 := evalT t34
            clear t34
            refine fk_run ?_
            go_simp
          refine And.intro (fun u W A hW hBW hd hv hr => ?_) ?_
          · have e3 : u 3 = .bool false := hd 3 (by decide) (by kernel_rfl)
            have t35 : A.eval (.tmp 35) = .bool false := (hv 35 (by kernel_rfl)).trans ((by kernel_rfl : slotV _ _ _ u 35 = u 3).trans e3)
            clear hd hv
            have s35 := evalT t35
            clear t35
            refine fk_run ?_
            go_simp
          refine And.intro (fun u W A hW hBW hd hv hr => ?_) ?_
          · have e4 : u 4 = .bool false := hd 4 (by decide) (by kernel_rfl)
            have t5 : A.eval (.tmp 5) = .pointer (some ⟨b5, 0, none⟩) := (hv 5 (by kernel_rfl)).trans (by kernel_rfl)
            clear hd hv
            have s5 := evalT t5
            clear t5
            refine Or.inl ⟨e4, ?_⟩
            refine fk_run ?_
            go_simp
          refine And.intro (fun u W A hW hBW hd hv hr => ?_) ?_
          · have e4 : u 4 = .bool false := hd 4 (by decide) (by kernel_rfl)
            have e5 : u 5 = .pointer (some ⟨b5, 2, none⟩) := hd 5 (by decide) (by kernel_rfl)
            have t37 : A.eval (.tmp 37) = .pointer (some ⟨b5, 2, none⟩) := (hv 37 (by kernel_rfl)).trans ((by kernel_rfl : slotV _ _ _ u 37 = u 5).trans e5)
            have hW1 := below_undrew hW
            have hcl : W.cell? ⟨b5, 2, none⟩ = some (.slice aop lp cp) := ((R55.out.on hW1).cell 2).trans rfl
            clear hd hv
            have s37 := evalT t37
            clear t37
            refine Or.inl ⟨e4, ?_⟩
            refine fk_run ?_
            go_simp
          refine And.intro (fun u W A hW hBW hd hv hr => ?_) ?_
          · have e4 : u 4 = .bool false := hd 4 (by decide) (by kernel_rfl)
            have e6 : u 6 = .slice aop lp cp := hd 6 (by decide) (by kernel_rfl)
            have t38 : A.eval (.tmp 38) = .slice aop lp cp := (hv 38 (by kernel_rfl)).trans ((by kernel_rfl : slotV _ _ _ u 38 = u 6).trans e6)
            clear hd hv
            have s38 := evalT t38
            clear t38
            refine Or.inl ⟨e4, ?_⟩
            refine fk_run ?_
            go_simp
          refine And.intro (fun u W A hW hBW hd hv hr => ?_) ?_
          · have e4 : u 4 = .bool false := hd 4 (by decide) (by kernel_rfl)
            have e7 : u 7 = .int .i64 (lp : Int) := hd 7 (by decide) (by kernel_rfl)
            have t39 : A.eval (.tmp 39) = .int .i64 (lp : Int) := (hv 39 (by kernel_rfl)).trans ((by kernel_rfl : slotV _ _ _ u 39 = u 7).trans e7)
            clear hd hv
            have s39 := evalT t39
            clear t39
            refine Or.inl ⟨e4, ?_⟩
            refine fk_run ?_
            have hd : decide ((8 : Int) < (lp : Int)) = false := decide_eq_false (by omega)
            go_simp
          refine And.intro (fun u W A hW hBW hd hv hr => ?_) ?_
          · have e4 : u 4 = .bool false := hd 4 (by decide) (by kernel_rfl)
            have e8 : u 8 = .bool false := hd 8 (by decide) (by kernel_rfl)
            have t36 : A.eval (.tmp 36) = .bool false := (hv 36 (by kernel_rfl)).trans ((by kernel_rfl : slotV _ _ _ u 36 = u 4).trans e4)
            have t40 : A.eval (.tmp 40) = .bool false := (hv 40 (by kernel_rfl)).trans ((by kernel_rfl : slotV _ _ _ u 40 = u 8).trans e8)
            clear hd hv
            have s36 := evalT t36
            have s40 := evalT t40
            clear t36 t40
            refine fk_run ?_
            go_simp
          refine And.intro (fun u W A hW hBW hd hv hr => ?_) ?_
          · have e9 : u 9 = .bool false := hd 9 (by decide) (by kernel_rfl)
            have t41 : A.eval (.tmp 41) = .bool false := (hv 41 (by kernel_rfl)).trans ((by kernel_rfl : slotV _ _ _ u 41 = u 9).trans e9)
            clear hd hv
            have s41 := evalT t41
            clear t41
            refine fk_run ?_
            go_simp
          refine And.intro (fun u W A hW hBW hd hv hr => ?_) ?_
          · have e10 : u 10 = .bool false := hd 10 (by decide) (by kernel_rfl)
            have t5 : A.eval (.tmp 5) = .pointer (some ⟨b5, 0, none⟩) := (hv 5 (by kernel_rfl)).trans (by kernel_rfl)
            clear hd hv
            have s5 := evalT t5
            clear t5
            refine Or.inl ⟨e10, ?_⟩
            refine fk_run ?_
            go_simp
          refine And.intro (fun u W A hW hBW hd hv hr => ?_) ?_
          · have e10 : u 10 = .bool false := hd 10 (by decide) (by kernel_rfl)
            have e11 : u 11 = .pointer (some ⟨b5, 0, none⟩) := hd 11 (by decide) (by kernel_rfl)
            have t43 : A.eval (.tmp 43) = .pointer (some ⟨b5, 0, none⟩) := (hv 43 (by kernel_rfl)).trans ((by kernel_rfl : slotV _ _ _ u 43 = u 11).trans e11)
            have hW1 := below_undrew hW
            have hcl : W.cell? ⟨b5, 0, none⟩ = some (.int .i64 idx) := ((R55.out.on hW1).cell 0).trans rfl
            clear hd hv
            have s43 := evalT t43
            clear t43
            refine Or.inl ⟨e10, ?_⟩
            refine fk_run ?_
            go_simp
          refine And.intro (fun u W A hW hBW hd hv hr => ?_) ?_
          · have e10 : u 10 = .bool false := hd 10 (by decide) (by kernel_rfl)
            have e12 : u 12 = .int .i64 idx := hd 12 (by decide) (by kernel_rfl)
            have t44 : A.eval (.tmp 44) = .int .i64 idx := (hv 44 (by kernel_rfl)).trans ((by kernel_rfl : slotV _ _ _ u 44 = u 12).trans e12)
            clear hd hv
            have s44 := evalT t44
            clear t44
            refine Or.inl ⟨e10, ?_⟩
            refine fk_run ?_
            have hd : decide (idx < 0) = false := decide_eq_false (by omega)
            go_simp
          refine And.intro (fun u W A hW hBW hd hv hr => ?_) ?_
          · have e10 : u 10 = .bool false := hd 10 (by decide) (by kernel_rfl)
            have e13 : u 13 = .bool false := hd 13 (by decide) (by kernel_rfl)
            have t42 : A.eval (.tmp 42) = .bool false := (hv 42 (by kernel_rfl)).trans ((by kernel_rfl : slotV _ _ _ u 42 = u 10).trans e10)
            have t45 : A.eval (.tmp 45) = .bool false := (hv 45 (by kernel_rfl)).trans ((by kernel_rfl : slotV _ _ _ u 45 = u 13).trans e13)
            clear hd hv
            have s42 := evalT t42
            have s45 := evalT t45
            clear t42 t45
            refine fk_run ?_
            go_simp
          refine And.intro (fun u W A hW hBW hd hv hr => ?_) ?_
          · have e14 : u 14 = .bool false := hd 14 (by decide) (by kernel_rfl)
            have t46 : A.eval (.tmp 46) = .bool false := (hv 46 (by kernel_rfl)).trans ((by kernel_rfl : slotV _ _ _ u 46 = u 14).trans e14)
            clear hd hv
            have s46 := evalT t46
            clear t46
            refine fk_run ?_
            go_simp
          refine And.intro (fun u W A hW hBW hd hv hr => ?_) ?_
          · have e15 : u 15 = .bool false := hd 15 (by decide) (by kernel_rfl)
            have t5 : A.eval (.tmp 5) = .pointer (some ⟨b5, 0, none⟩) := (hv 5 (by kernel_rfl)).trans (by kernel_rfl)
            clear hd hv
            have s5 := evalT t5
            clear t5
            refine Or.inl ⟨e15, ?_⟩
            refine fk_run ?_
            go_simp
          refine And.intro (fun u W A hW hBW hd hv hr => ?_) ?_
          · have e15 : u 15 = .bool false := hd 15 (by decide) (by kernel_rfl)
            have e16 : u 16 = .pointer (some ⟨b5, 0, none⟩) := hd 16 (by decide) (by kernel_rfl)
            have t48 : A.eval (.tmp 48) = .pointer (some ⟨b5, 0, none⟩) := (hv 48 (by kernel_rfl)).trans ((by kernel_rfl : slotV _ _ _ u 48 = u 16).trans e16)
            have hW1 := below_undrew hW
            have hcl : W.cell? ⟨b5, 0, none⟩ = some (.int .i64 idx) := ((R55.out.on hW1).cell 0).trans rfl
            clear hd hv
            have s48 := evalT t48
            clear t48
            refine Or.inl ⟨e15, ?_⟩
            refine fk_run ?_
            go_simp
          refine And.intro (fun u W A hW hBW hd hv hr => ?_) ?_
          · have e15 : u 15 = .bool false := hd 15 (by decide) (by kernel_rfl)
            have t5 : A.eval (.tmp 5) = .pointer (some ⟨b5, 0, none⟩) := (hv 5 (by kernel_rfl)).trans (by kernel_rfl)
            clear hd hv
            have s5 := evalT t5
            clear t5
            refine Or.inl ⟨e15, ?_⟩
            refine fk_run ?_
            go_simp
          refine And.intro (fun u W A hW hBW hd hv hr => ?_) ?_
          · have e15 : u 15 = .bool false := hd 15 (by decide) (by kernel_rfl)
            have e18 : u 18 = .pointer (some ⟨b5, 2, none⟩) := hd 18 (by decide) (by kernel_rfl)
            have t50 : A.eval (.tmp 50) = .pointer (some ⟨b5, 2, none⟩) := (hv 50 (by kernel_rfl)).trans ((by kernel_rfl : slotV _ _ _ u 50 = u 18).trans e18)
            have hW1 := below_undrew hW
            have hcl : W.cell? ⟨b5, 2, none⟩ = some (.slice aop lp cp) := ((R55.out.on hW1).cell 2).trans rfl
            clear hd hv
            have s50 := evalT t50
            clear t50
            refine Or.inl ⟨e15, ?_⟩
            refine fk_run ?_
            go_simp
          refine And.intro (fun u W A hW hBW hd hv hr => ?_) ?_
          · have e15 : u 15 = .bool false := hd 15 (by decide) (by kernel_rfl)
            have e19 : u 19 = .slice aop lp cp := hd 19 (by decide) (by kernel_rfl)
            have t51 : A.eval (.tmp 51) = .slice aop lp cp := (hv 51 (by kernel_rfl)).trans ((by kernel_rfl : slotV _ _ _ u 51 = u 19).trans e19)
            clear hd hv
            have s51 := evalT t51
            clear t51
            refine Or.inl ⟨e15, ?_⟩
            refine fk_run ?_
            go_simp
          refine And.intro (fun u W A hW hBW hd hv hr => ?_) ?_
          · have e15 : u 15 = .bool false := hd 15 (by decide) (by kernel_rfl)
            have e20 : u 20 = .int .i64 (lp : Int) := hd 20 (by decide) (by kernel_rfl)
            have t52 : A.eval (.tmp 52) = .int .i64 (lp : Int) := (hv 52 (by kernel_rfl)).trans ((by kernel_rfl : slotV _ _ _ u 52 = u 20).trans e20)
            clear hd hv
            have s52 := evalT t52
            clear t52
            refine Or.inl ⟨e15, ?_⟩
            refine fk_run ?_
            go_simp
            exact HWI.out
          refine And.intro (fun u W A hW hBW hd hv hr => ?_) ?_
          · have e15 : u 15 = .bool false := hd 15 (by decide) (by kernel_rfl)
            have e17 : u 17 = .int .i64 idx := hd 17 (by decide) (by kernel_rfl)
            have e21 : u 21 = .int .i64 ((2 : Int) ^ lp) := hd 21 (by decide) (by kernel_rfl)
            have t49 : A.eval (.tmp 49) = .int .i64 idx := (hv 49 (by kernel_rfl)).trans ((by kernel_rfl : slotV _ _ _ u 49 = u 17).trans e17)
            have t53 : A.eval (.tmp 53) = .int .i64 ((2 : Int) ^ lp) := (hv 53 (by kernel_rfl)).trans ((by kernel_rfl : slotV _ _ _ u 53 = u 21).trans e21)
            clear hd hv
            have s49 := evalT t49
            have s53 := evalT t53
            clear t49 t53
            refine Or.inl ⟨e15, ?_⟩
            refine fk_run ?_
            have hd : decide ((2 : Int) ^ lp ≤ idx) = false := decide_eq_false (by omega)
            go_simp
          refine And.intro (fun u W A hW hBW hd hv hr => ?_) ?_
          · have e15 : u 15 = .bool false := hd 15 (by decide) (by kernel_rfl)
            have e22 : u 22 = .bool false := hd 22 (by decide) (by kernel_rfl)
            have t47 : A.eval (.tmp 47) = .bool false := (hv 47 (by kernel_rfl)).trans ((by kernel_rfl : slotV _ _ _ u 47 = u 15).trans e15)
            have t54 : A.eval (.tmp 54) = .bool false := (hv 54 (by kernel_rfl)).trans ((by kernel_rfl : slotV _ _ _ u 54 = u 22).trans e22)
            clear hd hv
            have s47 := evalT t47
            have s54 := evalT t54
            clear t47 t54
            refine fk_run ?_
            go_simp
          refine And.intro (fun u W A hW hBW hd hv hr => ?_) ?_
          · have e23 : u 23 = .bool false := hd 23 (by decide) (by kernel_rfl)
            have t55 : A.eval (.tmp 55) = .bool false := (hv 55 (by kernel_rfl)).trans ((by kernel_rfl : slotV _ _ _ u 55 = u 23).trans e23)
            clear hd hv
            have s55 := evalT t55
            clear t55
            refine fk_run ?_
            go_simp
          refine And.intro (fun u W A hW hBW hd hv hr => ?_) ?_
          · have e24 : u 24 = .bool false := hd 24 (by decide) (by kernel_rfl)
            have t0 : A.eval (.tmp 0) = .string pub := (hv 0 (by kernel_rfl)).trans (by kernel_rfl)
            clear hd hv
            have s0 := evalT t0
            clear t0
            refine Or.inl ⟨e24, ?_⟩
            refine fk_run ?_
            go_simp
          refine And.intro (fun u W A hW hBW hd hv hr => ?_) ?_
          · have e24 : u 24 = .bool false := hd 24 (by decide) (by kernel_rfl)
            have e25 : u 25 = .string pub := hd 25 (by decide) (by kernel_rfl)
            have t57 : A.eval (.tmp 57) = .string pub := (hv 57 (by kernel_rfl)).trans ((by kernel_rfl : slotV _ _ _ u 57 = u 25).trans e25)
            have hW1 := below_undrew hW
            clear hd hv
            have s57 := evalT t57
            clear t57
            refine Or.inl ⟨e24, ?_⟩
            refine fk_enter (f := 11) (args := #[.string pub]) (by go_simp) (fk_val ?_)
            have hi := is_calls pub (by omega) W
            rw [HPI.out] at hi
            exact hi
          refine And.intro (fun u W A hW hBW hd hv hr => ?_) ?_
          · have e24 : u 24 = .bool false := hd 24 (by decide) (by kernel_rfl)
            have e26 : u 26 = .bool true := hd 26 (by decide) (by kernel_rfl)
            have t58 : A.eval (.tmp 58) = .bool true := (hv 58 (by kernel_rfl)).trans ((by kernel_rfl : slotV _ _ _ u 58 = u 26).trans e26)
            clear hd hv
            have s58 := evalT t58
            clear t58
            refine Or.inl ⟨e24, ?_⟩
            refine fk_run ?_
            go_simp
          refine And.intro (fun u W A hW hBW hd hv hr => ?_) ?_
          · have e24 : u 24 = .bool false := hd 24 (by decide) (by kernel_rfl)
            have e27 : u 27 = .bool false := hd 27 (by decide) (by kernel_rfl)
            have t56 : A.eval (.tmp 56) = .bool false := (hv 56 (by kernel_rfl)).trans ((by kernel_rfl : slotV _ _ _ u 56 = u 24).trans e24)
            have t59 : A.eval (.tmp 59) = .bool false := (hv 59 (by kernel_rfl)).trans ((by kernel_rfl : slotV _ _ _ u 59 = u 27).trans e27)
            clear hd hv
            have s56 := evalT t56
            have s59 := evalT t59
            clear t56 t59
            refine fk_run ?_
            go_simp
          exact trivial
        intro u w6 hb hk2 hf
        have e28 : u 28 = .bool false := hf 28 (by decide) (by decide)
        have hb1 := below_undrew hb
        clear hf hb hk2
        have H6 := Lib.hid (H5.out.trans (hb1.mono H5.out.size))
        have WS6 := Lib.hid (WS5.out.on hb1)
        have WP6 := Lib.hid (WP5.out.on hb1)
        have R56 := Lib.hid (R55.out.on hb1)
        clear hb1
        clear H5 WS5 WP5 R55
        generalize w6 = w6 at *
        simp only [List.take, List.drop, wpList, lexPut, Nat.zero_add, Nat.reduceAdd, e28, Act.put, List.setIfInBounds_toArray, List.set_cons_succ, List.set_cons_zero]
        clear e28
        go_wp2_with fail
        go_loopw [8] (fun vi W => ∃ k : Nat, vi = .int .i64 (k : Int) ∧ k ≤ 18 ∧ Hid (Below w6.heap.size w6 W)) (fun vi _ => 18 - (RowKit.intOf vi).toNat)
        case atStart => exact ⟨0, rfl, by omega, Lib.hid (Below.refl _ _)⟩
        case round =>
          obtain ⟨k, rfl, hk, HL⟩ := hrel
          have ck : wr.cell? ⟨b5, 1, none⟩ = some (.slice aos 18 cs) := ((R56.out.on HL.out).cell 1).trans rfl
          by_cases hlt : k < 18
          · obtain ⟨bs, os, rfl⟩ := strc_some WS6.out k (by rw [HSL.out]; exact hlt)
            have cks := strc_cell (WS6.out.on HL.out) k (by rw [HSL.out]; exact hlt)
            obtain ⟨hq1, hq2⟩ := HSI.out k hlt
            generalize (sig).getD k ByteArray.empty = s at *
            have hlt' : (k : Int) < (18 : Int) := by omega
            go_wp2_with fail
            refine (is_calls s hq2 wr).mono ?_
            rintro e w' ⟨rfl, hB⟩
            rw [hq1]
            have HL2 := Lib.hid (HL.out.trans (hB.mono HL.out.size))
            clear hB HL ck cks
            go_wp2
            go_round
            case rel => exact ⟨k + 1, by go_num, by omega, HL2⟩
            case measure => simp only [RowKit.intOf]; omega
          · obtain rfl : k = 18 := by omega
            have hB := HL.out
            clear HL
            rw [show ((18 : Nat) : Int) = 18 from rfl]
            go_wp2_with fail
            clear ck
            have H7 := Lib.hid (H6.out.trans (hB.mono H6.out.size))
            have WS7 := Lib.hid (WS6.out.on hB)
            have WP7 := Lib.hid (WP6.out.on hB)
            have R57 := Lib.hid (R56.out.on hB)
            clear hB
            clear H6 WS6 WP6 R56
            generalize wr = w7 at *
            go_loopw [9] (fun vi W => ∃ k : Nat, vi = .int .i64 (k : Int) ∧ k ≤ lp ∧ Hid (Below w7.heap.size w7 W)) (fun vi _ => lp - (RowKit.intOf vi).toNat)
            case atStart => exact ⟨0, rfl, by omega, Lib.hid (Below.refl _ _)⟩
            case round =>
              obtain ⟨k, rfl, hk, HL⟩ := hrel
              have ck : wr.cell? ⟨b5, 2, none⟩ = some (.slice aop lp cp) := ((R57.out.on HL.out).cell 2).trans rfl
              by_cases hlt : k < lp
              · obtain ⟨bs, os, rfl⟩ := strc_some WP7.out k (by rw [HPL.out]; exact hlt)
                have cks := strc_cell (WP7.out.on HL.out) k (by rw [HPL.out]; exact hlt)
                obtain ⟨hq1, hq2⟩ := HPX.out k hlt
                generalize (path).getD k ByteArray.empty = s at *
                have hlt' : (k : Int) < (lp : Int) := by omega
                go_wp2_with fail
                refine (is_calls s hq2 wr).mono ?_
                rintro e w' ⟨rfl, hB⟩
                rw [hq1]
                have HL2 := Lib.hid (HL.out.trans (hB.mono HL.out.size))
                clear hB HL ck cks
                go_wp2
                go_round
                case rel => exact ⟨k + 1, by go_num, by omega, HL2⟩
                case measure => simp only [RowKit.intOf]; omega
              · obtain rfl : lp = k := by omega
                have hB := HL.out
                clear HL
                clear ck
                have H8 := Lib.hid (H7.out.trans (hB.mono H7.out.size))
                have WS8 := Lib.hid (WS7.out.on hB)
                have WP8 := Lib.hid (WP7.out.on hB)
                have R58 := Lib.hid (R57.out.on hB)
                clear hB
                clear H7 WS7 WP7 R57
                generalize wr = w8 at *
                obtain ⟨bs, os, rfl⟩ := strc_some WS8.out 0 (by rw [HSL.out]; decide)
                have hcs : 18 ≤ cs := by obtain ⟨ao, c, e, h1, h2, h3⟩ := WS8.out; rw [HSL.out] at e h1; cases e; exact h1
                have hsl := run_slice_to (b := bs) (o := os) (n := 18) (cap := cs) (k := 17) (by omega)
                have c50 : w8.cell? ⟨b5, 0, none⟩ = some (.int .i64 idx) := (R58.out.cell 0).trans rfl
                have c51 : w8.cell? ⟨b5, 1, none⟩ = some (.slice (some ⟨bs, os, none⟩) 18 cs) := (R58.out.cell 1).trans rfl
                have c52 : w8.cell? ⟨b5, 2, none⟩ = some (.slice aop lp cp) := (R58.out.cell 2).trans rfl
                have c50_1 : ∀ o0 : Obj, (w8.alloc o0).cell? ⟨b5, 0, none⟩ = some (.int .i64 idx) := fun o0 => ((R58.out.on (below_new (Below.refl w8.heap.size w8) o0)).cell 0).trans rfl
                have c51_1 : ∀ o0 : Obj, (w8.alloc o0).cell? ⟨b5, 1, none⟩ = some (.slice (some ⟨bs, os, none⟩) 18 cs) := fun o0 => ((R58.out.on (below_new (Below.refl w8.heap.size w8) o0)).cell 1).trans rfl
                have c52_1 : ∀ o0 : Obj, (w8.alloc o0).cell? ⟨b5, 2, none⟩ = some (.slice aop lp cp) := fun o0 => ((R58.out.on (below_new (Below.refl w8.heap.size w8) o0)).cell 2).trans rfl
                have c50_2 : ∀ o0 o1 : Obj, ((w8.alloc o0).alloc o1).cell? ⟨b5, 0, none⟩ = some (.int .i64 idx) := fun o0 o1 => ((R58.out.on (below_new (below_new (Below.refl w8.heap.size w8) o0) o1)).cell 0).trans rfl
                have c51_2 : ∀ o0 o1 : Obj, ((w8.alloc o0).alloc o1).cell? ⟨b5, 1, none⟩ = some (.slice (some ⟨bs, os, none⟩) 18 cs) := fun o0 o1 => ((R58.out.on (below_new (below_new (Below.refl w8.heap.size w8) o0) o1)).cell 1).trans rfl
                have c52_2 : ∀ o0 o1 : Obj, ((w8.alloc o0).alloc o1).cell? ⟨b5, 2, none⟩ = some (.slice aop lp cp) := fun o0 o1 => ((R58.out.on (below_new (below_new (Below.refl w8.heap.size w8) o0) o1)).cell 2).trans rfl
                have c50_3 : ∀ o0 o1 o2 : Obj, (((w8.alloc o0).alloc o1).alloc o2).cell? ⟨b5, 0, none⟩ = some (.int .i64 idx) := fun o0 o1 o2 => ((R58.out.on (below_new (below_new (below_new (Below.refl w8.heap.size w8) o0) o1) o2)).cell 0).trans rfl
                have c51_3 : ∀ o0 o1 o2 : Obj, (((w8.alloc o0).alloc o1).alloc o2).cell? ⟨b5, 1, none⟩ = some (.slice (some ⟨bs, os, none⟩) 18 cs) := fun o0 o1 o2 => ((R58.out.on (below_new (below_new (below_new (Below.refl w8.heap.size w8) o0) o1) o2)).cell 1).trans rfl
                have c52_3 : ∀ o0 o1 o2 : Obj, (((w8.alloc o0).alloc o1).alloc o2).cell? ⟨b5, 2, none⟩ = some (.slice aop lp cp) := fun o0 o1 o2 => ((R58.out.on (below_new (below_new (below_new (Below.refl w8.heap.size w8) o0) o1) o2)).cell 2).trans rfl
                go_wp2_with fail
                clear hsl
                clear c50 c51 c52 c50_1 c51_1 c52_1 c50_2 c51_2 c52_2 c50_3 c51_3 c52_3
                have hq : Below w8.heap.size w8 (w8.alloc (.cells #[.int .i64 idx, .slice (some ⟨bs, os, none⟩) 17 cs, .slice aop lp cp] 29)) := (Below.refl _ _).alloc (Nat.le_refl _) _
                have H9 := Lib.hid (H8.out.trans (hq.mono H8.out.size))
                have WS9 := Lib.hid (WS8.out.on hq)
                have WP9 := Lib.hid (WP8.out.on hq)
                have R59 := Lib.hid (R58.out.on hq)
                have R109 := Lib.hid (RowIs.new w8 #[.int .i64 idx, .slice (some ⟨bs, os, none⟩) 17 cs, .slice aop lp cp] 29)
                obtain ⟨b10, hb10⟩ : ∃ b, b = w8.heap.size := ⟨_, rfl⟩
                rw [← hb10] at R109 ⊢
                have Z10 : Hid ((w8.alloc (.cells #[.int .i64 idx, .slice (some ⟨bs, os, none⟩) 17 cs, .slice aop lp cp] 29)).heap.size = b10 + 1) := Lib.hid (by rw [World.size_alloc, hb10])
                generalize hgw : w8.alloc (.cells #[.int .i64 idx, .slice (some ⟨bs, os, none⟩) 17 cs, .slice aop lp cp] 29) = w9 at *
                clear hq hgw hb10 H8 WS8 WP8 R58
                obtain ⟨b11, hb11⟩ : ∃ b, b = b10 + 1 := ⟨_, rfl⟩
                have hzz : w9.heap.size = b11 := by rw [hb11, Z10.out]
                rw [← hb11]
                have HQ : Hid (Below w9.heap.size w9 (w9.alloc (.cells #[.int .i64 idx, .slice (some ⟨bs, os, none⟩) 18 cs, .slice aop lp cp] 29))) := Lib.hid ((Below.refl _ _).alloc (Nat.le_refl _) _)
                have HRX : Hid ((w9.alloc (.cells #[.int .i64 idx, .slice (some ⟨bs, os, none⟩) 18 cs, .slice aop lp cp] 29)).heap[b11]? = some (.cells #[.int .i64 idx, .slice (some ⟨bs, os, none⟩) 18 cs, .slice aop lp cp] 29 (0, 0))) := Lib.hid (by rw [← hzz]; exact World.alloc_heap_new _ _)
                have hza : w9.heap.size ≤ b11 := Nat.le_of_eq hzz
                have hzb : b11 ≤ w9.heap.size := Nat.le_of_eq hzz.symm
                have hsx : b11 < (w9.alloc (.cells #[.int .i64 idx, .slice (some ⟨bs, os, none⟩) 18 cs, .slice aop lp cp] 29)).heap.size := by simp; omega
                clear hzz hb11 Z10
                generalize hgw : w9.alloc (.cells #[.int .i64 idx, .slice (some ⟨bs, os, none⟩) 18 cs, .slice aop lp cp] 29) = wx at *
                clear hgw
                refine wp_region_res 9 (b11) (fun ii u => [valF (.pointer (some ⟨b5, 0, none⟩)), valF (.int .i64 idx), valF (.pointer (some ⟨b5, 2, none⟩)), valF (.slice aop lp cp), valF (.int .i64 (lp : Int)), valF (.int .i64 ((2 : Int) ^ lp)), valF (.int .i64 (idx + (2 : Int) ^ lp)), valF (.pointer (some ⟨b11, 0, none⟩)), MemK b11 (.cells #[.int .i64 (idx + (2 : Int) ^ lp), .slice (some ⟨bs, os, none⟩) 18 cs, .slice aop lp cp] 29 (0, 0))].getD ii anyF) (fun jj ii => false) (fun jj bb => (jj = 8 ∧ bb = b11)) (by kernel_rfl) (by kernel_rfl) (by kernel_rfl) (by kernel_rfl) (by kernel_rfl) (Nat.le_of_lt hsx) ?_ ?_ ?_ ?_ ?_
                · intro ii u hii
                  refine AllKStable.at ?_ ii
                  exact ⟨.inl (valF_stable _ _), .inl (valF_stable _ _), .inl (valF_stable _ _), .inl (valF_stable _ _), .inl (valF_stable _ _), .inl (valF_stable _ _), .inl (valF_stable _ _), .inl (valF_stable _ _), .inl (memK_st _ _ _), trivial⟩
                · exact fun _ _ _ _ _ => rfl
                · refine ⟨fun j b _ h => ?_, fun j j2 b _ _ h h2 => ?_⟩
                  · obtain ⟨_, h⟩ := h; omega
                  · obtain ⟨h, _⟩ := h; obtain ⟨h2, _⟩ := h2; omega
                · refine And.intro (fun u W A hW hBW hd hv hr => ?_) ?_
                  · have t5 : A.eval (.tmp 5) = .pointer (some ⟨b5, 0, none⟩) := (hv 5 (by kernel_rfl)).trans (by kernel_rfl)
                    clear hd hv
                    have s5 := evalT t5
                    clear t5
                    refine fk_run ?_
                    go_simp
                  refine And.intro (fun u W A hW hBW hd hv hr => ?_) ?_
                  · have e0 : u 0 = .pointer (some ⟨b5, 0, none⟩) := hd 0 (by decide) (by kernel_rfl)
                    have t95 : A.eval (.tmp 95) = .pointer (some ⟨b5, 0, none⟩) := (hv 95 (by kernel_rfl)).trans ((by kernel_rfl : slotV _ _ _ u 95 = u 0).trans e0)
                    have hW1 := below_undrew hW
                    have hcl : W.cell? ⟨b5, 0, none⟩ = some (.int .i64 idx) := ((R59.out.on (HQ.out.trans (hW1.mono hza))).cell 0).trans rfl
                    clear hd hv
                    have s95 := evalT t95
                    clear t95
                    refine fk_run ?_
                    go_simp
                  refine And.intro (fun u W A hW hBW hd hv hr => ?_) ?_
                  · have t5 : A.eval (.tmp 5) = .pointer (some ⟨b5, 0, none⟩) := (hv 5 (by kernel_rfl)).trans (by kernel_rfl)
                    clear hd hv
                    have s5 := evalT t5
                    clear t5
                    refine fk_run ?_
                    go_simp
                  refine And.intro (fun u W A hW hBW hd hv hr => ?_) ?_
                  · have e2 : u 2 = .pointer (some ⟨b5, 2, none⟩) := hd 2 (by decide) (by kernel_rfl)
                    have t97 : A.eval (.tmp 97) = .pointer (some ⟨b5, 2, none⟩) := (hv 97 (by kernel_rfl)).trans ((by kernel_rfl : slotV _ _ _ u 97 = u 2).trans e2)
                    have hW1 := below_undrew hW
                    have hcl : W.cell? ⟨b5, 2, none⟩ = some (.slice aop lp cp) := ((R59.out.on (HQ.out.trans (hW1.mono hza))).cell 2).trans rfl
                    clear hd hv
                    have s97 := evalT t97
                    clear t97
                    refine fk_run ?_
                    go_simp
                  refine And.intro (fun u W A hW hBW hd hv hr => ?_) ?_
                  · have e3 : u 3 = .slice aop lp cp := hd 3 (by decide) (by kernel_rfl)
                    have t98 : A.eval (.tmp 98) = .slice aop lp cp := (hv 98 (by kernel_rfl)).trans ((by kernel_rfl : slotV _ _ _ u 98 = u 3).trans e3)
                    clear hd hv
                    have s98 := evalT t98
                    clear t98
                    refine fk_run ?_
                    go_simp
                  refine And.intro (fun u W A hW hBW hd hv hr => ?_) ?_
                  · have e4 : u 4 = .int .i64 (lp : Int) := hd 4 (by decide) (by kernel_rfl)
                    have t99 : A.eval (.tmp 99) = .int .i64 (lp : Int) := (hv 99 (by kernel_rfl)).trans ((by kernel_rfl : slotV _ _ _ u 99 = u 4).trans e4)
                    clear hd hv
                    have s99 := evalT t99
                    clear t99
                    refine fk_run ?_
                    go_simp
                    exact HWI.out
                  refine And.intro (fun u W A hW hBW hd hv hr => ?_) ?_
                  · have e1 : u 1 = .int .i64 idx := hd 1 (by decide) (by kernel_rfl)
                    have e5 : u 5 = .int .i64 ((2 : Int) ^ lp) := hd 5 (by decide) (by kernel_rfl)
                    have t96 : A.eval (.tmp 96) = .int .i64 idx := (hv 96 (by kernel_rfl)).trans ((by kernel_rfl : slotV _ _ _ u 96 = u 1).trans e1)
                    have t100 : A.eval (.tmp 100) = .int .i64 ((2 : Int) ^ lp) := (hv 100 (by kernel_rfl)).trans ((by kernel_rfl : slotV _ _ _ u 100 = u 5).trans e5)
                    clear hd hv
                    have s96 := evalT t96
                    have s100 := evalT t100
                    clear t96 t100
                    refine fk_run ?_
                    go_simp
                    exact IntWalk.i64_in _ (by omega)
                  refine And.intro (fun u W A hW hBW hd hv hr => ?_) ?_
                  · have t11 : A.eval (.tmp 11) = .pointer (some ⟨b11, 0, none⟩) := (hv 11 (by kernel_rfl)).trans (by kernel_rfl)
                    clear hd hv
                    have s11 := evalT t11
                    clear t11
                    refine fk_run ?_
                    go_simp
                  refine And.intro (fun u W A hW hBW hd hv hr => ?_) ?_
                  · have e6 : u 6 = .int .i64 (idx + (2 : Int) ^ lp) := hd 6 (by decide) (by kernel_rfl)
                    have e7 : u 7 = .pointer (some ⟨b11, 0, none⟩) := hd 7 (by decide) (by kernel_rfl)
                    have t102 : A.eval (.tmp 102) = .pointer (some ⟨b11, 0, none⟩) := (hv 102 (by kernel_rfl)).trans ((by kernel_rfl : slotV _ _ _ u 102 = u 7).trans e7)
                    have t101 : A.eval (.tmp 101) = .int .i64 (idx + (2 : Int) ^ lp) := (hv 101 (by kernel_rfl)).trans ((by kernel_rfl : slotV _ _ _ u 101 = u 6).trans e6)
                    have hW1 := below_undrew hW
                    have hob5 := (hr 8 b11 (by decide) (.inl rfl) ⟨rfl, rfl⟩).trans HRX.out
                    have hsz : wx.heap.size ≤ W.heap.size := hW1.size
                    clear hd hv
                    have s102 := evalT t102
                    have s101 := evalT t101
                    clear t102 t101
                    have hcl : W.cell? ⟨b11, 0, none⟩ = some (.int .i64 idx) := by rw [cell_of_row W b11 0 _ _ _ hob5]; rfl
                    have hfz : W.frozen? ⟨b11, 0, none⟩ = false := by simp [World.frozen?, hob5]
                    refine fk_store (b := b11) (i := 0) (v := .int .i64 (idx + (2 : Int) ^ lp)) (by go_simp) (by omega) (.inr ⟨rfl, rfl⟩) ?_
                    rw [heap_set_same W b11 0 _ _ _ _ hob5]; rfl
                  exact trivial
                intro u w10 hb hk2 hf
                have e8 : w10.heap[b11]? = some (.cells #[.int .i64 (idx + (2 : Int) ^ lp), .slice (some ⟨bs, os, none⟩) 18 cs, .slice aop lp cp] 29 (0, 0)) := hf 8 (by decide) (by decide)
                have hB : Below w9.heap.size w9 w10 := HQ.out.trans ((below_undrew hb).mono hza)
                have R1110 : Hid (RowIs b11 #[.int .i64 (idx + (2 : Int) ^ lp), .slice (some ⟨bs, os, none⟩) 18 cs, .slice aop lp cp] 29 w10) := Lib.hid ⟨(Array.getElem?_eq_some_iff.1 e8).1, e8⟩
                clear hf hb hk2 e8 hza hzb hsx HRX HQ
                have H10 := Lib.hid (H9.out.trans (hB.mono H9.out.size))
                have WS10 := Lib.hid (WS9.out.on hB)
                have WP10 := Lib.hid (WP9.out.on hB)
                have R510 := Lib.hid (R59.out.on hB)
                have R1010 := Lib.hid (R109.out.on hB)
                clear hB H9 WS9 WP9 R59 R109
                simp only [List.take, List.drop, wpList, lexPut, Nat.zero_add, Nat.reduceAdd, Act.put, List.setIfInBounds_toArray, List.set_cons_succ, List.set_cons_zero]
                have c50 : w10.cell? ⟨b5, 0, none⟩ = some (.int .i64 idx) := (R510.out.cell 0).trans rfl
                have c51 : w10.cell? ⟨b5, 1, none⟩ = some (.slice (some ⟨bs, os, none⟩) 18 cs) := (R510.out.cell 1).trans rfl
                have c52 : w10.cell? ⟨b5, 2, none⟩ = some (.slice aop lp cp) := (R510.out.cell 2).trans rfl
                have c50_1 : ∀ o0 : Obj, (w10.alloc o0).cell? ⟨b5, 0, none⟩ = some (.int .i64 idx) := fun o0 => ((R510.out.on (below_new (Below.refl w10.heap.size w10) o0)).cell 0).trans rfl
                have c51_1 : ∀ o0 : Obj, (w10.alloc o0).cell? ⟨b5, 1, none⟩ = some (.slice (some ⟨bs, os, none⟩) 18 cs) := fun o0 => ((R510.out.on (below_new (Below.refl w10.heap.size w10) o0)).cell 1).trans rfl
                have c52_1 : ∀ o0 : Obj, (w10.alloc o0).cell? ⟨b5, 2, none⟩ = some (.slice aop lp cp) := fun o0 => ((R510.out.on (below_new (Below.refl w10.heap.size w10) o0)).cell 2).trans rfl
                go_wp2_with fail
                clear c50 c51 c52 c50_1 c51_1 c52_1
                obtain ⟨b12, hb12⟩ : ∃ b, b = w10.heap.size := ⟨_, rfl⟩
                have hzz : w10.heap.size = b12 := hb12.symm
                rw [← hb12]
                have HQ : Hid (Below w10.heap.size w10 (w10.alloc (.cells #[.int .i64 idx, .slice (some ⟨bs, os, none⟩) 18 cs, .slice aop lp cp] 29))) := Lib.hid ((Below.refl _ _).alloc (Nat.le_refl _) _)
                have HRX : Hid ((w10.alloc (.cells #[.int .i64 idx, .slice (some ⟨bs, os, none⟩) 18 cs, .slice aop lp cp] 29)).heap[b12]? = some (.cells #[.int .i64 idx, .slice (some ⟨bs, os, none⟩) 18 cs, .slice aop lp cp] 29 (0, 0))) := Lib.hid (by rw [← hzz]; exact World.alloc_heap_new _ _)
                have hza : w10.heap.size ≤ b12 := Nat.le_of_eq hzz
                have hzb : b12 ≤ w10.heap.size := Nat.le_of_eq hzz.symm
                have hsx : b12 < (w10.alloc (.cells #[.int .i64 idx, .slice (some ⟨bs, os, none⟩) 18 cs, .slice aop lp cp] 29)).heap.size := by simp; omega
                clear hzz hb12
                generalize hgw : w10.alloc (.cells #[.int .i64 idx, .slice (some ⟨bs, os, none⟩) 18 cs, .slice aop lp cp] 29) = wx at *
                clear hgw
                refine wp_region_res 9 (b12) (fun ii u => [valF (.pointer (some ⟨b5, 0, none⟩)), valF (.int .i64 idx), valF (.pointer (some ⟨b5, 2, none⟩)), valF (.slice aop lp cp), valF (.int .i64 (lp : Int)), valF (.int .i64 ((2 : Int) ^ lp)), valF (.int .i64 (idx - (2 : Int) ^ lp)), valF (.pointer (some ⟨b12, 0, none⟩)), MemK b12 (.cells #[.int .i64 (idx - (2 : Int) ^ lp), .slice (some ⟨bs, os, none⟩) 18 cs, .slice aop lp cp] 29 (0, 0))].getD ii anyF) (fun jj ii => false) (fun jj bb => (jj = 8 ∧ bb = b12)) (by kernel_rfl) (by kernel_rfl) (by kernel_rfl) (by kernel_rfl) (by kernel_rfl) (Nat.le_of_lt hsx) ?_ ?_ ?_ ?_ ?_
                · intro ii u hii
                  refine AllKStable.at ?_ ii
                  exact ⟨.inl (valF_stable _ _), .inl (valF_stable _ _), .inl (valF_stable _ _), .inl (valF_stable _ _), .inl (valF_stable _ _), .inl (valF_stable _ _), .inl (valF_stable _ _), .inl (valF_stable _ _), .inl (memK_st _ _ _), trivial⟩
                · exact fun _ _ _ _ _ => rfl
                · refine ⟨fun j b _ h => ?_, fun j j2 b _ _ h h2 => ?_⟩
                  · obtain ⟨_, h⟩ := h; omega
                  · obtain ⟨h, _⟩ := h; obtain ⟨h2, _⟩ := h2; omega
                · refine And.intro (fun u W A hW hBW hd hv hr => ?_) ?_
                  · have t5 : A.eval (.tmp 5) = .pointer (some ⟨b5, 0, none⟩) := (hv 5 (by kernel_rfl)).trans (by kernel_rfl)
                    clear hd hv
                    have s5 := evalT t5
                    clear t5
                    refine fk_run ?_
                    go_simp
                  refine And.intro (fun u W A hW hBW hd hv hr => ?_) ?_
                  · have e0 : u 0 = .pointer (some ⟨b5, 0, none⟩) := hd 0 (by decide) (by kernel_rfl)
                    have t104 : A.eval (.tmp 104) = .pointer (some ⟨b5, 0, none⟩) := (hv 104 (by kernel_rfl)).trans ((by kernel_rfl : slotV _ _ _ u 104 = u 0).trans e0)
                    have hW1 := below_undrew hW
                    have hcl : W.cell? ⟨b5, 0, none⟩ = some (.int .i64 idx) := ((R510.out.on (HQ.out.trans (hW1.mono hza))).cell 0).trans rfl
                    clear hd hv
                    have s104 := evalT t104
                    clear t104
                    refine fk_run ?_
                    go_simp
                  refine And.intro (fun u W A hW hBW hd hv hr => ?_) ?_
                  · have t5 : A.eval (.tmp 5) = .pointer (some ⟨b5, 0, none⟩) := (hv 5 (by kernel_rfl)).trans (by kernel_rfl)
                    clear hd hv
                    have s5 := evalT t5
                    clear t5
                    refine fk_run ?_
                    go_simp
                  refine And.intro (fun u W A hW hBW hd hv hr => ?_) ?_
                  · have e2 : u 2 = .pointer (some ⟨b5, 2, none⟩) := hd 2 (by decide) (by kernel_rfl)
                    have t106 : A.eval (.tmp 106) = .pointer (some ⟨b5, 2, none⟩) := (hv 106 (by kernel_rfl)).trans ((by kernel_rfl : slotV _ _ _ u 106 = u 2).trans e2)
                    have hW1 := below_undrew hW
                    have hcl : W.cell? ⟨b5, 2, none⟩ = some (.slice aop lp cp) := ((R510.out.on (HQ.out.trans (hW1.mono hza))).cell 2).trans rfl
                    clear hd hv
                    have s106 := evalT t106
                    clear t106
                    refine fk_run ?_
                    go_simp
                  refine And.intro (fun u W A hW hBW hd hv hr => ?_) ?_
                  · have e3 : u 3 = .slice aop lp cp := hd 3 (by decide) (by kernel_rfl)
                    have t107 : A.eval (.tmp 107) = .slice aop lp cp := (hv 107 (by kernel_rfl)).trans ((by kernel_rfl : slotV _ _ _ u 107 = u 3).trans e3)
                    clear hd hv
                    have s107 := evalT t107
                    clear t107
                    refine fk_run ?_
                    go_simp
                  refine And.intro (fun u W A hW hBW hd hv hr => ?_) ?_
                  · have e4 : u 4 = .int .i64 (lp : Int) := hd 4 (by decide) (by kernel_rfl)
                    have t108 : A.eval (.tmp 108) = .int .i64 (lp : Int) := (hv 108 (by kernel_rfl)).trans ((by kernel_rfl : slotV _ _ _ u 108 = u 4).trans e4)
                    clear hd hv
                    have s108 := evalT t108
                    clear t108
                    refine fk_run ?_
                    go_simp
                    exact HWI.out
                  refine And.intro (fun u W A hW hBW hd hv hr => ?_) ?_
                  · have e1 : u 1 = .int .i64 idx := hd 1 (by decide) (by kernel_rfl)
                    have e5 : u 5 = .int .i64 ((2 : Int) ^ lp) := hd 5 (by decide) (by kernel_rfl)
                    have t105 : A.eval (.tmp 105) = .int .i64 idx := (hv 105 (by kernel_rfl)).trans ((by kernel_rfl : slotV _ _ _ u 105 = u 1).trans e1)
                    have t109 : A.eval (.tmp 109) = .int .i64 ((2 : Int) ^ lp) := (hv 109 (by kernel_rfl)).trans ((by kernel_rfl : slotV _ _ _ u 109 = u 5).trans e5)
                    clear hd hv
                    have s105 := evalT t105
                    have s109 := evalT t109
                    clear t105 t109
                    refine fk_run ?_
                    go_simp
                    exact IntWalk.i64_in _ (by omega)
                  refine And.intro (fun u W A hW hBW hd hv hr => ?_) ?_
                  · have t12 : A.eval (.tmp 12) = .pointer (some ⟨b12, 0, none⟩) := (hv 12 (by kernel_rfl)).trans (by kernel_rfl)
                    clear hd hv
                    have s12 := evalT t12
                    clear t12
                    refine fk_run ?_
                    go_simp
                  refine And.intro (fun u W A hW hBW hd hv hr => ?_) ?_
                  · have e6 : u 6 = .int .i64 (idx - (2 : Int) ^ lp) := hd 6 (by decide) (by kernel_rfl)
                    have e7 : u 7 = .pointer (some ⟨b12, 0, none⟩) := hd 7 (by decide) (by kernel_rfl)
                    have t111 : A.eval (.tmp 111) = .pointer (some ⟨b12, 0, none⟩) := (hv 111 (by kernel_rfl)).trans ((by kernel_rfl : slotV _ _ _ u 111 = u 7).trans e7)
                    have t110 : A.eval (.tmp 110) = .int .i64 (idx - (2 : Int) ^ lp) := (hv 110 (by kernel_rfl)).trans ((by kernel_rfl : slotV _ _ _ u 110 = u 6).trans e6)
                    have hW1 := below_undrew hW
                    have hob5 := (hr 8 b12 (by decide) (.inl rfl) ⟨rfl, rfl⟩).trans HRX.out
                    have hsz : wx.heap.size ≤ W.heap.size := hW1.size
                    clear hd hv
                    have s111 := evalT t111
                    have s110 := evalT t110
                    clear t111 t110
                    have hcl : W.cell? ⟨b12, 0, none⟩ = some (.int .i64 idx) := by rw [cell_of_row W b12 0 _ _ _ hob5]; rfl
                    have hfz : W.frozen? ⟨b12, 0, none⟩ = false := by simp [World.frozen?, hob5]
                    refine fk_store (b := b12) (i := 0) (v := .int .i64 (idx - (2 : Int) ^ lp)) (by go_simp) (by omega) (.inr ⟨rfl, rfl⟩) ?_
                    rw [heap_set_same W b12 0 _ _ _ _ hob5]; rfl
                  exact trivial
                intro u w11 hb hk2 hf
                have e8 : w11.heap[b12]? = some (.cells #[.int .i64 (idx - (2 : Int) ^ lp), .slice (some ⟨bs, os, none⟩) 18 cs, .slice aop lp cp] 29 (0, 0)) := hf 8 (by decide) (by decide)
                have hB : Below w10.heap.size w10 w11 := HQ.out.trans ((below_undrew hb).mono hza)
                have R1211 : Hid (RowIs b12 #[.int .i64 (idx - (2 : Int) ^ lp), .slice (some ⟨bs, os, none⟩) 18 cs, .slice aop lp cp] 29 w11) := Lib.hid ⟨(Array.getElem?_eq_some_iff.1 e8).1, e8⟩
                clear hf hb hk2 e8 hza hzb hsx HRX HQ
                have H11 := Lib.hid (H10.out.trans (hB.mono H10.out.size))
                have WS11 := Lib.hid (WS10.out.on hB)
                have WP11 := Lib.hid (WP10.out.on hB)
                have R511 := Lib.hid (R510.out.on hB)
                have R1011 := Lib.hid (R1010.out.on hB)
                have R1111 := Lib.hid (R1110.out.on hB)
                clear hB H10 WS10 WP10 R510 R1010 R1110
                simp only [List.take, List.drop, wpList, lexPut, Nat.zero_add, Nat.reduceAdd, Act.put, List.setIfInBounds_toArray, List.set_cons_succ, List.set_cons_zero]
                have c100 : w11.cell? ⟨b10, 0, none⟩ = some (.int .i64 idx) := (R1011.out.cell 0).trans rfl
                have c101 : w11.cell? ⟨b10, 1, none⟩ = some (.slice (some ⟨bs, os, none⟩) 17 cs) := (R1011.out.cell 1).trans rfl
                have c102 : w11.cell? ⟨b10, 2, none⟩ = some (.slice aop lp cp) := (R1011.out.cell 2).trans rfl
                go_wp2_with fail
                refine (verify_calls pub m idx _ _ (sig.take 17) path w11 (by omega) (by omega) (WS11.out.take 17 (by decide)) WP11.out (fun s hs => HSZ.out s (List.mem_of_mem_take hs)) HPZ.out (HT.out.on H11.out)).mono ?_
                rintro e w12 ⟨rfl, hB⟩
                clear c100 c101 c102
                have H12 := Lib.hid (H11.out.trans (hB.mono H11.out.size))
                have WS12 := Lib.hid (WS11.out.on hB)
                have WP12 := Lib.hid (WP11.out.on hB)
                have R512 := Lib.hid (R511.out.on hB)
                have R1012 := Lib.hid (R1011.out.on hB)
                have R1112 := Lib.hid (R1111.out.on hB)
                have R1212 := Lib.hid (R1211.out.on hB)
                clear hB H11 WS11 WP11 R511 R1011 R1111 R1211
                rw [HLESS.out]
                have c110 : w12.cell? ⟨b11, 0, none⟩ = some (.int .i64 (idx + (2 : Int) ^ lp)) := (R1112.out.cell 0).trans rfl
                have c111 : w12.cell? ⟨b11, 1, none⟩ = some (.slice (some ⟨bs, os, none⟩) 18 cs) := (R1112.out.cell 1).trans rfl
                have c112 : w12.cell? ⟨b11, 2, none⟩ = some (.slice aop lp cp) := (R1112.out.cell 2).trans rfl
                go_wp2_with fail
                refine (verify_calls pub m (idx + (2 : Int) ^ lp) _ _ sig path w12 (by omega) (by omega) WS12.out WP12.out HSZ.out HPZ.out (HT.out.on H12.out)).mono ?_
                rintro e w13 ⟨rfl, hB⟩
                clear c110 c111 c112
                have H13 := Lib.hid (H12.out.trans (hB.mono H12.out.size))
                have WS13 := Lib.hid (WS12.out.on hB)
                have WP13 := Lib.hid (WP12.out.on hB)
                have R513 := Lib.hid (R512.out.on hB)
                have R1013 := Lib.hid (R1012.out.on hB)
                have R1113 := Lib.hid (R1112.out.on hB)
                have R1213 := Lib.hid (R1212.out.on hB)
                clear hB H12 WS12 WP12 R512 R1012 R1112 R1212
                rw [HFAR.out]
                have c120 : w13.cell? ⟨b12, 0, none⟩ = some (.int .i64 (idx - (2 : Int) ^ lp)) := (R1213.out.cell 0).trans rfl
                have c121 : w13.cell? ⟨b12, 1, none⟩ = some (.slice (some ⟨bs, os, none⟩) 18 cs) := (R1213.out.cell 1).trans rfl
                have c122 : w13.cell? ⟨b12, 2, none⟩ = some (.slice aop lp cp) := (R1213.out.cell 2).trans rfl
                go_wp2_with fail
                refine (verify_calls pub m (idx - (2 : Int) ^ lp) _ _ sig path w13 (by omega) (by omega) WS13.out WP13.out HSZ.out HPZ.out (HT.out.on H13.out)).mono ?_
                rintro e w14 ⟨rfl, hB⟩
                clear c120 c121 c122
                have H14 := Lib.hid (H13.out.trans (hB.mono H13.out.size))
                have WS14 := Lib.hid (WS13.out.on hB)
                have WP14 := Lib.hid (WP13.out.on hB)
                have R514 := Lib.hid (R513.out.on hB)
                have R1014 := Lib.hid (R1013.out.on hB)
                have R1114 := Lib.hid (R1113.out.on hB)
                have R1214 := Lib.hid (R1213.out.on hB)
                clear hB H13 WS13 WP13 R513 R1013 R1113 R1213
                rw [HBEL.out]
                go_wp2
                go_ret
                exact ⟨rfl, H14.out⟩
namespace sealForm
theorem walk {w : World} (hT : Tabs w) (s : ByteArray) (ws : s.size ≤ maxLen) (m : ByteArray) (wm : m.size ≤ maxLen) (v : Value) (x : Int × List ByteArray × List ByteArray) (hx : SealIn w v x) :
    Calls Tryd.prog 5 #[.string s, .string m, v] w fun e w' => e = .returned (.bool true) ∧ Below w.heap.size w w' := by
  obtain ⟨⟨vs, vp, rfl, h1, h2⟩, _, _, h3, h4⟩ := hx
  exact form_law s m x.1 vs vp x.2.1 x.2.2 w ws wm h1 h2 h3 h4 hT
end sealForm
end Go.Proofs.YtpogffdbencfnaaDoor
