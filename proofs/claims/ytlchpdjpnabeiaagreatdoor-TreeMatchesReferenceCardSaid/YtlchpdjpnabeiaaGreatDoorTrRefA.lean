import Derived.Test.YtlchpdjpnabeiaaGreatDoorTrUp
import Derived.Test.YtlchpdjpnabeiaaGreatDoorTrRoot
import Derived.Test.YtlchpdjpnabeiaaGreatDoorDgRefE
set_option linter.unusedVariables false
namespace Go.Proofs.YtlchpdjpnabeiaaGreatDoor
open Go Go.RowKit

theorem rlit_calls (ls : List ByteArray) (w : World) (h : ∀ s ∈ ls, s.size ≤ 1099511627776) (h3 : ls.length ≤ 30) :
    Calls Tryz.prog 44 #[.slice (some ⟨w.heap.size, 0, none⟩) ls.length ls.length] (w.alloc (.cells (ls.map Value.string).toArray 9)) fun e w' => e = .returned (.string (dg ls)) ∧ Below w.heap.size w w' := by
  have hb := (Below.refl w.heap.size w).alloc (Nat.le_refl _) (.cells (ls.map Value.string).toArray 9)
  have h1 := join_le 1099511627776 ls h (Nat.le_refl _)
  have h2 := need_le 1099511627776 ls h
  have h4 : (1099511627776 + 21) * ls.length ≤ (1099511627776 + 21) * 30 := Nat.mul_le_mul_left _ h3
  refine (rlist_calls _ ls _ (strs_lit w ls (by unfold maxLen; omega)) (by omega) (by omega)).mono ?_
  rintro e w' ⟨rfl, h⟩
  exact ⟨rfl, hb.trans (h.mono hb.size)⟩
theorem jlit_calls (ls : List ByteArray) (w : World) (h : ∀ s ∈ ls, s.size ≤ 1099511627776) (h3 : ls.length ≤ 30) :
    Calls Tryz.prog 57 #[.slice (some ⟨w.heap.size, 0, none⟩) ls.length ls.length] (w.alloc (.cells (ls.map Value.string).toArray 9)) fun e w' => e = .returned (.string (jB ls)) ∧ Below w.heap.size w w' := by
  have hb := (Below.refl w.heap.size w).alloc (Nat.le_refl _) (.cells (ls.map Value.string).toArray 9)
  have h1 := join_le 1099511627776 ls h (Nat.le_refl _)
  have h2 := need_le 1099511627776 ls h
  have h4 : (1099511627776 + 21) * ls.length ≤ (1099511627776 + 21) * 30 := Nat.mul_le_mul_left _ h3
  refine (joined_calls _ ls _ (strs_lit w ls (by unfold maxLen; omega)) (by omega) (by omega)).mono ?_
  rintro e w' ⟨rfl, h⟩
  exact ⟨rfl, hb.trans (h.mono hb.size)⟩
theorem rempty_calls (w : World) : Calls Tryz.prog 24 #[] w fun e w' => e = .returned (.string (dg [sEmpty])) ∧ Below w.heap.size w w' := by
  go_enter Tryz.func24, Tryz.ntmps24
  go_wp2_with fail
  refine (rlit_calls [sEmpty] w (by simp; decide) (by decide)).mono ?_
  rintro e w1 ⟨rfl, h1⟩
  go_wp2
  go_ret
  exact ⟨rfl, h1⟩
theorem rleaf_calls (s : ByteArray) (w : World) (hs : s.size ≤ 1099511627776) : Calls Tryz.prog 25 #[.string s] w fun e w' => e = .returned (.string (dg [sLeaf, s])) ∧ Below w.heap.size w w' := by
  go_enter Tryz.func25, Tryz.ntmps25
  go_wp2_with fail
  refine (rlit_calls [sLeaf, s] w (by simp; exact ⟨by decide, hs⟩) (by decide : 2 ≤ 30)).mono ?_
  rintro e w1 ⟨rfl, h1⟩
  go_wp2
  go_ret
  exact ⟨rfl, h1⟩
theorem rnode_calls (a b : ByteArray) (w : World) (ha : a.size ≤ 1099511627776) (hb : b.size ≤ 1099511627776) : Calls Tryz.prog 27 #[.string a, .string b] w fun e w' => e = .returned (.string (dg [sNode, a, b])) ∧ Below w.heap.size w w' := by
  go_enter Tryz.func27, Tryz.ntmps27
  go_wp2_with fail
  refine (rlit_calls [sNode, a, b] w (by simp; exact ⟨by decide, ha, hb⟩) (by decide : 3 ≤ 30)).mono ?_
  rintro e w1 ⟨rfl, h1⟩
  go_wp2
  go_ret
  exact ⟨rfl, h1⟩
set_option maxRecDepth 100000 in
set_option maxHeartbeats 1000000 in
theorem rroot_calls (m : Nat) : ∀ (l : List ByteArray) (v : Value) (w : World), l.length = m → IsStrC w v l → (∀ s ∈ l, s.size ≤ 1099511627776) → l.length ≤ 1099511627776 →
    Calls Tryz.prog 11 #[v] w fun e w' => e = .returned (.string (rootT l)) ∧ Below w.heap.size w w' := by
  induction m using Nat.strongRecOn with
  | _ m ih =>
  intro l v w hm hv hs hl
  have HV := Lib.hid hv
  obtain ⟨ao, cap, rfl, hlc, hmax, hcells⟩ := hv
  have HS := Lib.hid hs
  have HC := Lib.hid hcells
  clear hs hcells hmax
  match l, hm, hl, hlc, HV, HS, HC with
  | [], hm, hl, hlc, HV, HS, HC =>
    clear HV HS HC ih
    go_enter Tryz.func11, Tryz.ntmps11
    go_wp2_with fail
    refine (rempty_calls w).mono ?_
    rintro e w1 ⟨rfl, h1⟩
    go_wp2
    go_ret
    exact ⟨by rw [rootT_nil]; rfl, h1⟩
  | [s], hm, hl, hlc, HV, HS, HC =>
    obtain ⟨b, o, rfl, hlt, hc⟩ := HC.out 0 (show 0 < 1 by decide)
    have hss := HS.out s (by simp)
    have hc : w.cell? ⟨b, o, none⟩ = some (.string s) := hc
    clear HV HS HC ih
    go_enter Tryz.func11, Tryz.ntmps11
    go_wp2_with fail
    refine (rleaf_calls s w hss).mono ?_
    rintro e w1 ⟨rfl, h1⟩
    go_wp2
    go_ret
    exact ⟨by rw [rootT_one]; rfl, h1⟩
  | x :: y :: r, hm, hl, hlc, HV, HS, HC =>
    obtain ⟨b, o, rfl, hlt, hc0⟩ := HC.out 0 (by simp)
    clear hc0
    obtain ⟨z, hz⟩ : ∃ z, z = x :: y :: r := ⟨_, rfl⟩
    rw [← hz] at hm hl hlc HV HS HC ⊢
    have h2 : 2 ≤ z.length := by rw [hz]; simp
    clear hz x y r
    have HR := Lib.hid (rootT_many h2)
    have hk1 := half_lt h2
    have hk0 := half_pos h2
    have hsl1 := run_slice_to (b := b) (o := o) (n := z.length) (cap := cap) (k := half z.length) (by omega)
    have hsl2 := run_slice_from (b := b) (o := o) (n := z.length) (cap := cap) (k := half z.length) (by omega) (by omega) (by omega)
    have HV1 := Lib.hid (HV.out.take (half z.length) (by omega))
    have HV2 := Lib.hid (HV.out.drop (half z.length) (by omega))
    have hl1 : (z.take (half z.length)).length = half z.length := by rw [List.length_take]; omega
    have hl2 : (z.drop (half z.length)).length = z.length - half z.length := by rw [List.length_drop]
    have HI1 := Lib.hid (fun w' hb => ih (half z.length) (by omega) (z.take (half z.length)) _ w' hl1 (HV1.out.on hb) (fun s hs => HS.out s (List.mem_of_mem_take hs)) (by omega))
    have HI2 := Lib.hid (fun w' hb => ih (z.length - half z.length) (by omega) (z.drop (half z.length)) _ w' hl2 (HV2.out.on hb) (fun s hs => HS.out s (List.mem_of_mem_drop hs)) (by omega))
    have hh := fun W => rhalf_calls z.length h2 hl W
    clear ih HV HS HC HV1 HV2 hl1 hl2
    have hr1 := root_size (z.take (half z.length))
    have hr2 := root_size (z.drop (half z.length))
    have hn0 : z.length ≠ 0 := by omega
    have hn1 : z.length ≠ 1 := by omega
    obtain ⟨n, hn⟩ : ∃ n, n = z.length := ⟨_, rfl⟩
    obtain ⟨k, hk⟩ : ∃ k, k = half z.length := ⟨_, rfl⟩
    rw [← hk] at hk1 hk0 hsl1 hsl2 HI1 HI2 HR hh hr1 hr2
    rw [← hn] at hsl1 hsl2 HI2 hh hn0 hn1 hk1 ⊢
    generalize rootT (z.take k) = r1 at *
    generalize rootT (z.drop k) = r2 at *
    clear hk hn hm hl hlc h2
    go_enter Tryz.func11, Tryz.ntmps11
    go_wp2_with fail
    refine (hh _).mono ?_
    rintro e w1 ⟨rfl, rfl⟩
    clear hh
    go_wp2_with fail
    refine wp_region_any (by kernel_rfl) ?_
    change wpAny _ _ _ _ _ _ _ (World.drew _)
    refine wpAny_take (i := 0) (v := .slice (some ⟨b, o, none⟩) n cap) rfl (by kernel_rfl) (by kernel_rfl) (by kernel_rfl) (fun _ _ _ h => h) (Or.inl ⟨by kernel_rfl, fun W => by go_simp⟩) ?_
    refine wpAny_take (i := 1) (v := .int .i64 (k : Int)) rfl (by kernel_rfl) (by kernel_rfl) (by kernel_rfl) (fun _ _ _ h => h) (Or.inl ⟨by kernel_rfl, fun W => by go_simp⟩) ?_
    refine wpAny_take (i := 2) (v := .slice (some ⟨b, o, none⟩) k cap) rfl (by kernel_rfl) (by kernel_rfl) (by kernel_rfl) (fun _ _ _ h => h) (Or.inl ⟨by kernel_rfl, fun W => by go_simp⟩) ?_
    refine wpAny_take (i := 4) (v := .slice (some ⟨b, o, none⟩) n cap) rfl (by kernel_rfl) (by kernel_rfl) (by kernel_rfl) (fun _ _ _ h => h) (Or.inl ⟨by kernel_rfl, fun W => by go_simp⟩) ?_
    refine wpAny_take (i := 5) (v := .int .i64 (k : Int)) rfl (by kernel_rfl) (by kernel_rfl) (by kernel_rfl) (fun _ _ _ h => h) (Or.inl ⟨by kernel_rfl, fun W => by go_simp⟩) ?_
    refine wpAny_take (i := 6) (v := .slice (some ⟨b, o + k, none⟩) (n - k) (cap - k)) rfl (by kernel_rfl) (by kernel_rfl) (by kernel_rfl) (fun _ _ _ h => h) (Or.inl ⟨by kernel_rfl, fun W => by go_simp⟩) ?_
    refine wpAny_ready (rs := [3]) (by kernel_rfl) (by simp) ?_
    refine AllReady.cons rfl (fun K hK => ?_) AllReady.nil
    go_simp
    have hb0 := (Below.refl w1.heap.size w1).drew
    refine (HI1.out _ hb0).mono ?_
    rintro e w2 ⟨rfl, h2⟩
    have H2 := Lib.hid (hb0.trans (h2.mono hb0.size))
    clear h2 hb0
    refine hK _ _ ?_
    clear hK K
    refine wpAny_ready (rs := [7]) (by kernel_rfl) (by simp) ?_
    refine AllReady.cons rfl (fun K hK => ?_) AllReady.nil
    go_simp
    refine (HI2.out _ H2.out).mono ?_
    rintro e w3 ⟨rfl, h3⟩
    have H3 := Lib.hid (H2.out.trans (h3.mono H2.out.size))
    clear h3
    refine hK _ _ ?_
    clear hK K
    refine wpAny_ready (rs := [8]) (by kernel_rfl) (by simp) ?_
    refine AllReady.cons rfl (fun K hK => ?_) AllReady.nil
    go_simp
    refine (rnode_calls r1 r2 w3 (by omega) (by omega)).mono ?_
    rintro e w4 ⟨rfl, h4⟩
    have H4 := Lib.hid (H3.out.trans (h4.mono H3.out.size))
    clear h4
    refine hK _ _ ?_
    clear hK K
    rw [← HR.out]
    refine wpAny_take (i := 9) (v := .string (rootT z)) rfl (by kernel_rfl) (by kernel_rfl) (by kernel_rfl) (fun _ _ _ h => h) (Or.inl ⟨by kernel_rfl, fun W => by go_simp⟩) ?_
    refine wpAny_done (by kernel_rfl) ?_ _
    go_wp2
    go_ret
    exact ⟨rfl, H4.out⟩

/-- the last element, and the others -/
theorem last_of {w : World} {v : Value} {p : List ByteArray} (h : IsStrC w v p) (hp : 0 < p.length) : ∃ b o cap, v = .slice (some ⟨b, o, none⟩) p.length cap ∧ p.length ≤ cap ∧ cap ≤ 9223372036854775807 ∧
    w.cell? ⟨b, o + (p.length - 1), none⟩ = some (.string (popV p)) ∧ IsStrC w (.slice (some ⟨b, o, none⟩) (p.length - 1) cap) p.dropLast ∧ p.dropLast.length = p.length - 1 := by
  have h' := h
  obtain ⟨ao, cap, rfl, h1, h2, h3⟩ := h
  obtain ⟨b, o, rfl, hlt, hc⟩ := h3 (p.length - 1) (by omega)
  refine ⟨b, o, cap, rfl, h1, h2, ?_, ?_, by simp⟩
  · rw [hc]
    congr 2
    unfold popV
    rw [List.getLast?_eq_getElem?]
    rfl
  · have := h'.take (p.length - 1) (by omega)
    rwa [← List.dropLast_eq_take] at this
set_option maxRecDepth 100000 in
set_option maxHeartbeats 1000000 in
theorem rup_calls (n : Nat) : ∀ (i : Nat) (d : ByteArray) (p : List ByteArray) (v : Value) (w : World), 1 ≤ n → n ≤ 1000000 → i < n → d.size = 16 → IsStrC w v p → (∀ s ∈ p, s.size ≤ 1099511627776) → p.length = lenT n i →
    Calls Tryz.prog 35 #[.int .i64 (n : Int), .int .i64 (i : Int), .string d, v] w fun e w' => e = .returned (.string (upT n i d p)) ∧ Below w.heap.size w w' := by
  induction n using Nat.strongRecOn with
  | _ n ih =>
  intro i d p v w hn1 hn hi hd hv hs hp
  by_cases h1 : n = 1
  · subst h1
    have HU := Lib.hid (upT_one i d p)
    clear ih hv hs hp
    go_enter Tryz.func35, Tryz.ntmps35
    go_wp2
    go_ret
    exact ⟨by rw [HU.out]; rfl, Below.refl _ _⟩
  · have h2 : 2 ≤ n := by omega
    have hk1 := half_lt h2
    have hk0 := half_pos h2
    have hh := fun W => rhalf_calls n h2 (by omega) W
    have HM := Lib.hid (upT_many h2 i d p)
    have HL := Lib.hid (lenT_many h2 i)
    have hp0 : 0 < p.length := by rw [hp]; exact len_pos h2 i
    obtain ⟨b, o, cap, rfl, hlc, hcm, hc, hvd, hdl⟩ := last_of hv hp0
    have HV := Lib.hid hvd
    have hps : (popV p).size ≤ 1099511627776 := by
      unfold popV
      cases hl : p.getLast? with
      | none => exact Nat.zero_le _
      | some a => exact hs a (List.mem_of_getLast? hl)
    have hs2 : ∀ s ∈ p.dropLast, s.size ≤ 1099511627776 := fun s hx => hs s (List.dropLast_subset p hx)
    have HIH := Lib.hid ih
    have HS2 := Lib.hid hs2
    clear ih hv hs hvd hs2
    obtain ⟨k, hk⟩ : ∃ k, k = half n := ⟨_, rfl⟩
    rw [← hk] at hk1 hk0 hh HM HL
    clear hk
    have hnn : ((n : Int) == 1) = false := by rw [beq_eq_false_iff_ne]; omega
    obtain ⟨q, hq⟩ : ∃ q, q + 1 = p.length := ⟨p.length - 1, by omega⟩
    have hq1 : p.length - 1 = q := by omega
    rw [hq1] at hc HV hdl
    rw [← hq] at hlc hp ⊢
    clear hq hp0 hq1
    by_cases hik : i < k
    · have hik' : (i : Int) < (k : Int) := by omega
      rw [if_pos hik] at HM HL
      have hlen : p.dropLast.length = lenT k i := by rw [hdl]; have := HL.out; omega
      have hus := upT_size k i d p.dropLast hd
      have hsl := run_slice_to (b := b) (o := o) (n := q + 1) (cap := cap) (k := q) (by omega)
      have HC := Lib.hid (fun W hb => HIH.out k hk1 i d p.dropLast _ W (by omega) (by omega) hik hd (HV.out.on hb) HS2.out hlen)
      clear HIH HL hlen hp
      go_enter Tryz.func35, Tryz.ntmps35
      go_wp2_with fail
      refine (hh _).mono ?_
      rintro e w1 ⟨rfl, rfl⟩
      clear hh
      go_wp2_with fail
      refine (HC.out _ (Below.refl _ _)).mono ?_
      rintro e w2 ⟨rfl, h2⟩
      have H2 := Lib.hid h2
      clear h2
      go_wp2_with fail
      refine (rnode_calls _ _ w2 (by omega) hps).mono ?_
      rintro e w3 ⟨rfl, h3⟩
      have H3 := Lib.hid (H2.out.trans (h3.mono H2.out.size))
      clear h3
      go_wp2
      go_ret
      exact ⟨by rw [HM.out]; rfl, H3.out⟩
    · have hik' : ¬ (i : Int) < (k : Int) := by omega
      rw [if_neg hik] at HM HL
      have hlen : p.dropLast.length = lenT (n - k) (i - k) := by rw [hdl]; have := HL.out; omega
      have hus := upT_size (n - k) (i - k) d p.dropLast hd
      have hsl := run_slice_to (b := b) (o := o) (n := q + 1) (cap := cap) (k := q) (by omega)
      have hC := (fun W hb => HIH.out (n - k) (by omega) (i - k) d p.dropLast _ W (by omega) (by omega) (by omega) hd (HV.out.on hb) HS2.out hlen)
      rw [show ((n - k : Nat) : Int) = (n : Int) - (k : Int) by omega, show ((i - k : Nat) : Int) = (i : Int) - (k : Int) by omega] at hC
      have HC := Lib.hid hC
      clear HIH HL hlen hp hC
      go_enter Tryz.func35, Tryz.ntmps35
      go_wp2_with fail
      refine (hh _).mono ?_
      rintro e w1 ⟨rfl, rfl⟩
      clear hh
      go_wp2_with fail
      refine (HC.out _ (Below.refl _ _)).mono ?_
      rintro e w2 ⟨rfl, h2⟩
      have H2 := Lib.hid h2
      clear h2
      go_wp2_with fail
      refine (rnode_calls _ _ w2 hps (by omega)).mono ?_
      rintro e w3 ⟨rfl, h3⟩
      have H3 := Lib.hid (H2.out.trans (h3.mono H2.out.size))
      clear h3
      go_wp2
      go_ret
      exact ⟨by rw [HM.out]; rfl, H3.out⟩
end Go.Proofs.YtlchpdjpnabeiaaGreatDoor
