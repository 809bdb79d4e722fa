import Derived.Test.YtpogffdbencfnaaGreatDoorDgRefE
import Derived.Test.YtpogffdbencfnaaGreatDoorTrHalf
import Derived.Test.YtpogffdbencfnaaGreatDoorTrUp
import Derived.Test.YtpogffdbencfnaaGreatDoorTrRoot
import Derived.Test.YtpogffdbencfnaaGreatDoorTrJlit
import Derived.Test.YtpogffdbencfnaaGreatDoorTrTextsO
import Derived.Test.YtpogffdbencfnaaGreatDoorTrApp
import Derived.Test.YtpogffdbencfnaaGreatDoorDgRefC
import Derived.Test.YtpogffdbencfnaaGreatDoorTrCheck
import Derived.BigQuiet
set_option linter.unusedVariables false
namespace Go.Proofs.YtpogffdbencfnaaGreatDoor
open Go Go.RowKit

theorem rlist_calls (v : Value) (ls : List ByteArray) (w : World) (hv : IsStrs w v ls) (hN : needN ls ≤ 70368744177664) (hJ : (joinB ls).length ≤ 70368744177664) :
    Calls Tryz.prog 43 #[v] w fun e w' => e = .returned (.string (sumS (bS (joinB ls)))) ∧ Below w.heap.size w w' := by
  have hs : (bS (joinB ls)).size ≤ 4611686018427387904 := by rw [bS_size]; omega
  go_enter Tryz.func43, Tryz.ntmps43
  go_wp2_with fail
  refine (joined_calls v ls w hv hN hJ).mono ?_
  rintro e w1 ⟨rfl, h1⟩
  go_wp2_with fail
  refine (rsum_calls (bS (joinB ls)) hs w1).mono ?_
  rintro e w2 ⟨rfl, rfl⟩
  go_wp2
  go_ret
  exact ⟨rfl, h1⟩
end Go.Proofs.YtpogffdbencfnaaGreatDoor

namespace Go.Proofs.YtpogffdbencfnaaGreatDoor
open Go Go.RowKit

theorem rhalf_calls (n : Nat) (h1 : 2 ≤ n) (h2 : n ≤ 1099511627776) (w : World) :
    Calls Tryz.prog 55 #[.int .i64 (n : Int)] w fun e w' => e = .returned (.int .i64 ((half n : Nat) : Int)) ∧ w' = w := by
  go_enter Tryz.func55, Tryz.ntmps55
  go_wp2_with fail
  go_loop [3] (fun vk => ∃ k : Nat, vk = .int .i64 (k : Int) ∧ 0 < k ∧ k < n ∧ Hid (halfGo k n = half n)) (fun vk => n - (RowKit.intOf vk).toNat)
  case atStart => exact ⟨1, rfl, by omega, by omega, Lib.hid rfl⟩
  case round =>
    obtain ⟨k, rfl, hk0, hkn, HK⟩ := hrel
    by_cases hlt : 2 * k < n
    · have HS : Hid (halfGo (2 * k) n = half n) := by rw [halfGo_step hk0 hlt]; exact HK
      have hl3 : 2 * (k : Int) < n := by omega
      go_wp2
      refine ⟨⟨2 * k, ?_, by omega, hlt, HS⟩, ?_⟩
      · congr 1
      · simp only [RowKit.intOf]; omega
    · have HE : Hid (k = half n) := by rw [← HK.out, halfGo_end hlt]; exact Lib.hid rfl
      have hl3 : ¬ 2 * (k : Int) < n := by omega
      go_wp2
      go_ret
      exact ⟨by rw [← HE.out]; rfl, rfl⟩
end Go.Proofs.YtpogffdbencfnaaGreatDoor

namespace Go.Proofs.YtpogffdbencfnaaGreatDoor
open Go Go.RowKit

theorem rlit_calls (ls : List ByteArray) (w : World) (h : ∀ s ∈ ls, s.size ≤ 1099511627776) (h3 : ls.length ≤ 30) :
    Calls Tryz.prog 43 #[.slice (some ⟨w.heap.size, 0, none⟩) ls.length ls.length] (w.alloc (.cells (ls.map Value.string).toArray 9)) fun e w' => e = .returned (.string (dg ls)) ∧ Below w.heap.size w w' := by
  have hb := (Below.refl w.heap.size w).alloc (Nat.le_refl _) (.cells (ls.map Value.string).toArray 9)
  have h1 := join_le 1099511627776 ls h (Nat.le_refl _)
  have h2 := need_le 1099511627776 ls h
  have h4 : (1099511627776 + 21) * ls.length ≤ (1099511627776 + 21) * 30 := Nat.mul_le_mul_left _ h3
  refine (rlist_calls _ ls _ (strs_lit w ls (by unfold maxLen; omega)) (by omega) (by omega)).mono ?_
  rintro e w' ⟨rfl, h⟩
  exact ⟨rfl, hb.trans (h.mono hb.size)⟩
theorem rempty_calls (w : World) : Calls Tryz.prog 53 #[] w fun e w' => e = .returned (.string (dg [sEmpty])) ∧ Below w.heap.size w w' := by
  go_enter Tryz.func53, Tryz.ntmps53
  go_wp2_with fail
  refine (rlit_calls [sEmpty] w (by simp; decide) (by decide)).mono ?_
  rintro e w1 ⟨rfl, h1⟩
  go_wp2
  go_ret
  exact ⟨rfl, h1⟩
theorem rleaf_calls (s : ByteArray) (w : World) (hs : s.size ≤ 1099511627776) : Calls Tryz.prog 54 #[.string s] w fun e w' => e = .returned (.string (dg [sLeaf, s])) ∧ Below w.heap.size w w' := by
  go_enter Tryz.func54, Tryz.ntmps54
  go_wp2_with fail
  refine (rlit_calls [sLeaf, s] w (by simp; exact ⟨by decide, hs⟩) (by decide : 2 ≤ 30)).mono ?_
  rintro e w1 ⟨rfl, h1⟩
  go_wp2
  go_ret
  exact ⟨rfl, h1⟩
theorem rnode_calls (a b : ByteArray) (w : World) (ha : a.size ≤ 1099511627776) (hb : b.size ≤ 1099511627776) : Calls Tryz.prog 56 #[.string a, .string b] w fun e w' => e = .returned (.string (dg [sNode, a, b])) ∧ Below w.heap.size w w' := by
  go_enter Tryz.func56, Tryz.ntmps56
  go_wp2_with fail
  refine (rlit_calls [sNode, a, b] w (by simp; exact ⟨by decide, ha, hb⟩) (by decide : 3 ≤ 30)).mono ?_
  rintro e w1 ⟨rfl, h1⟩
  go_wp2
  go_ret
  exact ⟨rfl, h1⟩
set_option maxRecDepth 100000 in
set_option maxHeartbeats 1000000 in
theorem rroot_calls (m : Nat) : ∀ (l : List ByteArray) (v : Value) (w : World), l.length = m → IsStrC w v l → (∀ s ∈ l, s.size ≤ 1099511627776) → l.length ≤ 1099511627776 →
    Calls Tryz.prog 23 #[v] w fun e w' => e = .returned (.string (rootT l)) ∧ Below w.heap.size w w' := by
  induction m using Nat.strongRecOn with
  | _ m ih =>
  intro l v w hm hv hs hl
  have HV := Lib.hid hv
  obtain ⟨ao, cap, rfl, hlc, hmax, hcells⟩ := hv
  have HS := Lib.hid hs
  have HC := Lib.hid hcells
  clear hs hcells hmax
  match l, hm, hl, hlc, HV, HS, HC with
  | [], hm, hl, hlc, HV, HS, HC =>
    clear HV HS HC ih
    go_enter Tryz.func23, Tryz.ntmps23
    go_wp2_with fail
    refine (rempty_calls w).mono ?_
    rintro e w1 ⟨rfl, h1⟩
    go_wp2
    go_ret
    exact ⟨by rw [rootT_nil]; rfl, h1⟩
  | [s], hm, hl, hlc, HV, HS, HC =>
    obtain ⟨b, o, rfl, hlt, hc⟩ := HC.out 0 (show 0 < 1 by decide)
    have hss := HS.out s (by simp)
    have hc : w.cell? ⟨b, o, none⟩ = some (.string s) := hc
    clear HV HS HC ih
    go_enter Tryz.func23, Tryz.ntmps23
    go_wp2_with fail
    refine (rleaf_calls s w hss).mono ?_
    rintro e w1 ⟨rfl, h1⟩
    go_wp2
    go_ret
    exact ⟨by rw [rootT_one]; rfl, h1⟩
  | x :: y :: r, hm, hl, hlc, HV, HS, HC =>
    obtain ⟨b, o, rfl, hlt, hc0⟩ := HC.out 0 (by simp)
    clear hc0
    obtain ⟨z, hz⟩ : ∃ z, z = x :: y :: r := ⟨_, rfl⟩
    rw [← hz] at hm hl hlc HV HS HC ⊢
    have h2 : 2 ≤ z.length := by rw [hz]; simp
    clear hz x y r
    have HR := Lib.hid (rootT_many h2)
    have hk1 := half_lt h2
    have hk0 := half_pos h2
    have hsl1 := run_slice_to (b := b) (o := o) (n := z.length) (cap := cap) (k := half z.length) (by omega)
    have hsl2 := run_slice_from (b := b) (o := o) (n := z.length) (cap := cap) (k := half z.length) (by omega) (by omega) (by omega)
    have HV1 := Lib.hid (HV.out.take (half z.length) (by omega))
    have HV2 := Lib.hid (HV.out.drop (half z.length) (by omega))
    have hl1 : (z.take (half z.length)).length = half z.length := by rw [List.length_take]; omega
    have hl2 : (z.drop (half z.length)).length = z.length - half z.length := by rw [List.length_drop]
    have HI1 := Lib.hid (fun w' hb => ih (half z.length) (by omega) (z.take (half z.length)) _ w' hl1 (HV1.out.on hb) (fun s hs => HS.out s (List.mem_of_mem_take hs)) (by omega))
    have HI2 := Lib.hid (fun w' hb => ih (z.length - half z.length) (by omega) (z.drop (half z.length)) _ w' hl2 (HV2.out.on hb) (fun s hs => HS.out s (List.mem_of_mem_drop hs)) (by omega))
    have hh := fun W => rhalf_calls z.length h2 hl W
    clear ih HV HS HC HV1 HV2 hl1 hl2
    have hr1 := root_size (z.take (half z.length))
    have hr2 := root_size (z.drop (half z.length))
    have hn0 : z.length ≠ 0 := by omega
    have hn1 : z.length ≠ 1 := by omega
    obtain ⟨n, hn⟩ : ∃ n, n = z.length := ⟨_, rfl⟩
    obtain ⟨k, hk⟩ : ∃ k, k = half z.length := ⟨_, rfl⟩
    rw [← hk] at hk1 hk0 hsl1 hsl2 HI1 HI2 HR hh hr1 hr2
    rw [← hn] at hsl1 hsl2 HI2 hh hn0 hn1 hk1 ⊢
    generalize rootT (z.take k) = r1 at *
    generalize rootT (z.drop k) = r2 at *
    clear hk hn hm hl hlc h2
    go_enter Tryz.func23, Tryz.ntmps23
    go_wp2_with fail
    refine (hh _).mono ?_
    rintro e w1 ⟨rfl, rfl⟩
    clear hh
    go_wp2_with fail
    refine wp_region_any (by kernel_rfl) ?_
    change wpAny _ _ _ _ _ _ _ (World.drew _)
    refine wpAny_take (i := 0) (v := .slice (some ⟨b, o, none⟩) n cap) rfl (by kernel_rfl) (by kernel_rfl) (by kernel_rfl) (fun _ _ _ h => h) (Or.inl ⟨by kernel_rfl, fun W => by go_simp⟩) ?_
    refine wpAny_take (i := 1) (v := .int .i64 (k : Int)) rfl (by kernel_rfl) (by kernel_rfl) (by kernel_rfl) (fun _ _ _ h => h) (Or.inl ⟨by kernel_rfl, fun W => by go_simp⟩) ?_
    refine wpAny_take (i := 2) (v := .slice (some ⟨b, o, none⟩) k cap) rfl (by kernel_rfl) (by kernel_rfl) (by kernel_rfl) (fun _ _ _ h => h) (Or.inl ⟨by kernel_rfl, fun W => by go_simp⟩) ?_
    refine wpAny_take (i := 4) (v := .slice (some ⟨b, o, none⟩) n cap) rfl (by kernel_rfl) (by kernel_rfl) (by kernel_rfl) (fun _ _ _ h => h) (Or.inl ⟨by kernel_rfl, fun W => by go_simp⟩) ?_
    refine wpAny_take (i := 5) (v := .int .i64 (k : Int)) rfl (by kernel_rfl) (by kernel_rfl) (by kernel_rfl) (fun _ _ _ h => h) (Or.inl ⟨by kernel_rfl, fun W => by go_simp⟩) ?_
    refine wpAny_take (i := 6) (v := .slice (some ⟨b, o + k, none⟩) (n - k) (cap - k)) rfl (by kernel_rfl) (by kernel_rfl) (by kernel_rfl) (fun _ _ _ h => h) (Or.inl ⟨by kernel_rfl, fun W => by go_simp⟩) ?_
    refine wpAny_ready (rs := [3]) (by kernel_rfl) (by simp) ?_
    refine AllReady.cons rfl (fun K hK => ?_) AllReady.nil
    go_simp
    have hb0 := (Below.refl w1.heap.size w1).drew
    refine (HI1.out _ hb0).mono ?_
    rintro e w2 ⟨rfl, h2⟩
    have H2 := Lib.hid (hb0.trans (h2.mono hb0.size))
    clear h2 hb0
    refine hK _ _ ?_
    clear hK K
    refine wpAny_ready (rs := [7]) (by kernel_rfl) (by simp) ?_
    refine AllReady.cons rfl (fun K hK => ?_) AllReady.nil
    go_simp
    refine (HI2.out _ H2.out).mono ?_
    rintro e w3 ⟨rfl, h3⟩
    have H3 := Lib.hid (H2.out.trans (h3.mono H2.out.size))
    clear h3
    refine hK _ _ ?_
    clear hK K
    refine wpAny_ready (rs := [8]) (by kernel_rfl) (by simp) ?_
    refine AllReady.cons rfl (fun K hK => ?_) AllReady.nil
    go_simp
    refine (rnode_calls r1 r2 w3 (by omega) (by omega)).mono ?_
    rintro e w4 ⟨rfl, h4⟩
    have H4 := Lib.hid (H3.out.trans (h4.mono H3.out.size))
    clear h4
    refine hK _ _ ?_
    clear hK K
    rw [← HR.out]
    refine wpAny_take (i := 9) (v := .string (rootT z)) rfl (by kernel_rfl) (by kernel_rfl) (by kernel_rfl) (fun _ _ _ h => h) (Or.inl ⟨by kernel_rfl, fun W => by go_simp⟩) ?_
    refine wpAny_done (by kernel_rfl) ?_ _
    go_wp2
    go_ret
    exact ⟨rfl, H4.out⟩

/-- the last element, and the others -/
theorem last_of {w : World} {v : Value} {p : List ByteArray} (h : IsStrC w v p) (hp : 0 < p.length) : ∃ b o cap, v = .slice (some ⟨b, o, none⟩) p.length cap ∧ p.length ≤ cap ∧ cap ≤ 9223372036854775807 ∧
    w.cell? ⟨b, o + (p.length - 1), none⟩ = some (.string (popV p)) ∧ IsStrC w (.slice (some ⟨b, o, none⟩) (p.length - 1) cap) p.dropLast ∧ p.dropLast.length = p.length - 1 := by
  have h' := h
  obtain ⟨ao, cap, rfl, h1, h2, h3⟩ := h
  obtain ⟨b, o, rfl, hlt, hc⟩ := h3 (p.length - 1) (by omega)
  refine ⟨b, o, cap, rfl, h1, h2, ?_, ?_, by simp⟩
  · rw [hc]
    congr 2
    unfold popV
    rw [List.getLast?_eq_getElem?]
    rfl
  · have := h'.take (p.length - 1) (by omega)
    rwa [← List.dropLast_eq_take] at this
set_option maxRecDepth 100000 in
set_option maxHeartbeats 1000000 in
theorem rup_calls (n : Nat) : ∀ (i : Nat) (d : ByteArray) (p : List ByteArray) (v : Value) (w : World), 1 ≤ n → n ≤ 1000000 → i < n → d.size = 16 → IsStrC w v p → (∀ s ∈ p, s.size ≤ 1099511627776) → p.length = lenT n i →
    Calls Tryz.prog 74 #[.int .i64 (n : Int), .int .i64 (i : Int), .string d, v] w fun e w' => e = .returned (.string (upT n i d p)) ∧ Below w.heap.size w w' := by
  induction n using Nat.strongRecOn with
  | _ n ih =>
  intro i d p v w hn1 hn hi hd hv hs hp
  by_cases h1 : n = 1
  · subst h1
    have HU := Lib.hid (upT_one i d p)
    clear ih hv hs hp
    go_enter Tryz.func74, Tryz.ntmps74
    go_wp2
    go_ret
    exact ⟨by rw [HU.out]; rfl, Below.refl _ _⟩
  · have h2 : 2 ≤ n := by omega
    have hk1 := half_lt h2
    have hk0 := half_pos h2
    have hh := fun W => rhalf_calls n h2 (by omega) W
    have HM := Lib.hid (upT_many h2 i d p)
    have HL := Lib.hid (lenT_many h2 i)
    have hp0 : 0 < p.length := by rw [hp]; exact len_pos h2 i
    obtain ⟨b, o, cap, rfl, hlc, hcm, hc, hvd, hdl⟩ := last_of hv hp0
    have HV := Lib.hid hvd
    have hps : (popV p).size ≤ 1099511627776 := by
      unfold popV
      cases hl : p.getLast? with
      | none => exact Nat.zero_le _
      | some a => exact hs a (List.mem_of_getLast? hl)
    have hs2 : ∀ s ∈ p.dropLast, s.size ≤ 1099511627776 := fun s hx => hs s (List.dropLast_subset p hx)
    have HIH := Lib.hid ih
    have HS2 := Lib.hid hs2
    clear ih hv hs hvd hs2
    obtain ⟨k, hk⟩ : ∃ k, k = half n := ⟨_, rfl⟩
    rw [← hk] at hk1 hk0 hh HM HL
    clear hk
    have hnn : ((n : Int) == 1) = false := by rw [beq_eq_false_iff_ne]; omega
    obtain ⟨q, hq⟩ : ∃ q, q + 1 = p.length := ⟨p.length - 1, by omega⟩
    have hq1 : p.length - 1 = q := by omega
    rw [hq1] at hc HV hdl
    rw [← hq] at hlc hp ⊢
    clear hq hp0 hq1
    by_cases hik : i < k
    · have hik' : (i : Int) < (k : Int) := by omega
      rw [if_pos hik] at HM HL
      have hlen : p.dropLast.length = lenT k i := by rw [hdl]; have := HL.out; omega
      have hus := upT_size k i d p.dropLast hd
      have hsl := run_slice_to (b := b) (o := o) (n := q + 1) (cap := cap) (k := q) (by omega)
      have HC := Lib.hid (fun W hb => HIH.out k hk1 i d p.dropLast _ W (by omega) (by omega) hik hd (HV.out.on hb) HS2.out hlen)
      clear HIH HL hlen hp
      go_enter Tryz.func74, Tryz.ntmps74
      go_wp2_with fail
      refine (hh _).mono ?_
      rintro e w1 ⟨rfl, rfl⟩
      clear hh
      go_wp2_with fail
      refine (HC.out _ (Below.refl _ _)).mono ?_
      rintro e w2 ⟨rfl, h2⟩
      have H2 := Lib.hid h2
      clear h2
      go_wp2_with fail
      refine (rnode_calls _ _ w2 (by omega) hps).mono ?_
      rintro e w3 ⟨rfl, h3⟩
      have H3 := Lib.hid (H2.out.trans (h3.mono H2.out.size))
      clear h3
      go_wp2
      go_ret
      exact ⟨by rw [HM.out]; rfl, H3.out⟩
    · have hik' : ¬ (i : Int) < (k : Int) := by omega
      rw [if_neg hik] at HM HL
      have hlen : p.dropLast.length = lenT (n - k) (i - k) := by rw [hdl]; have := HL.out; omega
      have hus := upT_size (n - k) (i - k) d p.dropLast hd
      have hsl := run_slice_to (b := b) (o := o) (n := q + 1) (cap := cap) (k := q) (by omega)
      have hC := (fun W hb => HIH.out (n - k) (by omega) (i - k) d p.dropLast _ W (by omega) (by omega) (by omega) hd (HV.out.on hb) HS2.out hlen)
      rw [show ((n - k : Nat) : Int) = (n : Int) - (k : Int) by omega, show ((i - k : Nat) : Int) = (i : Int) - (k : Int) by omega] at hC
      have HC := Lib.hid hC
      clear HIH HL hlen hp hC
      go_enter Tryz.func74, Tryz.ntmps74
      go_wp2_with fail
      refine (hh _).mono ?_
      rintro e w1 ⟨rfl, rfl⟩
      clear hh
      go_wp2_with fail
      refine (HC.out _ (Below.refl _ _)).mono ?_
      rintro e w2 ⟨rfl, h2⟩
      have H2 := Lib.hid h2
      clear h2
      go_wp2_with fail
      refine (rnode_calls _ _ w2 hps (by omega)).mono ?_
      rintro e w3 ⟨rfl, h3⟩
      have H3 := Lib.hid (H2.out.trans (h3.mono H2.out.size))
      clear h3
      go_wp2
      go_ret
      exact ⟨by rw [HM.out]; rfl, H3.out⟩
end Go.Proofs.YtpogffdbencfnaaGreatDoor

namespace Go.Proofs.YtpogffdbencfnaaGreatDoor
open Go Go.RowKit

theorem pathT_end (s : ByteArray) (i : Nat) : pathT [s] i = [] := by rw [pathT, dif_pos (show [s].length ≤ 1 from Nat.le_refl 1)]
theorem pathT_many {l : List ByteArray} (h : 2 ≤ l.length) (i : Nat) : pathT l i = if i < half l.length then pathT (l.take (half l.length)) i ++ [rootT (l.drop (half l.length))]
    else pathT (l.drop (half l.length)) (i - half l.length) ++ [rootT (l.take (half l.length))] := by
  rw [pathT, dif_neg (by omega)]
theorem pathT_le (l : List ByteArray) : ∀ i, (pathT l i).length ≤ l.length := by
  induction h : l.length using Nat.strongRecOn generalizing l with
  | _ n ih =>
    intro i
    subst h
    rw [pathT]
    by_cases h1 : l.length ≤ 1
    · rw [dif_pos h1]; simp
    · have h2 := half_lt (n := l.length) (by omega)
      have h3 := half_pos (n := l.length) (by omega)
      rw [dif_neg h1]
      split
      · have := ih (half l.length) h2 (l.take (half l.length)) (by rw [List.length_take]; omega) i
        simp; omega
      · have := ih (l.length - half l.length) (by omega) (l.drop (half l.length)) (by rw [List.length_drop]) (i - half l.length)
        simp; omega
theorem linkT_many {l : List ByteArray} (h : 2 ≤ l.length) {m : Nat} (hm : m ≠ l.length) (wh : Bool) : linkT l m wh = if m ≤ half l.length then linkT (l.take (half l.length)) m wh ++ [rootT (l.drop (half l.length))]
    else linkT (l.drop (half l.length)) (m - half l.length) false ++ [rootT (l.take (half l.length))] := by
  rw [linkT, dif_neg (by omega)]
theorem linkT_end (l : List ByteArray) (wh : Bool) : linkT l l.length wh = if wh then [] else [rootT l] := by rw [linkT, dif_pos (.inr rfl)]
theorem linkT_le (l : List ByteArray) : ∀ m wh, (linkT l m wh).length ≤ l.length + 1 := by
  induction h : l.length using Nat.strongRecOn generalizing l with
  | _ n ih =>
    intro m wh
    subst h
    rw [linkT]
    by_cases h1 : l.length ≤ 1 ∨ m = l.length
    · rw [dif_pos h1]; cases wh <;> simp
    · have h2 := half_lt (n := l.length) (by omega)
      have h3 := half_pos (n := l.length) (by omega)
      rw [dif_neg h1]
      split
      · have := ih (half l.length) h2 (l.take (half l.length)) (by rw [List.length_take]; omega) m wh
        simp; omega
      · have := ih (l.length - half l.length) (by omega) (l.drop (half l.length)) (by rw [List.length_drop]) (m - half l.length) false
        simp; omega
set_option maxRecDepth 100000 in
set_option maxHeartbeats 4000000 in
theorem rpath_calls (m : Nat) : ∀ (l : List ByteArray) (v : Value) (i : Nat) (w : World), l.length = m → IsStrC w v l → (∀ s ∈ l, s.size ≤ 1099511627776) → l.length ≤ 1099511627 → i < l.length →
    Calls Tryz.prog 64 #[v, .int .i64 (i : Int)] w fun e w' => ∃ v', e = .returned v' ∧ Own w.heap.size w' v' (pathT l i) ∧ Below w.heap.size w w' := by
  induction m using Nat.strongRecOn with
  | _ m ih =>
  intro l v i w hm hv hs hl' hi
  have hl : l.length ≤ 1099511627776 := by omega
  have HV := Lib.hid hv
  obtain ⟨ao, cap, rfl, hlc, hmax, hcells⟩ := hv
  have HS := Lib.hid hs
  have HC := Lib.hid hcells
  clear hs hcells hmax
  match l, hm, hl, hl', hi, hlc, HV, HS, HC with
  | [], hm, hl, hl', hi, hlc, HV, HS, HC => simp at hi
  | [s], hm, hl, hl', hi, hlc, HV, HS, HC =>
    have HU := Lib.hid (pathT_end s i)
    clear HV HS HC ih
    go_enter Tryz.func64, Tryz.ntmps64
    go_wp2
    go_ret
    exact ⟨_, rfl, by rw [HU.out]; exact Own.nil _ _, Below.refl _ _⟩
  | x :: y :: r, hm, hl, hl', hi, hlc, HV, HS, HC =>
    obtain ⟨b, o, rfl, hlt, hc0⟩ := HC.out 0 (by simp)
    clear hc0
    obtain ⟨z, hz⟩ : ∃ z, z = x :: y :: r := ⟨_, rfl⟩
    rw [← hz] at hm hl hl' hi hlc HV HS HC ⊢
    have h2 : 2 ≤ z.length := by rw [hz]; simp
    clear hz x y r
    have ht1 := pathT_le (z.take (half z.length)) i
    have ht2 := pathT_le (z.drop (half z.length)) (i - half z.length)
    have HR := Lib.hid (pathT_many h2 i)
    have hk1 := half_lt h2
    have hk0 := half_pos h2
    have hsl1 := run_slice_to (b := b) (o := o) (n := z.length) (cap := cap) (k := half z.length) (by omega)
    have hsl2 := run_slice_from (b := b) (o := o) (n := z.length) (cap := cap) (k := half z.length) (by omega) (by omega) (by omega)
    have HV1 := Lib.hid (HV.out.take (half z.length) (by omega))
    have HV2 := Lib.hid (HV.out.drop (half z.length) (by omega))
    have hl1 : (z.take (half z.length)).length = half z.length := by rw [List.length_take]; omega
    have hl2 : (z.drop (half z.length)).length = z.length - half z.length := by rw [List.length_drop]
    have HR1 := Lib.hid (fun w' hb => rroot_calls (half z.length) (z.take (half z.length)) _ w' hl1 (HV1.out.on hb) (fun s hs => HS.out s (List.mem_of_mem_take hs)) (by omega))
    have HR2 := Lib.hid (fun w' hb => rroot_calls (z.length - half z.length) (z.drop (half z.length)) _ w' hl2 (HV2.out.on hb) (fun s hs => HS.out s (List.mem_of_mem_drop hs)) (by omega))
    have hh := fun W => rhalf_calls z.length h2 hl W
    have hr1 := root_size (z.take (half z.length))
    have hr2 := root_size (z.drop (half z.length))
    have hn0 : z.length ≠ 0 := by omega
    have hn1 : z.length ≠ 1 := by omega
    have HIH := Lib.hid (fun (l' : List ByteArray) (hlt : l'.length < z.length) v' i' w' a1 a2 a3 a4 => ih l'.length (by omega) l' v' i' w' rfl a1 a2 a3 a4)
    rw [hl1] at ht1
    rw [hl2] at ht2
    by_cases hik : i < half z.length
    · have hik' : (i : Int) < (half z.length : Nat) := by omega
      rw [if_pos hik] at HR
      have HI1 := Lib.hid (fun w' hb => HIH.out (z.take (half z.length)) (by omega) _ i w' (HV1.out.on hb) (fun s hs => HS.out s (List.mem_of_mem_take hs)) (by omega) (by omega))
      clear ih HIH HV HS HC HV1 HV2 hl1 hl2 ht2 HR1
      obtain ⟨n, hn⟩ : ∃ n, n = z.length := ⟨_, rfl⟩
      obtain ⟨k, hk⟩ : ∃ k, k = half z.length := ⟨_, rfl⟩
      rw [← hk] at hk1 hk0 hsl1 hsl2 HI1 HR2 HR hh hr1 hr2 hik' ht1
      rw [← hn] at hsl1 hsl2 HR2 hh hn0 hn1 hk1 hl hl' ⊢
      generalize rootT (z.drop k) = r2 at *
      generalize pathT (z.take k) i = t1 at *
      clear hk hn hm hlc h2 hr1 hik hi hlt
      have H0 : Hid (Below w.heap.size w w) := Lib.hid (Below.refl w.heap.size w)
      go_enter Tryz.func64, Tryz.ntmps64
      go_wp2_with fail
      refine (hh _).mono ?_
      rintro e w1 ⟨rfl, rfl⟩
      have H1 := Lib.hid H0.out
      clear H0
      clear hh
      go_wp2_with fail
      refine wp_region_any (by kernel_rfl) ?_
      change wpAny _ _ _ _ _ _ _ (World.drew _)
      have H2 := Lib.hid H1.out.drew
      have hdr : Below w1.heap.size w1 w1.drew := (Below.refl _ _).drew
      clear hdr H1
      generalize w1.drew = w2 at *
      refine wpAny_take (i := 0) (v := .slice (some ⟨b, o, none⟩) n cap) rfl (by kernel_rfl) (by kernel_rfl) (by kernel_rfl) (fun _ _ _ h => h) (Or.inl ⟨by kernel_rfl, fun W => by go_simp⟩) ?_
      refine wpAny_take (i := 1) (v := .int .i64 (k : Int)) rfl (by kernel_rfl) (by kernel_rfl) (by kernel_rfl) (fun _ _ _ h => h) (Or.inl ⟨by kernel_rfl, fun W => by go_simp⟩) ?_
      refine wpAny_take (i := 2) (v := .slice (some ⟨b, o, none⟩) k cap) rfl (by kernel_rfl) (by kernel_rfl) (by kernel_rfl) (fun _ _ _ h => h) (Or.inl ⟨by kernel_rfl, fun W => by go_simp⟩) ?_
      refine wpAny_take (i := 3) (v := .int .i64 (i : Int)) rfl (by kernel_rfl) (by kernel_rfl) (by kernel_rfl) (fun _ _ _ h => h) (Or.inl ⟨by kernel_rfl, fun W => by go_simp⟩) ?_
      refine wpAny_take (i := 5) (v := .slice (some ⟨b, o, none⟩) n cap) rfl (by kernel_rfl) (by kernel_rfl) (by kernel_rfl) (fun _ _ _ h => h) (Or.inl ⟨by kernel_rfl, fun W => by go_simp⟩) ?_
      refine wpAny_take (i := 6) (v := .int .i64 (k : Int)) rfl (by kernel_rfl) (by kernel_rfl) (by kernel_rfl) (fun _ _ _ h => h) (Or.inl ⟨by kernel_rfl, fun W => by go_simp⟩) ?_
      refine wpAny_take (i := 7) (v := .slice (some ⟨b, o + k, none⟩) (n - k) (cap - k)) rfl (by kernel_rfl) (by kernel_rfl) (by kernel_rfl) (fun _ _ _ h => h) (Or.inl ⟨by kernel_rfl, fun W => by go_simp⟩) ?_
      refine wpAny_ready (rs := [4]) (by kernel_rfl) (by simp) ?_
      refine AllReady.cons rfl (fun K hK => ?_) AllReady.nil
      go_simp
      refine (HI1.out _ H2.out).mono ?_
      rintro e w3 ⟨vt, rfl, ho, hB⟩
      have H3 := Lib.hid (H2.out.trans (hB.mono H2.out.size))
      have HO3 := Lib.hid (own_mono ho H2.out.size)
      clear ho
      clear hB H2
      refine hK _ _ ?_
      clear hK K
      refine wpAny_ready (rs := [8]) (by kernel_rfl) (by simp) ?_
      refine AllReady.cons rfl (fun K hK => ?_) AllReady.nil
      go_simp
      refine (HR2.out _ H3.out).mono ?_
      rintro e w4 ⟨rfl, hB⟩
      have H4 := Lib.hid (H3.out.trans (hB.mono H3.out.size))
      have HO4 := Lib.hid (HO3.out.on hB)
      clear hB H3 HO3
      refine hK _ _ ?_
      clear hK K
      refine wpAny_ready (rs := [9]) (by kernel_rfl) (by simp) ?_
      refine AllReady.cons rfl (fun K hK => ?_) AllReady.nil
      go_simp
      refine hK _ _ ?_
      clear hK K
      have hal : Below w4.heap.size w4 (w4.alloc (.cells #[.string r2] 9)) := (Below.refl _ _).alloc (Nat.le_refl _) _
      have HLIT : Hid (IsStrC (w4.alloc (.cells #[.string r2] 9)) (.slice (some ⟨w4.heap.size, 0, none⟩) 1 1) [r2]) := Lib.hid (strc_lit w4 [r2] (show 1 ≤ maxLen by decide))
      have H5 := Lib.hid (H4.out.trans (hal.mono H4.out.size))
      have HO5 := Lib.hid (HO4.out.on hal)
      clear hal H4 HO4
      generalize hgw : w4.alloc (.cells #[.string r2] 9) = w5 at *
      clear hgw
      refine wpAny_ready (rs := [10]) (by kernel_rfl) (by simp) ?_
      refine AllReady.cons rfl (fun K hK => ?_) AllReady.nil
      refine ready_wanted (by kernel_rfl) ?_
      refine wp_appS (.tmp 20) (.tmp 25) rfl (by kernel_rfl) (by kernel_rfl) HO5.out HLIT.out H5.out (Nat.le_refl _) (by simp; omega) ?_
      intro va w6 ho h
      have HOva := Lib.hid ho
      have H6 := Lib.hid h
      clear ho h H5
      refine hK _ _ ?_
      clear hK K
      clear HO5 HLIT
      refine wpAny_take (i := 11) (v := va) rfl (by kernel_rfl) (by kernel_rfl) (by kernel_rfl) (fun _ _ _ h => h) (Or.inl ⟨by kernel_rfl, fun W => by go_simp⟩) ?_
      refine wpAny_done (by kernel_rfl) ?_ _
      go_wp2
      go_ret
      exact ⟨_, rfl, by rw [HR.out]; exact HOva.out, H6.out⟩
    · have hik' : ¬ (i : Int) < (half z.length : Nat) := by omega
      rw [if_neg hik] at HR
      have hI2 := (fun w' hb => HIH.out (z.drop (half z.length)) (by omega) _ (i - half z.length) w' (HV2.out.on hb) (fun s hs => HS.out s (List.mem_of_mem_drop hs)) (by omega) (by omega))
      rw [show ((i - half z.length : Nat) : Int) = (i : Int) - (half z.length : Nat) by omega] at hI2
      have HI2 := Lib.hid hI2
      clear hI2 ih HIH HV HS HC HV1 HV2 hl1 hl2 ht1 HR2
      obtain ⟨n, hn⟩ : ∃ n, n = z.length := ⟨_, rfl⟩
      obtain ⟨k, hk⟩ : ∃ k, k = half z.length := ⟨_, rfl⟩
      rw [← hk] at hk1 hk0 hsl1 hsl2 HI2 HR1 HR hh hr1 hr2 hik' ht2 hik
      rw [← hn] at hsl1 hsl2 HI2 hh hn0 hn1 hk1 hl hl' ht2 hi ⊢
      have hwr : IntKind.i64.wrap ((i : Int) - (k : Int)) = (i : Int) - (k : Int) := IntWalk.i64_in _ (by omega)
      generalize rootT (z.take k) = r1 at *
      generalize pathT (z.drop k) (i - k) = t2 at *
      clear hk hn hm hlc h2 hr2 hlt
      have H0 : Hid (Below w.heap.size w w) := Lib.hid (Below.refl w.heap.size w)
      go_enter Tryz.func64, Tryz.ntmps64
      go_wp2_with fail
      refine (hh _).mono ?_
      rintro e w1 ⟨rfl, rfl⟩
      have H1 := Lib.hid H0.out
      clear H0
      clear hh
      go_wp2_with fail
      refine wp_region_any (by kernel_rfl) ?_
      change wpAny _ _ _ _ _ _ _ (World.drew _)
      have H2 := Lib.hid H1.out.drew
      have hdr : Below w1.heap.size w1 w1.drew := (Below.refl _ _).drew
      clear hdr H1
      generalize w1.drew = w2 at *
      refine wpAny_take (i := 0) (v := .slice (some ⟨b, o, none⟩) n cap) rfl (by kernel_rfl) (by kernel_rfl) (by kernel_rfl) (fun _ _ _ h => h) (Or.inl ⟨by kernel_rfl, fun W => by go_simp⟩) ?_
      refine wpAny_take (i := 1) (v := .int .i64 (k : Int)) rfl (by kernel_rfl) (by kernel_rfl) (by kernel_rfl) (fun _ _ _ h => h) (Or.inl ⟨by kernel_rfl, fun W => by go_simp⟩) ?_
      refine wpAny_take (i := 2) (v := .slice (some ⟨b, o + k, none⟩) (n - k) (cap - k)) rfl (by kernel_rfl) (by kernel_rfl) (by kernel_rfl) (fun _ _ _ h => h) (Or.inl ⟨by kernel_rfl, fun W => by go_simp⟩) ?_
      refine wpAny_take (i := 3) (v := .int .i64 (i : Int)) rfl (by kernel_rfl) (by kernel_rfl) (by kernel_rfl) (fun _ _ _ h => h) (Or.inl ⟨by kernel_rfl, fun W => by go_simp⟩) ?_
      refine wpAny_take (i := 4) (v := .int .i64 (k : Int)) rfl (by kernel_rfl) (by kernel_rfl) (by kernel_rfl) (fun _ _ _ h => h) (Or.inl ⟨by kernel_rfl, fun W => by go_simp⟩) ?_
      refine wpAny_take (i := 5) (v := .int .i64 ((i : Int) - (k : Int))) rfl (by kernel_rfl) (by kernel_rfl) (by kernel_rfl) (fun _ _ _ h => h) (Or.inl ⟨by kernel_rfl, fun W => by go_simp⟩) ?_
      refine wpAny_take (i := 7) (v := .slice (some ⟨b, o, none⟩) n cap) rfl (by kernel_rfl) (by kernel_rfl) (by kernel_rfl) (fun _ _ _ h => h) (Or.inl ⟨by kernel_rfl, fun W => by go_simp⟩) ?_
      refine wpAny_take (i := 8) (v := .int .i64 (k : Int)) rfl (by kernel_rfl) (by kernel_rfl) (by kernel_rfl) (fun _ _ _ h => h) (Or.inl ⟨by kernel_rfl, fun W => by go_simp⟩) ?_
      refine wpAny_take (i := 9) (v := .slice (some ⟨b, o, none⟩) k cap) rfl (by kernel_rfl) (by kernel_rfl) (by kernel_rfl) (fun _ _ _ h => h) (Or.inl ⟨by kernel_rfl, fun W => by go_simp⟩) ?_
      refine wpAny_ready (rs := [6]) (by kernel_rfl) (by simp) ?_
      refine AllReady.cons rfl (fun K hK => ?_) AllReady.nil
      go_simp
      refine (HI2.out _ H2.out).mono ?_
      rintro e w3 ⟨vt, rfl, ho, hB⟩
      have H3 := Lib.hid (H2.out.trans (hB.mono H2.out.size))
      have HO3 := Lib.hid (own_mono ho H2.out.size)
      clear ho
      clear hB H2
      refine hK _ _ ?_
      clear hK K
      refine wpAny_ready (rs := [10]) (by kernel_rfl) (by simp) ?_
      refine AllReady.cons rfl (fun K hK => ?_) AllReady.nil
      go_simp
      refine (HR1.out _ H3.out).mono ?_
      rintro e w4 ⟨rfl, hB⟩
      have H4 := Lib.hid (H3.out.trans (hB.mono H3.out.size))
      have HO4 := Lib.hid (HO3.out.on hB)
      clear hB H3 HO3
      refine hK _ _ ?_
      clear hK K
      refine wpAny_ready (rs := [11]) (by kernel_rfl) (by simp) ?_
      refine AllReady.cons rfl (fun K hK => ?_) AllReady.nil
      go_simp
      refine hK _ _ ?_
      clear hK K
      have hal : Below w4.heap.size w4 (w4.alloc (.cells #[.string r1] 9)) := (Below.refl _ _).alloc (Nat.le_refl _) _
      have HLIT : Hid (IsStrC (w4.alloc (.cells #[.string r1] 9)) (.slice (some ⟨w4.heap.size, 0, none⟩) 1 1) [r1]) := Lib.hid (strc_lit w4 [r1] (show 1 ≤ maxLen by decide))
      have H5 := Lib.hid (H4.out.trans (hal.mono H4.out.size))
      have HO5 := Lib.hid (HO4.out.on hal)
      clear hal H4 HO4
      generalize hgw : w4.alloc (.cells #[.string r1] 9) = w5 at *
      clear hgw
      refine wpAny_ready (rs := [12]) (by kernel_rfl) (by simp) ?_
      refine AllReady.cons rfl (fun K hK => ?_) AllReady.nil
      refine ready_wanted (by kernel_rfl) ?_
      refine wp_appS (.tmp 33) (.tmp 38) rfl (by kernel_rfl) (by kernel_rfl) HO5.out HLIT.out H5.out (Nat.le_refl _) (by simp; omega) ?_
      intro va w6 ho h
      have HOva := Lib.hid ho
      have H6 := Lib.hid h
      clear ho h H5
      refine hK _ _ ?_
      clear hK K
      clear HO5 HLIT
      refine wpAny_take (i := 13) (v := va) rfl (by kernel_rfl) (by kernel_rfl) (by kernel_rfl) (fun _ _ _ h => h) (Or.inl ⟨by kernel_rfl, fun W => by go_simp⟩) ?_
      refine wpAny_done (by kernel_rfl) ?_ _
      go_wp2
      go_ret
      exact ⟨_, rfl, by rw [HR.out]; exact HOva.out, H6.out⟩
theorem rPath_any (l : List ByteArray) (v : Value) (i : Int) (w : World) (hv : IsStrC w v l) (hs : ∀ s ∈ l, s.size ≤ 1099511627776) (hl : l.length ≤ 1099511627) :
    Calls Tryz.prog 33 #[v, .int .i64 i] w fun e w' => ∃ v', e = .returned (.tuple #[v', .int .i64 (if 0 ≤ i ∧ i < l.length then 0 else 1)]) ∧ IsStrC w' v' (if 0 ≤ i ∧ i < l.length then pathT l i.toNat else []) ∧ Below w.heap.size w w' := by
  by_cases hi : 0 ≤ i ∧ i < l.length
  · rw [if_pos hi, if_pos hi]
    obtain ⟨j, rfl⟩ := Int.eq_ofNat_of_zero_le hi.1
    have hj : j < l.length := by omega
    rw [Int.toNat_natCast]
    have HC := Lib.hid (rpath_calls l.length l v j w rfl hv hs hl hj)
    obtain ⟨ao, cap, rfl, _, _, _⟩ := hv
    clear hs hi
    have hd1 : decide ((j : Int) < 0) = false := decide_eq_false (by omega)
    have hd2 : decide (l.length ≤ j) = false := decide_eq_false (by omega)
    go_enter Tryz.func33, Tryz.ntmps33
    go_wp2_with fail
    refine (HC.out).mono ?_
    rintro e w1 ⟨v', rfl, ho, h1⟩
    have HO := Lib.hid ho
    clear ho
    go_wp2
    go_ret2
    exact ⟨_, rfl, HO.out.strc, h1⟩
  · rw [if_neg hi, if_neg hi]
    obtain ⟨ao, cap, rfl, _, _, _⟩ := hv
    by_cases h : i < 0
    · clear hi
      go_enter Tryz.func33, Tryz.ntmps33
      go_wp2
      go_ret2
      exact ⟨_, rfl, strc_nil _, Below.refl _ _⟩
    · have h2 : (l.length : Int) ≤ i := by omega
      clear hi
      go_enter Tryz.func33, Tryz.ntmps33
      go_wp2
      go_ret2
      exact ⟨_, rfl, strc_nil _, Below.refl _ _⟩
end Go.Proofs.YtpogffdbencfnaaGreatDoor

namespace Go.Proofs.YtpogffdbencfnaaGreatDoor
open Go Go.RowKit

theorem lenT_le (n : Nat) : ∀ i, lenT n i ≤ n := by
  induction n using Nat.strongRecOn with
  | _ n ih =>
    intro i
    rw [lenT]
    split
    · omega
    · have h2 := half_lt (n := n) (by omega)
      have h3 := half_pos (n := n) (by omega)
      split
      · have := ih (half n) h2 i; omega
      · have := ih (n - half n) (by omega) (i - half n); omega
theorem longT_le (n : Nat) : ∀ m wh, longT n m wh ≤ n + 1 := by
  induction n using Nat.strongRecOn with
  | _ n ih =>
    intro m wh
    rw [longT]
    split
    · cases wh <;> simp
    · have h2 := half_lt (n := n) (by omega)
      have h3 := half_pos (n := n) (by omega)
      split
      · have := ih (half n) h2 m wh; omega
      · have := ih (n - half n) (by omega) (m - half n) false; omega
theorem rlength_calls (n : Nat) : ∀ (i : Nat) (w : World), 1 ≤ n → n ≤ 1000000 → i < n →
    Calls Tryz.prog 72 #[.int .i64 (n : Int), .int .i64 (i : Int)] w fun e w' => e = .returned (.int .i64 (lenT n i : Int)) ∧ w' = w := by
  induction n using Nat.strongRecOn with
  | _ n ih =>
  intro i w hn1 hn hi
  by_cases h1 : n = 1
  · subst h1
    have HU := Lib.hid (len_one i)
    clear ih
    go_enter Tryz.func72, Tryz.ntmps72
    go_wp2
    go_ret
    exact ⟨by rw [HU.out]; rfl, rfl⟩
  · have h2 : 2 ≤ n := by omega
    have hk1 := half_lt h2
    have hk0 := half_pos h2
    have hh := fun W => rhalf_calls n h2 (by omega) W
    have HL := Lib.hid (lenT_many h2 i)
    have HIH := Lib.hid ih
    clear ih
    obtain ⟨k, hk⟩ : ∃ k, k = half n := ⟨_, rfl⟩
    rw [← hk] at hk1 hk0 hh HL
    clear hk
    have hnn : ((n : Int) == 1) = false := by rw [beq_eq_false_iff_ne]; omega
    by_cases hik : i < k
    · have hik' : (i : Int) < (k : Int) := by omega
      rw [if_pos hik] at HL
      have HC := Lib.hid (fun W => HIH.out k hk1 i W (by omega) (by omega) hik)
      have hlq := lenT_le k i
      generalize lenT k i = q at *
      clear HIH
      go_enter Tryz.func72, Tryz.ntmps72
      go_wp2_with fail
      refine (hh _).mono ?_
      rintro e w1 ⟨rfl, rfl⟩
      clear hh
      go_wp2_with fail
      refine (HC.out _).mono ?_
      rintro e w2 ⟨rfl, rfl⟩
      go_wp2
      go_ret
      exact ⟨by rw [HL.out]; go_num, rfl⟩
    · have hik' : ¬ (i : Int) < (k : Int) := by omega
      rw [if_neg hik] at HL
      have hC := (fun W => HIH.out (n - k) (by omega) (i - k) W (by omega) (by omega) (by omega))
      rw [show ((n - k : Nat) : Int) = (n : Int) - (k : Int) by omega, show ((i - k : Nat) : Int) = (i : Int) - (k : Int) by omega] at hC
      have HC := Lib.hid hC
      have hlq := lenT_le (n - k) (i - k)
      generalize lenT (n - k) (i - k) = q at *
      clear HIH hC
      go_enter Tryz.func72, Tryz.ntmps72
      go_wp2_with fail
      refine (hh _).mono ?_
      rintro e w1 ⟨rfl, rfl⟩
      clear hh
      go_wp2_with fail
      refine (HC.out _).mono ?_
      rintro e w2 ⟨rfl, rfl⟩
      go_wp2
      go_ret
      exact ⟨by rw [HL.out]; go_num, rfl⟩
theorem getD_size2 {L : List ByteArray} {M : Nat} (h : ∀ s ∈ L, s.size ≤ M) (i : Nat) : (L.getD i ByteArray.empty).size ≤ M := by
  by_cases hi : i < L.length
  · rw [show L.getD i ByteArray.empty = L[i] by simp [List.getD, hi]]; exact h _ (List.getElem_mem hi)
  · rw [show L.getD i ByteArray.empty = ByteArray.empty by simp [List.getD, Nat.le_of_not_lt hi]]; exact Nat.zero_le _
theorem take_all {p : List ByteArray} {i : Nat} (h : i < p.length) : (p.take (i + 1)).all isS = ((p.take i).all isS && isS (p.getD i ByteArray.empty)) := by
  rw [List.take_succ_eq_append_getElem h, List.all_append]
  simp [List.getD, h]
theorem not_all {p : List ByteArray} {i : Nat} (h : i < p.length) (hn : isS (p.getD i ByteArray.empty) = false) : p.all isS = false := by
  cases hq : p.all isS with
  | false => rfl
  | true =>
    have := List.all_eq_true.1 hq (p.getD i ByteArray.empty) (by simp [List.getD, h])
    rw [hn] at this; cases this
set_option maxHeartbeats 1000000 in
theorem rdigests_calls (v : Value) (p : List ByteArray) (w : World) (hv : IsStrC w v p) (hs : ∀ s ∈ p, s.size ≤ 1099511627776) :
    Calls Tryz.prog 73 #[v] w fun e w' => e = .returned (.bool (p.all isS)) ∧ Below w.heap.size w w' := by
  have HS := Lib.hid hs
  obtain ⟨ao, cap, rfl, hlc, hmax, hcells⟩ := hv
  have HC := Lib.hid hcells
  have hmx : cap ≤ 9223372036854775807 := hmax
  clear hs hcells hmax
  obtain ⟨n, hn⟩ : ∃ n, n = p.length := ⟨_, rfl⟩
  rw [← hn] at hlc ⊢
  have HN := Lib.hid hn
  clear hn
  go_enter Tryz.func73, Tryz.ntmps73
  go_wp2_with fail
  go_loopw [3] (fun vi W => ∃ i : Nat, vi = .int .i64 (i : Int) ∧ i ≤ n ∧ Hid (Below w.heap.size w W ∧ (p.take i).all isS = true)) (fun vi _ => n - (RowKit.intOf vi).toNat)
  case atStart => exact ⟨0, rfl, by omega, Below.refl _ _, rfl⟩
  case round =>
    obtain ⟨i, rfl, hi, HI⟩ := hrel
    by_cases hlt : i < n
    · obtain ⟨b, o, rfl, hbl, hc⟩ := HC.out i (by rw [← HN.out]; exact hlt)
      have hcw : wr.cell? ⟨b, o + i, none⟩ = some (.string (p.getD i ByteArray.empty)) := by rw [HI.out.1.cell (p := ⟨b, o + i, none⟩) hbl]; exact hc
      have hip : i < p.length := by rw [← HN.out]; exact hlt
      have HTA := Lib.hid (take_all hip)
      have HNA := Lib.hid (fun h => not_all (i := i) hip h)
      have hsz := getD_size2 HS.out i
      generalize p.getD i ByteArray.empty = s at *
      clear hc HC hip
      go_wp2_with fail
      refine (ris_calls s (by omega) _).mono ?_
      rintro e w1 ⟨rfl, rfl⟩
      cases hq : isS s with
      | false =>
        have HB := Lib.hid HI.out.1
        have HF := Lib.hid (HNA.out hq)
        clear HI HTA HNA hq
        go_wp2
        go_ret
        exact ⟨by rw [HF.out]; rfl, HB.out⟩
      | true =>
        have HI2 : Hid (Below w.heap.size w w1 ∧ (p.take (i + 1)).all isS = true) := Lib.hid ⟨HI.out.1, by rw [HTA.out, HI.out.2, hq]; rfl⟩
        clear HI HTA HNA hq
        go_wp2
        go_round
        case rel => exact ⟨i + 1, by go_num, by omega, HI2⟩
        case measure => simp only [RowKit.intOf]; omega
    · have HF : Hid (p.all isS = true) := Lib.hid (by have := HI.out.2; rwa [List.take_of_length_le (by rw [← HN.out]; omega)] at this)
      go_wp2
      go_ret
      exact ⟨by rw [HF.out]; rfl, HI.out.1⟩
theorem check_none {root s : ByteArray} {n i : Int} {p : List ByteArray} (h : ¬ (n ≤ 1000000 ∧ 0 ≤ i ∧ i < n)) : checkT root n i s p = false := by
  unfold checkT
  by_cases h1 : n ≤ 1000000
  · by_cases h2 : 0 ≤ i
    · rw [decide_eq_false (by omega : ¬ i < n)]; simp
    · rw [decide_eq_false h2]; simp
  · rw [decide_eq_false h1]; simp
theorem check_some {root s : ByteArray} {n i : Nat} {p : List ByteArray} (hn : n ≤ 1000000) (hi : i < n) :
    checkT root n i s p = (decide (p.length = lenT n i) && p.all isS && decide (upT n i (dg [sLeaf, s]) p = root)) := by
  unfold checkT
  rw [decide_eq_true (by omega : (n : Int) ≤ 1000000), decide_eq_true (by omega : (0 : Int) ≤ (i : Int)), decide_eq_true (by omega : (i : Int) < (n : Int))]
  simp
set_option maxRecDepth 100000 in
set_option maxHeartbeats 2000000 in
theorem rcheck_calls (root : ByteArray) (n i : Int) (leaf : ByteArray) (v : Value) (p : List ByteArray) (w : World) (hv : IsStrC w v p) (hl : p.length ≤ 1099511627776) (hs : ∀ s ∈ p, s.size ≤ 1099511627776) (hx : leaf.size ≤ 1099511627776) :
    Calls Tryz.prog 42 #[.string root, .int .i64 n, .int .i64 i, .string leaf, v] w fun e w' => e = .returned (.bool (checkT root n i leaf p)) ∧ Below w.heap.size w w' := by
  have HV := Lib.hid hv
  have HS := Lib.hid hs
  obtain ⟨ao, cap, rfl, _, _, _⟩ := hv
  clear hs
  by_cases hb : n ≤ 1000000 ∧ 0 ≤ i ∧ i < n
  · obtain ⟨n', rfl⟩ : ∃ a : Nat, n = (a : Int) := ⟨n.toNat, by omega⟩
    obtain ⟨i', rfl⟩ : ∃ b : Nat, i = (b : Int) := ⟨i.toNat, by omega⟩
    have hn1 : n' ≤ 1000000 := by omega
    have hi1 : i' < n' := by omega
    have HC := Lib.hid (check_some (root := root) (s := leaf) (p := p) hn1 hi1)
    have hd1 : decide ((1000000 : Int) < (n' : Int)) = false := decide_eq_false (by omega)
    have hd2 : decide ((i' : Int) < 0) = false := decide_eq_false (by omega)
    have hd3 : decide (n' ≤ i') = false := decide_eq_false (by omega)
    have HL := Lib.hid (rlength_calls n' i' w (by omega) hn1 hi1)
    clear hb
    by_cases hq : p.length = lenT n' i'
    · have HQ := Lib.hid hq
      have HD := Lib.hid (rdigests_calls _ p w HV.out HS.out)
      have hql : lenT n' i' ≤ n' := lenT_le n' i'
      rw [← hq] at HL hql
      clear hq
      cases hp : p.all isS with
      | false =>
        have HW : Hid (checkT root n' i' leaf p = false) := Lib.hid (by rw [HC.out, hp]; simp)
        rw [hp] at HD
        clear hp
        go_enter Tryz.func42, Tryz.ntmps42
        go_wp2_with fail
        refine (HL.out).mono ?_
        rintro e w1 ⟨rfl, rfl⟩
        go_wp2_with fail
        refine (HD.out).mono ?_
        rintro e w2 ⟨rfl, h2⟩
        go_wp2
        go_ret
        exact ⟨by rw [HW.out]; rfl, h2⟩
      | true =>
        have HW : Hid (checkT root n' i' leaf p = decide (upT n' i' (dg [sLeaf, leaf]) p = root)) := Lib.hid (by rw [HC.out, hp, decide_eq_true HQ.out]; simp)
        rw [hp] at HD
        clear hp
        have hds := dg_size [sLeaf, leaf]
        go_enter Tryz.func42, Tryz.ntmps42
        go_wp2_with fail
        refine (HL.out).mono ?_
        rintro e w1 ⟨rfl, rfl⟩
        go_wp2_with fail
        refine (HD.out).mono ?_
        rintro e w2 ⟨rfl, h2⟩
        have H2 := Lib.hid h2
        clear h2
        go_wp2_with fail
        refine (rleaf_calls leaf w2 hx).mono ?_
        rintro e w3 ⟨rfl, h3⟩
        have H3 := Lib.hid (H2.out.trans (h3.mono H2.out.size))
        clear h3
        go_wp2_with fail
        refine (rup_calls n' i' (dg [sLeaf, leaf]) p _ w3 (by omega) hn1 hi1 hds (HV.out.on H3.out) HS.out HQ.out).mono ?_
        rintro e w4 ⟨rfl, h4⟩
        have H4 := Lib.hid (H3.out.trans (h4.mono H3.out.size))
        clear h4
        rw [← eqB] at HW
        generalize upT n' i' (dg [sLeaf, leaf]) p = U at *
        go_wp2
        go_ret
        exact ⟨by rw [HW.out]; rfl, H4.out⟩
    · have HW : Hid (checkT root n' i' leaf p = false) := Lib.hid (by rw [HC.out, decide_eq_false hq]; simp)
      obtain ⟨q, hq2⟩ : ∃ q, q = lenT n' i' := ⟨_, rfl⟩
      have hql : lenT n' i' ≤ n' := lenT_le n' i'
      rw [← hq2] at HL hq hql
      have hne : ((p.length : Int) == (q : Int)) = false := by rw [beq_eq_false_iff_ne]; omega
      clear hq2
      go_enter Tryz.func42, Tryz.ntmps42
      go_wp2_with fail
      refine (HL.out).mono ?_
      rintro e w1 ⟨rfl, rfl⟩
      go_wp2
      go_ret
      exact ⟨by rw [HW.out]; rfl, Below.refl _ _⟩
  · have HW := Lib.hid (check_none (root := root) (s := leaf) (p := p) hb)
    by_cases h1 : 1000000 < n
    · clear hb
      go_enter Tryz.func42, Tryz.ntmps42
      go_wp2
      go_ret
      exact ⟨by rw [HW.out]; rfl, Below.refl _ _⟩
    · by_cases h2 : i < 0
      · clear hb
        go_enter Tryz.func42, Tryz.ntmps42
        go_wp2
        go_ret
        exact ⟨by rw [HW.out]; rfl, Below.refl _ _⟩
      · have h3 : n ≤ i := by omega
        clear hb
        go_enter Tryz.func42, Tryz.ntmps42
        go_wp2
        go_ret
        exact ⟨by rw [HW.out]; rfl, Below.refl _ _⟩
end Go.Proofs.YtpogffdbencfnaaGreatDoor

