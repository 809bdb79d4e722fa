import Derived.Test.YtlchpdjpnabeiaaGreatDoorTrRefB
import Derived.Test.YtlchpdjpnabeiaaGreatDoorTrTextsO
import Derived.Test.YtlchpdjpnabeiaaGreatDoorTrApp
set_option linter.unusedVariables false
namespace Go.Proofs.YtlchpdjpnabeiaaGreatDoor
open Go Go.RowKit

theorem pathT_end (s : ByteArray) (i : Nat) : pathT [s] i = [] := by rw [pathT, dif_pos (show [s].length ≤ 1 from Nat.le_refl 1)]
theorem pathT_many {l : List ByteArray} (h : 2 ≤ l.length) (i : Nat) : pathT l i = if i < half l.length then pathT (l.take (half l.length)) i ++ [rootT (l.drop (half l.length))]
    else pathT (l.drop (half l.length)) (i - half l.length) ++ [rootT (l.take (half l.length))] := by
  rw [pathT, dif_neg (by omega)]
theorem pathT_le (l : List ByteArray) : ∀ i, (pathT l i).length ≤ l.length := by
  induction h : l.length using Nat.strongRecOn generalizing l with
  | _ n ih =>
    intro i
    subst h
    rw [pathT]
    by_cases h1 : l.length ≤ 1
    · rw [dif_pos h1]; simp
    · have h2 := half_lt (n := l.length) (by omega)
      have h3 := half_pos (n := l.length) (by omega)
      rw [dif_neg h1]
      split
      · have := ih (half l.length) h2 (l.take (half l.length)) (by rw [List.length_take]; omega) i
        simp; omega
      · have := ih (l.length - half l.length) (by omega) (l.drop (half l.length)) (by rw [List.length_drop]) (i - half l.length)
        simp; omega
theorem linkT_many {l : List ByteArray} (h : 2 ≤ l.length) {m : Nat} (hm : m ≠ l.length) (wh : Bool) : linkT l m wh = if m ≤ half l.length then linkT (l.take (half l.length)) m wh ++ [rootT (l.drop (half l.length))]
    else linkT (l.drop (half l.length)) (m - half l.length) false ++ [rootT (l.take (half l.length))] := by
  rw [linkT, dif_neg (by omega)]
theorem linkT_end (l : List ByteArray) (wh : Bool) : linkT l l.length wh = if wh then [] else [rootT l] := by rw [linkT, dif_pos (.inr rfl)]
theorem linkT_le (l : List ByteArray) : ∀ m wh, (linkT l m wh).length ≤ l.length + 1 := by
  induction h : l.length using Nat.strongRecOn generalizing l with
  | _ n ih =>
    intro m wh
    subst h
    rw [linkT]
    by_cases h1 : l.length ≤ 1 ∨ m = l.length
    · rw [dif_pos h1]; cases wh <;> simp
    · have h2 := half_lt (n := l.length) (by omega)
      have h3 := half_pos (n := l.length) (by omega)
      rw [dif_neg h1]
      split
      · have := ih (half l.length) h2 (l.take (half l.length)) (by rw [List.length_take]; omega) m wh
        simp; omega
      · have := ih (l.length - half l.length) (by omega) (l.drop (half l.length)) (by rw [List.length_drop]) (m - half l.length) false
        simp; omega
set_option maxRecDepth 100000 in
set_option maxHeartbeats 4000000 in
theorem rpath_calls (m : Nat) : ∀ (l : List ByteArray) (v : Value) (i : Nat) (w : World), l.length = m → IsStrC w v l → (∀ s ∈ l, s.size ≤ 1099511627776) → l.length ≤ 1099511627 → i < l.length →
    Calls Tryz.prog 21 #[v, .int .i64 (i : Int)] w fun e w' => ∃ v', e = .returned v' ∧ Own w.heap.size w' v' (pathT l i) ∧ Below w.heap.size w w' := by
  induction m using Nat.strongRecOn with
  | _ m ih =>
  intro l v i w hm hv hs hl' hi
  have hl : l.length ≤ 1099511627776 := by omega
  have HV := Lib.hid hv
  obtain ⟨ao, cap, rfl, hlc, hmax, hcells⟩ := hv
  have HS := Lib.hid hs
  have HC := Lib.hid hcells
  clear hs hcells hmax
  match l, hm, hl, hl', hi, hlc, HV, HS, HC with
  | [], hm, hl, hl', hi, hlc, HV, HS, HC => simp at hi
  | [s], hm, hl, hl', hi, hlc, HV, HS, HC =>
    have HU := Lib.hid (pathT_end s i)
    clear HV HS HC ih
    go_enter Tryz.func21, Tryz.ntmps21
    go_wp2
    go_ret
    exact ⟨_, rfl, by rw [HU.out]; exact Own.nil _ _, Below.refl _ _⟩
  | x :: y :: r, hm, hl, hl', hi, hlc, HV, HS, HC =>
    obtain ⟨b, o, rfl, hlt, hc0⟩ := HC.out 0 (by simp)
    clear hc0
    obtain ⟨z, hz⟩ : ∃ z, z = x :: y :: r := ⟨_, rfl⟩
    rw [← hz] at hm hl hl' hi hlc HV HS HC ⊢
    have h2 : 2 ≤ z.length := by rw [hz]; simp
    clear hz x y r
    have ht1 := pathT_le (z.take (half z.length)) i
    have ht2 := pathT_le (z.drop (half z.length)) (i - half z.length)
    have HR := Lib.hid (pathT_many h2 i)
    have hk1 := half_lt h2
    have hk0 := half_pos h2
    have hsl1 := run_slice_to (b := b) (o := o) (n := z.length) (cap := cap) (k := half z.length) (by omega)
    have hsl2 := run_slice_from (b := b) (o := o) (n := z.length) (cap := cap) (k := half z.length) (by omega) (by omega) (by omega)
    have HV1 := Lib.hid (HV.out.take (half z.length) (by omega))
    have HV2 := Lib.hid (HV.out.drop (half z.length) (by omega))
    have hl1 : (z.take (half z.length)).length = half z.length := by rw [List.length_take]; omega
    have hl2 : (z.drop (half z.length)).length = z.length - half z.length := by rw [List.length_drop]
    have HR1 := Lib.hid (fun w' hb => rroot_calls (half z.length) (z.take (half z.length)) _ w' hl1 (HV1.out.on hb) (fun s hs => HS.out s (List.mem_of_mem_take hs)) (by omega))
    have HR2 := Lib.hid (fun w' hb => rroot_calls (z.length - half z.length) (z.drop (half z.length)) _ w' hl2 (HV2.out.on hb) (fun s hs => HS.out s (List.mem_of_mem_drop hs)) (by omega))
    have hh := fun W => rhalf_calls z.length h2 hl W
    have hr1 := root_size (z.take (half z.length))
    have hr2 := root_size (z.drop (half z.length))
    have hn0 : z.length ≠ 0 := by omega
    have hn1 : z.length ≠ 1 := by omega
    have HIH := Lib.hid (fun (l' : List ByteArray) (hlt : l'.length < z.length) v' i' w' a1 a2 a3 a4 => ih l'.length (by omega) l' v' i' w' rfl a1 a2 a3 a4)
    rw [hl1] at ht1
    rw [hl2] at ht2
    by_cases hik : i < half z.length
    · have hik' : (i : Int) < (half z.length : Nat) := by omega
      rw [if_pos hik] at HR
      have HI1 := Lib.hid (fun w' hb => HIH.out (z.take (half z.length)) (by omega) _ i w' (HV1.out.on hb) (fun s hs => HS.out s (List.mem_of_mem_take hs)) (by omega) (by omega))
      clear ih HIH HV HS HC HV1 HV2 hl1 hl2 ht2 HR1
      obtain ⟨n, hn⟩ : ∃ n, n = z.length := ⟨_, rfl⟩
      obtain ⟨k, hk⟩ : ∃ k, k = half z.length := ⟨_, rfl⟩
      rw [← hk] at hk1 hk0 hsl1 hsl2 HI1 HR2 HR hh hr1 hr2 hik' ht1
      rw [← hn] at hsl1 hsl2 HR2 hh hn0 hn1 hk1 hl hl' ⊢
      generalize rootT (z.drop k) = r2 at *
      generalize pathT (z.take k) i = t1 at *
      clear hk hn hm hlc h2 hr1 hik hi hlt
      have H0 : Hid (Below w.heap.size w w) := Lib.hid (Below.refl w.heap.size w)
      go_enter Tryz.func21, Tryz.ntmps21
      go_wp2_with fail
      refine (hh _).mono ?_
      rintro e w1 ⟨rfl, rfl⟩
      have H1 := Lib.hid H0.out
      clear H0
      clear hh
      go_wp2_with fail
      refine wp_region_any (by kernel_rfl) ?_
      change wpAny _ _ _ _ _ _ _ (World.drew _)
      have H2 := Lib.hid H1.out.drew
      have hdr : Below w1.heap.size w1 w1.drew := (Below.refl _ _).drew
      clear hdr H1
      generalize w1.drew = w2 at *
      refine wpAny_take (i := 0) (v := .slice (some ⟨b, o, none⟩) n cap) rfl (by kernel_rfl) (by kernel_rfl) (by kernel_rfl) (fun _ _ _ h => h) (Or.inl ⟨by kernel_rfl, fun W => by go_simp⟩) ?_
      refine wpAny_take (i := 1) (v := .int .i64 (k : Int)) rfl (by kernel_rfl) (by kernel_rfl) (by kernel_rfl) (fun _ _ _ h => h) (Or.inl ⟨by kernel_rfl, fun W => by go_simp⟩) ?_
      refine wpAny_take (i := 2) (v := .slice (some ⟨b, o, none⟩) k cap) rfl (by kernel_rfl) (by kernel_rfl) (by kernel_rfl) (fun _ _ _ h => h) (Or.inl ⟨by kernel_rfl, fun W => by go_simp⟩) ?_
      refine wpAny_take (i := 3) (v := .int .i64 (i : Int)) rfl (by kernel_rfl) (by kernel_rfl) (by kernel_rfl) (fun _ _ _ h => h) (Or.inl ⟨by kernel_rfl, fun W => by go_simp⟩) ?_
      refine wpAny_take (i := 5) (v := .slice (some ⟨b, o, none⟩) n cap) rfl (by kernel_rfl) (by kernel_rfl) (by kernel_rfl) (fun _ _ _ h => h) (Or.inl ⟨by kernel_rfl, fun W => by go_simp⟩) ?_
      refine wpAny_take (i := 6) (v := .int .i64 (k : Int)) rfl (by kernel_rfl) (by kernel_rfl) (by kernel_rfl) (fun _ _ _ h => h) (Or.inl ⟨by kernel_rfl, fun W => by go_simp⟩) ?_
      refine wpAny_take (i := 7) (v := .slice (some ⟨b, o + k, none⟩) (n - k) (cap - k)) rfl (by kernel_rfl) (by kernel_rfl) (by kernel_rfl) (fun _ _ _ h => h) (Or.inl ⟨by kernel_rfl, fun W => by go_simp⟩) ?_
      refine wpAny_ready (rs := [4]) (by kernel_rfl) (by simp) ?_
      refine AllReady.cons rfl (fun K hK => ?_) AllReady.nil
      go_simp
      refine (HI1.out _ H2.out).mono ?_
      rintro e w3 ⟨vt, rfl, ho, hB⟩
      have H3 := Lib.hid (H2.out.trans (hB.mono H2.out.size))
      have HO3 := Lib.hid (own_mono ho H2.out.size)
      clear ho
      clear hB H2
      refine hK _ _ ?_
      clear hK K
      refine wpAny_ready (rs := [8]) (by kernel_rfl) (by simp) ?_
      refine AllReady.cons rfl (fun K hK => ?_) AllReady.nil
      go_simp
      refine (HR2.out _ H3.out).mono ?_
      rintro e w4 ⟨rfl, hB⟩
      have H4 := Lib.hid (H3.out.trans (hB.mono H3.out.size))
      have HO4 := Lib.hid (HO3.out.on hB)
      clear hB H3 HO3
      refine hK _ _ ?_
      clear hK K
      refine wpAny_ready (rs := [9]) (by kernel_rfl) (by simp) ?_
      refine AllReady.cons rfl (fun K hK => ?_) AllReady.nil
      go_simp
      refine hK _ _ ?_
      clear hK K
      have hal : Below w4.heap.size w4 (w4.alloc (.cells #[.string r2] 9)) := (Below.refl _ _).alloc (Nat.le_refl _) _
      have HLIT : Hid (IsStrC (w4.alloc (.cells #[.string r2] 9)) (.slice (some ⟨w4.heap.size, 0, none⟩) 1 1) [r2]) := Lib.hid (strc_lit w4 [r2] (show 1 ≤ maxLen by decide))
      have H5 := Lib.hid (H4.out.trans (hal.mono H4.out.size))
      have HO5 := Lib.hid (HO4.out.on hal)
      clear hal H4 HO4
      generalize hgw : w4.alloc (.cells #[.string r2] 9) = w5 at *
      clear hgw
      refine wpAny_ready (rs := [10]) (by kernel_rfl) (by simp) ?_
      refine AllReady.cons rfl (fun K hK => ?_) AllReady.nil
      refine ready_wanted (by kernel_rfl) ?_
      refine wp_appS (.tmp 20) (.tmp 25) rfl (by kernel_rfl) (by kernel_rfl) HO5.out HLIT.out H5.out (Nat.le_refl _) (by simp; omega) ?_
      intro va w6 ho h
      have HOva := Lib.hid ho
      have H6 := Lib.hid h
      clear ho h H5
      refine hK _ _ ?_
      clear hK K
      clear HO5 HLIT
      refine wpAny_take (i := 11) (v := va) rfl (by kernel_rfl) (by kernel_rfl) (by kernel_rfl) (fun _ _ _ h => h) (Or.inl ⟨by kernel_rfl, fun W => by go_simp⟩) ?_
      refine wpAny_done (by kernel_rfl) ?_ _
      go_wp2
      go_ret
      exact ⟨_, rfl, by rw [HR.out]; exact HOva.out, H6.out⟩
    · have hik' : ¬ (i : Int) < (half z.length : Nat) := by omega
      rw [if_neg hik] at HR
      have hI2 := (fun w' hb => HIH.out (z.drop (half z.length)) (by omega) _ (i - half z.length) w' (HV2.out.on hb) (fun s hs => HS.out s (List.mem_of_mem_drop hs)) (by omega) (by omega))
      rw [show ((i - half z.length : Nat) : Int) = (i : Int) - (half z.length : Nat) by omega] at hI2
      have HI2 := Lib.hid hI2
      clear hI2 ih HIH HV HS HC HV1 HV2 hl1 hl2 ht1 HR2
      obtain ⟨n, hn⟩ : ∃ n, n = z.length := ⟨_, rfl⟩
      obtain ⟨k, hk⟩ : ∃ k, k = half z.length := ⟨_, rfl⟩
      rw [← hk] at hk1 hk0 hsl1 hsl2 HI2 HR1 HR hh hr1 hr2 hik' ht2 hik
      rw [← hn] at hsl1 hsl2 HI2 hh hn0 hn1 hk1 hl hl' ht2 hi ⊢
      have hwr : IntKind.i64.wrap ((i : Int) - (k : Int)) = (i : Int) - (k : Int) := IntWalk.i64_in _ (by omega)
      generalize rootT (z.take k) = r1 at *
      generalize pathT (z.drop k) (i - k) = t2 at *
      clear hk hn hm hlc h2 hr2 hlt
      have H0 : Hid (Below w.heap.size w w) := Lib.hid (Below.refl w.heap.size w)
      go_enter Tryz.func21, Tryz.ntmps21
      go_wp2_with fail
      refine (hh _).mono ?_
      rintro e w1 ⟨rfl, rfl⟩
      have H1 := Lib.hid H0.out
      clear H0
      clear hh
      go_wp2_with fail
      refine wp_region_any (by kernel_rfl) ?_
      change wpAny _ _ _ _ _ _ _ (World.drew _)
      have H2 := Lib.hid H1.out.drew
      have hdr : Below w1.heap.size w1 w1.drew := (Below.refl _ _).drew
      clear hdr H1
      generalize w1.drew = w2 at *
      refine wpAny_take (i := 0) (v := .slice (some ⟨b, o, none⟩) n cap) rfl (by kernel_rfl) (by kernel_rfl) (by kernel_rfl) (fun _ _ _ h => h) (Or.inl ⟨by kernel_rfl, fun W => by go_simp⟩) ?_
      refine wpAny_take (i := 1) (v := .int .i64 (k : Int)) rfl (by kernel_rfl) (by kernel_rfl) (by kernel_rfl) (fun _ _ _ h => h) (Or.inl ⟨by kernel_rfl, fun W => by go_simp⟩) ?_
      refine wpAny_take (i := 2) (v := .slice (some ⟨b, o + k, none⟩) (n - k) (cap - k)) rfl (by kernel_rfl) (by kernel_rfl) (by kernel_rfl) (fun _ _ _ h => h) (Or.inl ⟨by kernel_rfl, fun W => by go_simp⟩) ?_
      refine wpAny_take (i := 3) (v := .int .i64 (i : Int)) rfl (by kernel_rfl) (by kernel_rfl) (by kernel_rfl) (fun _ _ _ h => h) (Or.inl ⟨by kernel_rfl, fun W => by go_simp⟩) ?_
      refine wpAny_take (i := 4) (v := .int .i64 (k : Int)) rfl (by kernel_rfl) (by kernel_rfl) (by kernel_rfl) (fun _ _ _ h => h) (Or.inl ⟨by kernel_rfl, fun W => by go_simp⟩) ?_
      refine wpAny_take (i := 5) (v := .int .i64 ((i : Int) - (k : Int))) rfl (by kernel_rfl) (by kernel_rfl) (by kernel_rfl) (fun _ _ _ h => h) (Or.inl ⟨by kernel_rfl, fun W => by go_simp⟩) ?_
      refine wpAny_take (i := 7) (v := .slice (some ⟨b, o, none⟩) n cap) rfl (by kernel_rfl) (by kernel_rfl) (by kernel_rfl) (fun _ _ _ h => h) (Or.inl ⟨by kernel_rfl, fun W => by go_simp⟩) ?_
      refine wpAny_take (i := 8) (v := .int .i64 (k : Int)) rfl (by kernel_rfl) (by kernel_rfl) (by kernel_rfl) (fun _ _ _ h => h) (Or.inl ⟨by kernel_rfl, fun W => by go_simp⟩) ?_
      refine wpAny_take (i := 9) (v := .slice (some ⟨b, o, none⟩) k cap) rfl (by kernel_rfl) (by kernel_rfl) (by kernel_rfl) (fun _ _ _ h => h) (Or.inl ⟨by kernel_rfl, fun W => by go_simp⟩) ?_
      refine wpAny_ready (rs := [6]) (by kernel_rfl) (by simp) ?_
      refine AllReady.cons rfl (fun K hK => ?_) AllReady.nil
      go_simp
      refine (HI2.out _ H2.out).mono ?_
      rintro e w3 ⟨vt, rfl, ho, hB⟩
      have H3 := Lib.hid (H2.out.trans (hB.mono H2.out.size))
      have HO3 := Lib.hid (own_mono ho H2.out.size)
      clear ho
      clear hB H2
      refine hK _ _ ?_
      clear hK K
      refine wpAny_ready (rs := [10]) (by kernel_rfl) (by simp) ?_
      refine AllReady.cons rfl (fun K hK => ?_) AllReady.nil
      go_simp
      refine (HR1.out _ H3.out).mono ?_
      rintro e w4 ⟨rfl, hB⟩
      have H4 := Lib.hid (H3.out.trans (hB.mono H3.out.size))
      have HO4 := Lib.hid (HO3.out.on hB)
      clear hB H3 HO3
      refine hK _ _ ?_
      clear hK K
      refine wpAny_ready (rs := [11]) (by kernel_rfl) (by simp) ?_
      refine AllReady.cons rfl (fun K hK => ?_) AllReady.nil
      go_simp
      refine hK _ _ ?_
      clear hK K
      have hal : Below w4.heap.size w4 (w4.alloc (.cells #[.string r1] 9)) := (Below.refl _ _).alloc (Nat.le_refl _) _
      have HLIT : Hid (IsStrC (w4.alloc (.cells #[.string r1] 9)) (.slice (some ⟨w4.heap.size, 0, none⟩) 1 1) [r1]) := Lib.hid (strc_lit w4 [r1] (show 1 ≤ maxLen by decide))
      have H5 := Lib.hid (H4.out.trans (hal.mono H4.out.size))
      have HO5 := Lib.hid (HO4.out.on hal)
      clear hal H4 HO4
      generalize hgw : w4.alloc (.cells #[.string r1] 9) = w5 at *
      clear hgw
      refine wpAny_ready (rs := [12]) (by kernel_rfl) (by simp) ?_
      refine AllReady.cons rfl (fun K hK => ?_) AllReady.nil
      refine ready_wanted (by kernel_rfl) ?_
      refine wp_appS (.tmp 33) (.tmp 38) rfl (by kernel_rfl) (by kernel_rfl) HO5.out HLIT.out H5.out (Nat.le_refl _) (by simp; omega) ?_
      intro va w6 ho h
      have HOva := Lib.hid ho
      have H6 := Lib.hid h
      clear ho h H5
      refine hK _ _ ?_
      clear hK K
      clear HO5 HLIT
      refine wpAny_take (i := 13) (v := va) rfl (by kernel_rfl) (by kernel_rfl) (by kernel_rfl) (fun _ _ _ h => h) (Or.inl ⟨by kernel_rfl, fun W => by go_simp⟩) ?_
      refine wpAny_done (by kernel_rfl) ?_ _
      go_wp2
      go_ret
      exact ⟨_, rfl, by rw [HR.out]; exact HOva.out, H6.out⟩
theorem rPath_any (l : List ByteArray) (v : Value) (i : Int) (w : World) (hv : IsStrC w v l) (hs : ∀ s ∈ l, s.size ≤ 1099511627776) (hl : l.length ≤ 1099511627) :
    Calls Tryz.prog 7 #[v, .int .i64 i] w fun e w' => ∃ v', e = .returned (.tuple #[v', .int .i64 (if 0 ≤ i ∧ i < l.length then 0 else 1)]) ∧ IsStrC w' v' (if 0 ≤ i ∧ i < l.length then pathT l i.toNat else []) ∧ Below w.heap.size w w' := by
  by_cases hi : 0 ≤ i ∧ i < l.length
  · rw [if_pos hi, if_pos hi]
    obtain ⟨j, rfl⟩ := Int.eq_ofNat_of_zero_le hi.1
    have hj : j < l.length := by omega
    rw [Int.toNat_natCast]
    have HC := Lib.hid (rpath_calls l.length l v j w rfl hv hs hl hj)
    obtain ⟨ao, cap, rfl, _, _, _⟩ := hv
    clear hs hi
    have hd1 : decide ((j : Int) < 0) = false := decide_eq_false (by omega)
    have hd2 : decide (l.length ≤ j) = false := decide_eq_false (by omega)
    go_enter Tryz.func7, Tryz.ntmps7
    go_wp2_with fail
    refine (HC.out).mono ?_
    rintro e w1 ⟨v', rfl, ho, h1⟩
    have HO := Lib.hid ho
    clear ho
    go_wp2
    go_ret2
    exact ⟨_, rfl, HO.out.strc, h1⟩
  · rw [if_neg hi, if_neg hi]
    obtain ⟨ao, cap, rfl, _, _, _⟩ := hv
    by_cases h : i < 0
    · clear hi
      go_enter Tryz.func7, Tryz.ntmps7
      go_wp2
      go_ret2
      exact ⟨_, rfl, strc_nil _, Below.refl _ _⟩
    · have h2 : (l.length : Int) ≤ i := by omega
      clear hi
      go_enter Tryz.func7, Tryz.ntmps7
      go_wp2
      go_ret2
      exact ⟨_, rfl, strc_nil _, Below.refl _ _⟩
set_option maxRecDepth 100000 in
set_option maxHeartbeats 4000000 in
theorem rlink_calls (m : Nat) : ∀ (l : List ByteArray) (v : Value) (i : Nat) (wh : Bool) (w : World), l.length = m → IsStrC w v l → (∀ s ∈ l, s.size ≤ 1099511627776) → l.length ≤ 1099511627 → 1 ≤ i → i ≤ l.length →
    Calls Tryz.prog 22 #[v, .int .i64 (i : Int), .bool wh] w fun e w' => ∃ v', e = .returned v' ∧ Own w.heap.size w' v' (linkT l i wh) ∧ Below w.heap.size w w' := by
  induction m using Nat.strongRecOn with
  | _ m ih =>
  intro l v i wh w hm hv hs hl' hi1 hi
  have hl : l.length ≤ 1099511627776 := by omega
  by_cases hie : i = l.length
  · subst hie
    have HU := Lib.hid (linkT_end l wh)
    have HRT := Lib.hid (rroot_calls l.length l v w rfl hv hs hl)
    obtain ⟨ao, cap, rfl, hlc, hmax, hcells⟩ := hv
    clear ih hs hcells hmax hlc hm
    have hb := root_size l
    generalize rootT l = R at *
    cases wh with
    | true =>
      go_enter Tryz.func22, Tryz.ntmps22
      go_wp2
      go_ret
      exact ⟨_, rfl, by rw [HU.out]; exact Own.nil _ _, Below.refl _ _⟩
    | false =>
      go_enter Tryz.func22, Tryz.ntmps22
      go_wp2_with fail
      refine (HRT.out).mono ?_
      rintro e w1 ⟨rfl, h1⟩
      have HO := Lib.hid (own_lit w1 [R] (show 1 ≤ maxLen by decide))
      go_wp2
      go_ret
      exact ⟨_, rfl, by rw [HU.out]; exact own_mono HO.out h1.size, h1.alloc h1.size _⟩
  · have h2 : 2 ≤ l.length := by omega
    obtain ⟨z, hz⟩ : ∃ z, z = l := ⟨_, rfl⟩
    rw [← hz] at hm hl hl' hi hie hv hs h2 ⊢
    clear hz l
    have HV := Lib.hid hv
    have HS := Lib.hid hs
    obtain ⟨b, o, cap, rfl, hlc, hcm⟩ : ∃ b o cap, v = .slice (some ⟨b, o, none⟩) z.length cap ∧ z.length ≤ cap ∧ cap ≤ maxLen := by
      obtain ⟨ao, cap, rfl, g1, g2, hc⟩ := hv
      obtain ⟨b, o, rfl, _⟩ := hc 0 (by omega)
      exact ⟨b, o, cap, rfl, g1, g2⟩
    clear hv hs hcm
    have ht1 := linkT_le (z.take (half z.length)) i wh
    have ht2 := linkT_le (z.drop (half z.length)) (i - half z.length) false
    have HR := Lib.hid (linkT_many h2 hie wh)
    have hk1 := half_lt h2
    have hk0 := half_pos h2
    have hsl1 := run_slice_to (b := b) (o := o) (n := z.length) (cap := cap) (k := half z.length) (by omega)
    have hsl2 := run_slice_from (b := b) (o := o) (n := z.length) (cap := cap) (k := half z.length) (by omega) (by omega) (by omega)
    have HV1 := Lib.hid (HV.out.take (half z.length) (by omega))
    have HV2 := Lib.hid (HV.out.drop (half z.length) (by omega))
    have hl1 : (z.take (half z.length)).length = half z.length := by rw [List.length_take]; omega
    have hl2 : (z.drop (half z.length)).length = z.length - half z.length := by rw [List.length_drop]
    have HR1 := Lib.hid (fun w' hb => rroot_calls (half z.length) (z.take (half z.length)) _ w' hl1 (HV1.out.on hb) (fun s hs => HS.out s (List.mem_of_mem_take hs)) (by omega))
    have HR2 := Lib.hid (fun w' hb => rroot_calls (z.length - half z.length) (z.drop (half z.length)) _ w' hl2 (HV2.out.on hb) (fun s hs => HS.out s (List.mem_of_mem_drop hs)) (by omega))
    have hh := fun W => rhalf_calls z.length h2 hl W
    have hr1 := root_size (z.take (half z.length))
    have hr2 := root_size (z.drop (half z.length))
    have hn0 : z.length ≠ 0 := by omega
    have hn1 : z.length ≠ 1 := by omega
    have HIH := Lib.hid (fun (l' : List ByteArray) (hlt : l'.length < z.length) v' i' wh' w' a1 a2 a3 a4 a5 => ih l'.length (by omega) l' v' i' wh' w' rfl a1 a2 a3 a4 a5)
    have hnn : ((i : Int) == (z.length : Int)) = false := by rw [beq_eq_false_iff_ne]; omega
    rw [hl1] at ht1
    rw [hl2] at ht2
    by_cases hik : i ≤ half z.length
    · have hik' : (i : Int) ≤ (half z.length : Nat) := by omega
      rw [if_pos hik] at HR
      have HI1 := Lib.hid (fun w' hb => HIH.out (z.take (half z.length)) (by omega) _ i wh w' (HV1.out.on hb) (fun s hs => HS.out s (List.mem_of_mem_take hs)) (by omega) hi1 (by omega))
      clear ih HIH HV HS HV1 HV2 hl1 hl2 ht2 HR1
      obtain ⟨n, hn⟩ : ∃ n, n = z.length := ⟨_, rfl⟩
      obtain ⟨k, hk⟩ : ∃ k, k = half z.length := ⟨_, rfl⟩
      rw [← hk] at hk1 hk0 hsl1 hsl2 HI1 HR2 HR hh hr1 hr2 hik' ht1
      rw [← hn] at hsl1 hsl2 HR2 hh hn0 hn1 hk1 hl hl' hnn ⊢
      generalize rootT (z.drop k) = r2 at *
      generalize linkT (z.take k) i wh = t1 at *
      clear hk hn hm hlc h2 hr1 hik hi hie
      have H0 : Hid (Below w.heap.size w w) := Lib.hid (Below.refl w.heap.size w)
      go_enter Tryz.func22, Tryz.ntmps22
      go_wp2_with fail
      refine (hh _).mono ?_
      rintro e w1 ⟨rfl, rfl⟩
      have H1 := Lib.hid H0.out
      clear H0
      clear hh
      go_wp2_with fail
      refine wp_region_any (by kernel_rfl) ?_
      change wpAny _ _ _ _ _ _ _ (World.drew _)
      have H2 := Lib.hid H1.out.drew
      have hdr : Below w1.heap.size w1 w1.drew := (Below.refl _ _).drew
      clear hdr H1
      generalize w1.drew = w2 at *
      refine wpAny_take (i := 0) (v := .slice (some ⟨b, o, none⟩) n cap) rfl (by kernel_rfl) (by kernel_rfl) (by kernel_rfl) (fun _ _ _ h => h) (Or.inl ⟨by kernel_rfl, fun W => by go_simp⟩) ?_
      refine wpAny_take (i := 1) (v := .int .i64 (k : Int)) rfl (by kernel_rfl) (by kernel_rfl) (by kernel_rfl) (fun _ _ _ h => h) (Or.inl ⟨by kernel_rfl, fun W => by go_simp⟩) ?_
      refine wpAny_take (i := 2) (v := .slice (some ⟨b, o, none⟩) k cap) rfl (by kernel_rfl) (by kernel_rfl) (by kernel_rfl) (fun _ _ _ h => h) (Or.inl ⟨by kernel_rfl, fun W => by go_simp⟩) ?_
      refine wpAny_take (i := 3) (v := .int .i64 (i : Int)) rfl (by kernel_rfl) (by kernel_rfl) (by kernel_rfl) (fun _ _ _ h => h) (Or.inl ⟨by kernel_rfl, fun W => by go_simp⟩) ?_
      refine wpAny_take (i := 4) (v := .bool wh) rfl (by kernel_rfl) (by kernel_rfl) (by kernel_rfl) (fun _ _ _ h => h) (Or.inl ⟨by kernel_rfl, fun W => by go_simp⟩) ?_
      refine wpAny_take (i := 6) (v := .slice (some ⟨b, o, none⟩) n cap) rfl (by kernel_rfl) (by kernel_rfl) (by kernel_rfl) (fun _ _ _ h => h) (Or.inl ⟨by kernel_rfl, fun W => by go_simp⟩) ?_
      refine wpAny_take (i := 7) (v := .int .i64 (k : Int)) rfl (by kernel_rfl) (by kernel_rfl) (by kernel_rfl) (fun _ _ _ h => h) (Or.inl ⟨by kernel_rfl, fun W => by go_simp⟩) ?_
      refine wpAny_take (i := 8) (v := .slice (some ⟨b, o + k, none⟩) (n - k) (cap - k)) rfl (by kernel_rfl) (by kernel_rfl) (by kernel_rfl) (fun _ _ _ h => h) (Or.inl ⟨by kernel_rfl, fun W => by go_simp⟩) ?_
      refine wpAny_ready (rs := [5]) (by kernel_rfl) (by simp) ?_
      refine AllReady.cons rfl (fun K hK => ?_) AllReady.nil
      go_simp
      refine (HI1.out _ H2.out).mono ?_
      rintro e w3 ⟨vt, rfl, ho, hB⟩
      have H3 := Lib.hid (H2.out.trans (hB.mono H2.out.size))
      have HO3 := Lib.hid (own_mono ho H2.out.size)
      clear ho
      clear hB H2
      refine hK _ _ ?_
      clear hK K
      refine wpAny_ready (rs := [9]) (by kernel_rfl) (by simp) ?_
      refine AllReady.cons rfl (fun K hK => ?_) AllReady.nil
      go_simp
      refine (HR2.out _ H3.out).mono ?_
      rintro e w4 ⟨rfl, hB⟩
      have H4 := Lib.hid (H3.out.trans (hB.mono H3.out.size))
      have HO4 := Lib.hid (HO3.out.on hB)
      clear hB H3 HO3
      refine hK _ _ ?_
      clear hK K
      refine wpAny_ready (rs := [10]) (by kernel_rfl) (by simp) ?_
      refine AllReady.cons rfl (fun K hK => ?_) AllReady.nil
      go_simp
      refine hK _ _ ?_
      clear hK K
      have hal : Below w4.heap.size w4 (w4.alloc (.cells #[.string r2] 9)) := (Below.refl _ _).alloc (Nat.le_refl _) _
      have HLIT : Hid (IsStrC (w4.alloc (.cells #[.string r2] 9)) (.slice (some ⟨w4.heap.size, 0, none⟩) 1 1) [r2]) := Lib.hid (strc_lit w4 [r2] (show 1 ≤ maxLen by decide))
      have H5 := Lib.hid (H4.out.trans (hal.mono H4.out.size))
      have HO5 := Lib.hid (HO4.out.on hal)
      clear hal H4 HO4
      generalize hgw : w4.alloc (.cells #[.string r2] 9) = w5 at *
      clear hgw
      refine wpAny_ready (rs := [11]) (by kernel_rfl) (by simp) ?_
      refine AllReady.cons rfl (fun K hK => ?_) AllReady.nil
      refine ready_wanted (by kernel_rfl) ?_
      refine wp_appS (.tmp 28) (.tmp 33) rfl (by kernel_rfl) (by kernel_rfl) HO5.out HLIT.out H5.out (Nat.le_refl _) (by simp; omega) ?_
      intro va w6 ho h
      have HOva := Lib.hid ho
      have H6 := Lib.hid h
      clear ho h H5
      refine hK _ _ ?_
      clear hK K
      clear HO5 HLIT
      refine wpAny_take (i := 12) (v := va) rfl (by kernel_rfl) (by kernel_rfl) (by kernel_rfl) (fun _ _ _ h => h) (Or.inl ⟨by kernel_rfl, fun W => by go_simp⟩) ?_
      refine wpAny_done (by kernel_rfl) ?_ _
      go_wp2
      go_ret
      exact ⟨_, rfl, by rw [HR.out]; exact HOva.out, H6.out⟩
    · have hik' : ¬ (i : Int) ≤ (half z.length : Nat) := by omega
      rw [if_neg hik] at HR
      have hI2 := (fun w' hb => HIH.out (z.drop (half z.length)) (by omega) _ (i - half z.length) false w' (HV2.out.on hb) (fun s hs => HS.out s (List.mem_of_mem_drop hs)) (by omega) (by omega) (by omega))
      rw [show ((i - half z.length : Nat) : Int) = (i : Int) - (half z.length : Nat) by omega] at hI2
      have HI2 := Lib.hid hI2
      clear hI2 ih HIH HV HS HV1 HV2 hl1 hl2 ht1 HR2
      obtain ⟨n, hn⟩ : ∃ n, n = z.length := ⟨_, rfl⟩
      obtain ⟨k, hk⟩ : ∃ k, k = half z.length := ⟨_, rfl⟩
      rw [← hk] at hk1 hk0 hsl1 hsl2 HI2 HR1 HR hh hr1 hr2 hik' ht2 hik
      rw [← hn] at hsl1 hsl2 HI2 hh hn0 hn1 hk1 hl hl' ht2 hi hnn ⊢
      have hwr : IntKind.i64.wrap ((i : Int) - (k : Int)) = (i : Int) - (k : Int) := IntWalk.i64_in _ (by omega)
      generalize rootT (z.take k) = r1 at *
      generalize linkT (z.drop k) (i - k) false = t2 at *
      clear hk hn hm hlc h2 hr2 hie
      have H0 : Hid (Below w.heap.size w w) := Lib.hid (Below.refl w.heap.size w)
      go_enter Tryz.func22, Tryz.ntmps22
      go_wp2_with fail
      refine (hh _).mono ?_
      rintro e w1 ⟨rfl, rfl⟩
      have H1 := Lib.hid H0.out
      clear H0
      clear hh
      go_wp2_with fail
      refine wp_region_any (by kernel_rfl) ?_
      change wpAny _ _ _ _ _ _ _ (World.drew _)
      have H2 := Lib.hid H1.out.drew
      have hdr : Below w1.heap.size w1 w1.drew := (Below.refl _ _).drew
      clear hdr H1
      generalize w1.drew = w2 at *
      refine wpAny_take (i := 0) (v := .slice (some ⟨b, o, none⟩) n cap) rfl (by kernel_rfl) (by kernel_rfl) (by kernel_rfl) (fun _ _ _ h => h) (Or.inl ⟨by kernel_rfl, fun W => by go_simp⟩) ?_
      refine wpAny_take (i := 1) (v := .int .i64 (k : Int)) rfl (by kernel_rfl) (by kernel_rfl) (by kernel_rfl) (fun _ _ _ h => h) (Or.inl ⟨by kernel_rfl, fun W => by go_simp⟩) ?_
      refine wpAny_take (i := 2) (v := .slice (some ⟨b, o + k, none⟩) (n - k) (cap - k)) rfl (by kernel_rfl) (by kernel_rfl) (by kernel_rfl) (fun _ _ _ h => h) (Or.inl ⟨by kernel_rfl, fun W => by go_simp⟩) ?_
      refine wpAny_take (i := 3) (v := .int .i64 (i : Int)) rfl (by kernel_rfl) (by kernel_rfl) (by kernel_rfl) (fun _ _ _ h => h) (Or.inl ⟨by kernel_rfl, fun W => by go_simp⟩) ?_
      refine wpAny_take (i := 4) (v := .int .i64 (k : Int)) rfl (by kernel_rfl) (by kernel_rfl) (by kernel_rfl) (fun _ _ _ h => h) (Or.inl ⟨by kernel_rfl, fun W => by go_simp⟩) ?_
      refine wpAny_take (i := 5) (v := .int .i64 ((i : Int) - (k : Int))) rfl (by kernel_rfl) (by kernel_rfl) (by kernel_rfl) (fun _ _ _ h => h) (Or.inl ⟨by kernel_rfl, fun W => by go_simp⟩) ?_
      refine wpAny_take (i := 7) (v := .slice (some ⟨b, o, none⟩) n cap) rfl (by kernel_rfl) (by kernel_rfl) (by kernel_rfl) (fun _ _ _ h => h) (Or.inl ⟨by kernel_rfl, fun W => by go_simp⟩) ?_
      refine wpAny_take (i := 8) (v := .int .i64 (k : Int)) rfl (by kernel_rfl) (by kernel_rfl) (by kernel_rfl) (fun _ _ _ h => h) (Or.inl ⟨by kernel_rfl, fun W => by go_simp⟩) ?_
      refine wpAny_take (i := 9) (v := .slice (some ⟨b, o, none⟩) k cap) rfl (by kernel_rfl) (by kernel_rfl) (by kernel_rfl) (fun _ _ _ h => h) (Or.inl ⟨by kernel_rfl, fun W => by go_simp⟩) ?_
      refine wpAny_ready (rs := [6]) (by kernel_rfl) (by simp) ?_
      refine AllReady.cons rfl (fun K hK => ?_) AllReady.nil
      go_simp
      refine (HI2.out _ H2.out).mono ?_
      rintro e w3 ⟨vt, rfl, ho, hB⟩
      have H3 := Lib.hid (H2.out.trans (hB.mono H2.out.size))
      have HO3 := Lib.hid (own_mono ho H2.out.size)
      clear ho
      clear hB H2
      refine hK _ _ ?_
      clear hK K
      refine wpAny_ready (rs := [10]) (by kernel_rfl) (by simp) ?_
      refine AllReady.cons rfl (fun K hK => ?_) AllReady.nil
      go_simp
      refine (HR1.out _ H3.out).mono ?_
      rintro e w4 ⟨rfl, hB⟩
      have H4 := Lib.hid (H3.out.trans (hB.mono H3.out.size))
      have HO4 := Lib.hid (HO3.out.on hB)
      clear hB H3 HO3
      refine hK _ _ ?_
      clear hK K
      refine wpAny_ready (rs := [11]) (by kernel_rfl) (by simp) ?_
      refine AllReady.cons rfl (fun K hK => ?_) AllReady.nil
      go_simp
      refine hK _ _ ?_
      clear hK K
      have hal : Below w4.heap.size w4 (w4.alloc (.cells #[.string r1] 9)) := (Below.refl _ _).alloc (Nat.le_refl _) _
      have HLIT : Hid (IsStrC (w4.alloc (.cells #[.string r1] 9)) (.slice (some ⟨w4.heap.size, 0, none⟩) 1 1) [r1]) := Lib.hid (strc_lit w4 [r1] (show 1 ≤ maxLen by decide))
      have H5 := Lib.hid (H4.out.trans (hal.mono H4.out.size))
      have HO5 := Lib.hid (HO4.out.on hal)
      clear hal H4 HO4
      generalize hgw : w4.alloc (.cells #[.string r1] 9) = w5 at *
      clear hgw
      refine wpAny_ready (rs := [12]) (by kernel_rfl) (by simp) ?_
      refine AllReady.cons rfl (fun K hK => ?_) AllReady.nil
      refine ready_wanted (by kernel_rfl) ?_
      refine wp_appS (.tmp 41) (.tmp 46) rfl (by kernel_rfl) (by kernel_rfl) HO5.out HLIT.out H5.out (Nat.le_refl _) (by simp; omega) ?_
      intro va w6 ho h
      have HOva := Lib.hid ho
      have H6 := Lib.hid h
      clear ho h H5
      refine hK _ _ ?_
      clear hK K
      clear HO5 HLIT
      refine wpAny_take (i := 13) (v := va) rfl (by kernel_rfl) (by kernel_rfl) (by kernel_rfl) (fun _ _ _ h => h) (Or.inl ⟨by kernel_rfl, fun W => by go_simp⟩) ?_
      refine wpAny_done (by kernel_rfl) ?_ _
      go_wp2
      go_ret
      exact ⟨_, rfl, by rw [HR.out]; exact HOva.out, H6.out⟩
def linkS (l : List ByteArray) (i : Int) : List ByteArray := if 0 < i ∧ i ≤ l.length then linkT l i.toNat true else []
theorem rLink_any (l : List ByteArray) (v : Value) (i : Int) (w : World) (hv : IsStrC w v l) (hs : ∀ s ∈ l, s.size ≤ 1099511627776) (hl : l.length ≤ 1099511627) :
    Calls Tryz.prog 9 #[v, .int .i64 i] w fun e w' => ∃ v', e = .returned (.tuple #[v', .int .i64 (if 0 ≤ i ∧ i ≤ l.length then 0 else 1)]) ∧ IsStrC w' v' (linkS l i) ∧ Below w.heap.size w w' := by
  by_cases hi : 0 ≤ i ∧ i ≤ l.length
  · rw [if_pos hi]
    obtain ⟨j, rfl⟩ := Int.eq_ofNat_of_zero_le hi.1
    have hj : j ≤ l.length := by omega
    by_cases h0 : j = 0
    · subst h0
      have HE : Hid (linkS l ((0 : Nat) : Int) = []) := Lib.hid (if_neg (by omega))
      obtain ⟨ao, cap, rfl, _, _, _⟩ := hv
      clear hi hs
      go_enter Tryz.func9, Tryz.ntmps9
      go_wp2
      go_ret2
      exact ⟨_, rfl, by rw [HE.out]; exact strc_nil _, Below.refl _ _⟩
    · by_cases h1 : j = l.length
      · have HE : Hid (linkS l (j : Int) = []) := Lib.hid (by unfold linkS; rw [if_pos (by omega), Int.toNat_natCast, h1]; exact link_whole l)
        obtain ⟨ao, cap, rfl, _, _, _⟩ := hv
        have hd0 : ((j : Int) == 0) = false := by rw [beq_eq_false_iff_ne]; omega
        have hd1 : decide ((j : Int) < 0) = false := decide_eq_false (by omega)
        obtain ⟨n, hn⟩ : ∃ n, n = l.length := ⟨_, rfl⟩
        rw [← hn] at h1 ⊢
        have HN := Lib.hid hn
        subst h1
        clear hi hs hl hj hn
        go_enter Tryz.func9, Tryz.ntmps9
        go_wp2
        go_ret2
        exact ⟨_, rfl, by rw [HE.out]; exact strc_nil _, Below.refl _ _⟩
      · have HE : Hid (linkS l (j : Int) = linkT l j true) := Lib.hid (by unfold linkS; rw [if_pos (by omega), Int.toNat_natCast])
        have HC := Lib.hid (rlink_calls l.length l v j true w rfl hv hs hl (by omega) hj)
        obtain ⟨ao, cap, rfl, _, _, _⟩ := hv
        have hd0 : ((j : Int) == 0) = false := by rw [beq_eq_false_iff_ne]; omega
        have hd1 : decide ((j : Int) < 0) = false := decide_eq_false (by omega)
        have hd2 : ((j : Int) == (l.length : Int)) = false := by rw [beq_eq_false_iff_ne]; omega
        have hd3 : decide (l.length < j) = false := decide_eq_false (by omega)
        clear hi hs h1 h0
        go_enter Tryz.func9, Tryz.ntmps9
        go_wp2_with fail
        refine (HC.out).mono ?_
        rintro e w1 ⟨v', rfl, ho, h1⟩
        have HO := Lib.hid ho
        clear ho
        go_wp2
        go_ret2
        exact ⟨_, rfl, by rw [HE.out]; exact HO.out.strc, h1⟩
  · rw [if_neg hi]
    have HE : Hid (linkS l i = []) := Lib.hid (if_neg (by omega))
    obtain ⟨ao, cap, rfl, _, _, _⟩ := hv
    by_cases h : i < 0
    · clear hi
      go_enter Tryz.func9, Tryz.ntmps9
      go_wp2
      go_ret2
      exact ⟨_, rfl, by rw [HE.out]; exact strc_nil _, Below.refl _ _⟩
    · have h2 : (l.length : Int) < i := by omega
      clear hi
      go_enter Tryz.func9, Tryz.ntmps9
      go_wp2
      go_ret2
      exact ⟨_, rfl, by rw [HE.out]; exact strc_nil _, Below.refl _ _⟩
end Go.Proofs.YtlchpdjpnabeiaaGreatDoor
