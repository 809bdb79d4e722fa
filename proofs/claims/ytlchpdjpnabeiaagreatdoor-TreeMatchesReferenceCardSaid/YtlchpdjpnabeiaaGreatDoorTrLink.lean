import Derived.Test.YtlchpdjpnabeiaaGreatDoorTrPath
set_option linter.unusedVariables false
namespace Go.Proofs.YtlchpdjpnabeiaaGreatDoor
open Go Go.RowKit

theorem path_bad (l : List ByteArray) (v : Value) (i : Int) (w : World) (hv : IsStrC w v l) (hl : l.length ≤ 1099511627776) (hi : ¬ (0 ≤ i ∧ i < l.length)) :
    Calls Tryz.prog 6 #[v, .int .i64 i] w fun e w' => e = .returned (.tuple #[.slice none 0 0, .int .i64 1]) ∧ w' = w := by
  obtain ⟨ao, cap, rfl, hlc, hmax, hcells⟩ := hv
  clear hcells
  by_cases h : i < 0
  · go_enter Tryz.func6, Tryz.ntmps6
    go_wp2
    go_ret2
    exact ⟨rfl, rfl⟩
  · have h2 : (l.length : Int) ≤ i := by omega
    go_enter Tryz.func6, Tryz.ntmps6
    go_wp2
    go_ret2
    exact ⟨rfl, rfl⟩

theorem link_bad (l : List ByteArray) (v : Value) (i : Int) (w : World) (hv : IsStrC w v l) (hl : l.length ≤ 1099511627776) (hi : ¬ (0 ≤ i ∧ i ≤ l.length)) :
    Calls Tryz.prog 8 #[v, .int .i64 i] w fun e w' => e = .returned (.tuple #[.slice none 0 0, .int .i64 1]) ∧ w' = w := by
  obtain ⟨ao, cap, rfl, hlc, hmax, hcells⟩ := hv
  clear hcells
  by_cases h : i < 0
  · go_enter Tryz.func8, Tryz.ntmps8
    go_wp2
    go_ret2
    exact ⟨rfl, rfl⟩
  · have h2 : (l.length : Int) < i := by omega
    go_enter Tryz.func8, Tryz.ntmps8
    go_wp2
    go_ret2
    exact ⟨rfl, rfl⟩
theorem link_zero (l : List ByteArray) (v : Value) (w : World) (hv : IsStrC w v l) (hl : l.length ≤ 1099511627776) :
    Calls Tryz.prog 8 #[v, .int .i64 0] w fun e w' => e = .returned (.tuple #[.slice none 0 0, .int .i64 0]) ∧ w' = w := by
  obtain ⟨ao, cap, rfl, hlc, hmax, hcells⟩ := hv
  clear hcells
  have h2 : ¬ (l.length : Int) < 0 := by omega
  go_enter Tryz.func8, Tryz.ntmps8
  go_wp2
  go_ret2
  exact ⟨rfl, rfl⟩
set_option maxRecDepth 100000 in
set_option maxHeartbeats 1000000 in
theorem link_ok (l0 : List ByteArray) (v : Value) (m0 : Nat) (w : World) (hv : IsStrC w v l0) (hs : ∀ s ∈ l0, s.size ≤ 1099511627776) (hl0 : l0.length ≤ 1099511627776) (hm0 : 0 < m0) (hm1 : m0 ≤ l0.length) (hT : Tabs w) :
    Calls Tryz.prog 8 #[v, .int .i64 (m0 : Int)] w fun e w' => ∃ v', e = .returned (.tuple #[v', .int .i64 0]) ∧ IsStrC w' v' (linkT l0 m0 true) ∧ Below w.heap.size w w' := by
  have HV0 := Lib.hid hv
  have HT := Lib.hid hT
  have HS := Lib.hid hs
  clear hT hs
  obtain ⟨it, hti, hz0, hz1, hz2⟩ : ∃ i, Tryz.prog.info? 9 = some i ∧ i.zero = some (.string ByteArray.empty) ∧ i.size = 1 ∧ i.bytes = 16 := info_parts (by kernel_rfl)
  have Hi := Lib.hid hti
  have Hz0 := Lib.hid hz0
  have Hz1 := Lib.hid hz1
  have Hz2 := Lib.hid hz2
  clear hti hz0 hz1 hz2
  obtain ⟨ao0, cap0, rfl, hlc, hmax, hcells⟩ := hv
  clear hcells hlc hmax
  have hd1 : decide ((m0 : Int) < 0) = false := decide_eq_false (by omega)
  have hd2 : decide (l0.length < m0) = false := decide_eq_false (by omega)
  have hd3 : ((m0 : Int) == 0) = false := by rw [beq_eq_false_iff_ne]; omega
  have hd4 : ¬ m0 = 0 := by omega
  go_enter Tryz.func8, Tryz.ntmps8
  go_wp2_with fail
  clear hd1 hd2 hd3 hd4
  go_loopw [0, 1, 6, 7] (fun v0 v1 v6 v7 W => ∃ (ao : Option Addr) (cap : Nat) (l : List ByteArray) (m : Nat) (acc : List ByteArray) (wh : Bool), v0 = .slice ao l.length cap ∧ v1 = .int .i64 (m : Int) ∧ v7 = .bool wh ∧ 0 < m ∧ m ≤ l.length ∧ acc.length + l.length ≤ l0.length ∧ Hid (Own w.heap.size W v6 acc ∧ IsStrC w (.slice ao l.length cap) l ∧ linkT l0 m0 true = linkT l m wh ++ acc.reverse ∧ ∀ s ∈ l, s.size ≤ 1099511627776) ∧ Hid (Below w.heap.size w W)) (fun v0 _ _ _ _ => sliceLen v0)
  case atStart => exact ⟨ao0, cap0, l0, m0, [], true, rfl, rfl, rfl, hm0, hm1, by simp, Lib.hid ⟨Own.nil _ _, HV0.out, by simp, HS.out⟩, Lib.hid (Below.refl _ _)⟩
  case round =>
    obtain ⟨ao, cap, l, m, acc, wh, rfl, rfl, rfl, hm0', hm1', hacc, HX, HB⟩ := hrel
    clear HV0 HS hm0 hm1
    by_cases hml : m < l.length
    · have h2 : 2 ≤ l.length := by omega
      have hcell := HX.out.2.1
      obtain ⟨ao', cap', he, hlc, hmax, hcells⟩ := hcell
      simp only [Value.slice.injEq] at he
      obtain ⟨rfl, _, rfl⟩ := he
      obtain ⟨b, o, rfl, hlt, hc0⟩ := hcells 0 (by omega)
      clear hcells hc0
      have hk1 := half_lt h2
      have hk0 := half_pos h2
      have hl1 : (l.take (half l.length)).length = half l.length := by rw [List.length_take]; omega
      have hl2 : (l.drop (half l.length)).length = l.length - half l.length := by rw [List.length_drop]
      have HV1 := Lib.hid (HX.out.2.1.take (half l.length) (by omega))
      have HV2 := Lib.hid (HX.out.2.1.drop (half l.length) (by omega))
      have hsl1 := run_slice_to (b := b) (o := o) (n := l.length) (cap := cap) (k := half l.length) (by omega)
      have hsl2 := run_slice_from (b := b) (o := o) (n := l.length) (cap := cap) (k := half l.length) (by omega) (by omega) (by omega)
      have HI1 := Lib.hid (root_calls _ (l.take (half l.length)) _ wr rfl (HV1.out.on HB.out) (fun s hs => HX.out.2.2.2 s (List.mem_of_mem_take hs)) (by omega) (HT.out.on HB.out))
      have HI2 := Lib.hid (root_calls _ (l.drop (half l.length)) _ wr rfl (HV2.out.on HB.out) (fun s hs => HX.out.2.2.2 s (List.mem_of_mem_drop hs)) (by omega) (HT.out.on HB.out))
      have HH := Lib.hid (fun W => half_calls l.length h2 (by omega) W)
      have HP : Hid (linkT l m wh = if m ≤ half l.length then linkT (l.take (half l.length)) m wh ++ [rootT (l.drop (half l.length))] else linkT (l.drop (half l.length)) (m - half l.length) false ++ [rootT (l.take (half l.length))]) := by
        rw [linkT, dif_neg (by omega)]; exact Lib.hid rfl
      generalize rootT (l.take (half l.length)) = r1 at *
      generalize rootT (l.drop (half l.length)) = r2 at *
      have hml2 : (m : Int) < (l.length : Int) := by omega
      clear hlc hmax h2
      by_cases hik : m ≤ half l.length
      · have hik' : (m : Int) ≤ (half l.length : Nat) := by omega
        have HP : Hid (linkT l0 m0 true = linkT (l.take (half l.length)) m wh ++ [r2] ++ acc.reverse) := by rw [HX.out.2.2.1, HP.out, if_pos hik]; exact Lib.hid rfl
        go_wp2_with fail
        refine (HH.out _).mono ?_
        rintro e w1 ⟨rfl, rfl⟩
        go_wp2_with fail
        refine (HI2.out).mono ?_
        rintro e w2 ⟨rfl, h2⟩
        have H2 := Lib.hid (HB.out.trans (h2.mono HB.out.size))
        have HO2 : Hid (Own w.heap.size w2 u6 acc) := Lib.hid (HX.out.1.on h2)
        clear h2
        go_wp2_with (at_builtin; refine wpList_append_own _ rfl (.tmp 29) (.tmp 34) 22 rfl w.heap.size 9 it (.string ByteArray.empty) 1 16 Tryz.underlying22 Hi.out Hz0.out Hz1.out Hz2.out rfl (by decide) _ _ _ rfl (HO2.out.alloc _) ⟨w2.heap.size, 0, none⟩ 1 1 [.string r2] rfl rfl (cell_byte_new _ _ _) (by simp [Value.oneCell']) (by unfold maxLen; omega) (by omega) (by have := H2.out.size; rw [World.size_alloc]; omega) ?_)
        intro v' w3 hown hgr hnil
        have HO3 : Hid (Own w.heap.size w3 v' (acc ++ [r2])) := by
          unfold Own
          rw [List.length_append, List.map_append]
          exact Lib.hid hown
        have H3 : Hid (Below w.heap.size w w3) := Lib.hid ((H2.out.alloc H2.out.size _).grown hgr (by have := H2.out.size; rw [World.size_alloc]; omega) (fun k hk => (World.ownsRow.lt HO2.out k hk).1))
        have HV3 : Hid (IsStrC w (.slice (some ⟨b, o, none⟩) (l.take (half l.length)).length cap) (l.take (half l.length))) := by rw [hl1]; exact HV1
        clear hown hgr hnil HO2 H2
        go_wp2
        go_round
        case rel => exact ⟨(some ⟨b, o, none⟩), cap, l.take (half l.length), m, acc ++ [r2], wh, by rw [hl1], rfl, rfl, by omega, by omega, by rw [List.length_append]; simp; omega, Lib.hid ⟨HO3.out, HV3.out, by rw [HP.out, List.reverse_append]; simp, fun s hs => HX.out.2.2.2 s (List.mem_of_mem_take hs)⟩, H3⟩
        case measure => simp only [sliceLen]; omega
      · have hik' : ¬ (m : Int) ≤ (half l.length : Nat) := by omega
        have HP : Hid (linkT l0 m0 true = linkT (l.drop (half l.length)) (m - half l.length) false ++ [r1] ++ acc.reverse) := by rw [HX.out.2.2.1, HP.out, if_neg hik]; exact Lib.hid rfl
        go_wp2_with fail
        refine (HH.out _).mono ?_
        rintro e w1 ⟨rfl, rfl⟩
        go_wp2_with fail
        refine (HI1.out).mono ?_
        rintro e w2 ⟨rfl, h2⟩
        have H2 := Lib.hid (HB.out.trans (h2.mono HB.out.size))
        have HO2 : Hid (Own w.heap.size w2 u6 acc) := Lib.hid (HX.out.1.on h2)
        clear h2
        go_wp2_with (at_builtin; refine wpList_append_own _ rfl (.tmp 39) (.tmp 44) 22 rfl w.heap.size 9 it (.string ByteArray.empty) 1 16 Tryz.underlying22 Hi.out Hz0.out Hz1.out Hz2.out rfl (by decide) _ _ _ rfl (HO2.out.alloc _) ⟨w2.heap.size, 0, none⟩ 1 1 [.string r1] rfl rfl (cell_byte_new _ _ _) (by simp [Value.oneCell']) (by unfold maxLen; omega) (by omega) (by have := H2.out.size; rw [World.size_alloc]; omega) ?_)
        intro v' w3 hown hgr hnil
        have HO3 : Hid (Own w.heap.size w3 v' (acc ++ [r1])) := by
          unfold Own
          rw [List.length_append, List.map_append]
          exact Lib.hid hown
        have H3 : Hid (Below w.heap.size w w3) := Lib.hid ((H2.out.alloc H2.out.size _).grown hgr (by have := H2.out.size; rw [World.size_alloc]; omega) (fun k hk => (World.ownsRow.lt HO2.out k hk).1))
        have HV3 : Hid (IsStrC w (.slice (some ⟨b, o + half l.length, none⟩) (l.drop (half l.length)).length (cap - half l.length)) (l.drop (half l.length))) := by rw [hl2]; exact HV2
        clear hown hgr hnil HO2 H2
        go_wp2
        go_round
        case rel => exact ⟨(some ⟨b, o + half l.length, none⟩), (cap - half l.length), l.drop (half l.length), m - half l.length, acc ++ [r1], false, by rw [hl2], by congr 1; omega, rfl, by omega, by omega, by rw [List.length_append]; simp; omega, Lib.hid ⟨HO3.out, HV3.out, by rw [HP.out, List.reverse_append]; simp, fun s hs => HX.out.2.2.2 s (List.mem_of_mem_drop hs)⟩, H3⟩
        case measure => simp only [sliceLen]; omega
    · have he : m = l.length := by omega
      subst he
      have HE : Hid (linkT l0 m0 true = (if wh then [] else [rootT l]) ++ acc.reverse) := by rw [HX.out.2.2.1, linkT, dif_pos (Or.inr rfl)]; exact Lib.hid rfl
      cases wh with
      | true =>
        go_wp2_with fail
        refine (rev_calls w.heap.size u6 acc w wr HX.out.1 HB.out (by omega)).mono ?_
        rintro e w1 ⟨rfl, h1, h2⟩
        go_wp2
        go_ret2
        exact ⟨_, rfl, by rw [HE.out]; exact h1, h2⟩
      | false =>
        have HI1 := Lib.hid (root_calls _ l _ wr rfl (HX.out.2.1.on HB.out) HX.out.2.2.2 (by omega) (HT.out.on HB.out))
        generalize rootT l = r1 at *
        go_wp2_with fail
        refine (HI1.out).mono ?_
        rintro e w2 ⟨rfl, h2⟩
        have H2 := Lib.hid (HB.out.trans (h2.mono HB.out.size))
        have HO2 : Hid (Own w.heap.size w2 u6 acc) := Lib.hid (HX.out.1.on h2)
        clear h2
        go_wp2_with (at_builtin; refine wpList_append_own _ rfl (.tmp 54) (.tmp 57) 22 rfl w.heap.size 9 it (.string ByteArray.empty) 1 16 Tryz.underlying22 Hi.out Hz0.out Hz1.out Hz2.out rfl (by decide) _ _ _ rfl (HO2.out.alloc _) ⟨w2.heap.size, 0, none⟩ 1 1 [.string r1] rfl rfl (cell_byte_new _ _ _) (by simp [Value.oneCell']) (by unfold maxLen; omega) (by omega) (by have := H2.out.size; rw [World.size_alloc]; omega) ?_)
        intro v' w3 hown hgr hnil
        have HO3 : Hid (Own w.heap.size w3 v' (acc ++ [r1])) := by
          unfold Own
          rw [List.length_append, List.map_append]
          exact Lib.hid hown
        have H3 : Hid (Below w.heap.size w w3) := Lib.hid ((H2.out.alloc H2.out.size _).grown hgr (by have := H2.out.size; rw [World.size_alloc]; omega) (fun k hk => (World.ownsRow.lt HO2.out k hk).1))
        clear hown hgr hnil HO2 H2
        go_wp2_with fail
        refine (rev_calls w.heap.size v' (acc ++ [r1]) w w3 HO3.out H3.out (by rw [List.length_append]; simp; omega)).mono ?_
        rintro e w1 ⟨rfl, h1, h2⟩
        go_wp2
        go_ret2
        exact ⟨_, rfl, by rw [HE.out]; simpa using h1, h2⟩
end Go.Proofs.YtlchpdjpnabeiaaGreatDoor
