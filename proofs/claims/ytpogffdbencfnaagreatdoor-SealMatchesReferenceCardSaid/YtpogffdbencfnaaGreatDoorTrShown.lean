import Derived.Test.YtpogffdbencfnaaGreatDoorTrApp
import Derived.Test.YtpogffdbencfnaaGreatDoorDgRefD
import Derived.BigQuiet
set_option linter.unusedVariables false
namespace Go.Proofs.YtpogffdbencfnaaGreatDoor
open Go Go.RowKit

def badP (L : List ByteArray) (i k : Nat) : Prop := sumS (L.getD i ByteArray.empty) = sumS (L.getD k ByteArray.empty) ∧ L.getD i ByteArray.empty ≠ L.getD k ByteArray.empty
theorem clash_pair {L : List ByteArray} (h : Clash L) : ∃ i k, k < i ∧ i < L.length ∧ badP L i k := by
  obtain ⟨a, b, ha, hb, hne, hs⟩ := h
  obtain ⟨i, hi, rfl⟩ := List.getElem_of_mem ha
  obtain ⟨k, hk, rfl⟩ := List.getElem_of_mem hb
  have ei : L.getD i ByteArray.empty = L[i] := by simp [List.getD, hi]
  have ek : L.getD k ByteArray.empty = L[k] := by simp [List.getD, hk]
  rcases Nat.lt_trichotomy i k with h | h | h
  · exact ⟨k, i, h, hk, by rw [ei, ek]; exact hs.symm, by rw [ei, ek]; exact hne.symm⟩
  · subst h; exact absurd rfl hne
  · exact ⟨i, k, h, hi, by rw [ei, ek]; exact hs, by rw [ei, ek]; exact hne⟩
theorem map_getD (L : List ByteArray) (i : Nat) (h : i < L.length) : (L.map sumS).getD i ByteArray.empty = sumS (L.getD i ByteArray.empty) := by
  simp [List.getD, h]
theorem take_snocB (L : List ByteArray) (i : Nat) (h : i < L.length) : (L.take (i + 1)).map sumS = (L.take i).map sumS ++ [sumS (L.getD i ByteArray.empty)] := by
  rw [List.take_succ_eq_append_getElem h, List.map_append]
  simp [List.getD, h]
theorem getD_size {L : List ByteArray} {M : Nat} (h : ∀ s ∈ L, s.size ≤ M) (i : Nat) : (L.getD i ByteArray.empty).size ≤ M := by
  by_cases hi : i < L.length
  · rw [show L.getD i ByteArray.empty = L[i] by simp [List.getD, hi]]; exact h _ (List.getElem_mem hi)
  · rw [show L.getD i ByteArray.empty = ByteArray.empty by simp [List.getD, Nat.le_of_not_lt hi]]; exact Nat.zero_le _
theorem strne {s u : ByteArray} (h : s ≠ u) : (s.toList == u.toList) = false := by
  rw [beq_eq_false_iff_ne]
  intro e
  apply h
  rw [ByteArray.toList_eq, ByteArray.toList_eq] at e
  exact ByteArray.ext (Array.toList_inj.1 e)
set_option maxRecDepth 100000 in
set_option maxHeartbeats 4000000 in
theorem shown_calls (L : List ByteArray) (v : Value) (w : World) (hv : IsStrC w v L) (hs : ∀ s ∈ L, s.size ≤ 1099511627776) (hl : L.length ≤ 1000000) (hc : Clash L) :
    Calls Tryz.prog 17 #[v] w fun e w' => e = .returned (.bool true) ∧ Below w.heap.size w w' := by
  have HV := Lib.hid hv
  have HP := Lib.hid (clash_pair hc)
  have HS := Lib.hid hs
  obtain ⟨ao, cap, rfl, hlc, hmax, hcells⟩ := hv
  have HC := Lib.hid hcells
  clear hs hc hcells hmax
  obtain ⟨n, hn⟩ : ∃ n, n = L.length := ⟨_, rfl⟩
  rw [← hn] at hl hlc ⊢
  have HN := Lib.hid hn
  clear hn
  go_enter Tryz.func17, Tryz.ntmps17
  go_wp2_with fail
  go_loopw [3, 4] (fun v3 vi W => ∃ i : Nat, vi = .int .i64 (i : Int) ∧ i ≤ n ∧ Hid (Own w.heap.size W v3 ((L.take i).map sumS) ∧ Below w.heap.size w W)) (fun _ vi _ => n - (RowKit.intOf vi).toNat)
  case atStart => exact ⟨0, rfl, by omega, Own.nil _ _, Below.refl _ _⟩
  case round =>
    obtain ⟨i, rfl, hi, HI⟩ := hrel
    by_cases hlt : i < n
    · obtain ⟨b, o, rfl, hbl, hc⟩ := HC.out i (by rw [← HN.out]; exact hlt)
      have hcw : wr.cell? ⟨b, o + i, none⟩ = some (.string (L.getD i ByteArray.empty)) := by rw [HI.out.2.cell (p := ⟨b, o + i, none⟩) hbl]; exact hc
      clear hc HC
      have HTK := Lib.hid (take_snocB L i (by rw [← HN.out]; exact hlt))
      have hsz := getD_size HS.out i
      have hacc : ((L.take i).map sumS).length ≤ 1000000 := by rw [List.length_map, List.length_take]; omega
      generalize L.getD i ByteArray.empty = s at *
      generalize (L.take i).map sumS = acc at *
      go_wp2_with fail
      refine (rsum_calls s (by omega) _).mono ?_
      rintro e w1 ⟨rfl, rfl⟩
      go_wp2_with (at_builtin; refine app1 rfl (.tmp 13) (.tmp 19) rfl (r := sumS s) rfl HI.out.1 HI.out.2 (Nat.le_refl _) (by omega) rfl ?_)
      intro v' w2 ho2 h2
      have HI2 : Hid (Own w.heap.size w2 v' ((L.take (i + 1)).map sumS) ∧ Below w.heap.size w w2) := by rw [HTK.out]; exact Lib.hid ⟨ho2, h2⟩
      clear ho2 h2 HI HTK hcw
      go_wp2
      go_round
      case rel => exact ⟨i + 1, by go_num, by omega, HI2⟩
      case measure => simp only [RowKit.intOf]; omega
    · have hin : i = n := by omega
      have HO : Hid (IsStrC wr u3 (L.map sumS)) := by
        have := HI.out.1.strc
        rw [List.take_of_length_le (by have := HN.out; omega)] at this
        exact Lib.hid this
      have HB := Lib.hid HI.out.2
      clear HI
      obtain ⟨wo, rfl⟩ : ∃ wo : World, wo = wr := ⟨_, rfl⟩
      obtain ⟨ao3, cap3, rfl, hlc3, hmax3, hcells3⟩ := HO.out
      have HC3 := Lib.hid hcells3
      have hl3 : (L.map sumS).length = n := by rw [List.length_map]; exact HN.out.symm
      rw [hl3] at hlc3 ⊢
      have hmax3' : cap3 ≤ 9223372036854775807 := hmax3
      clear hcells3 HO hl3 hmax3
      subst hin
      go_wp2_with fail
      go_loopw [5] (fun vi W => ∃ j : Nat, vi = .int .i64 (j : Int) ∧ j ≤ i ∧ Hid (Below wo.heap.size wo W ∧ ∀ x y, x < j → y < x → ¬ badP L x y)) (fun vi _ => i - (RowKit.intOf vi).toNat)
      case atStart => exact ⟨0, rfl, by omega, Below.refl _ _, fun x y hx => by omega⟩
      case round =>
        obtain ⟨j, rfl, hj, HJ⟩ := hrel
        by_cases hlt2 : j < i
        · obtain ⟨wp, rfl⟩ : ∃ wp : World, wp = wr := ⟨_, rfl⟩
          go_wp2_with fail
          go_loopw [6] (fun vk W => ∃ k : Nat, vk = .int .i64 (k : Int) ∧ k ≤ j ∧ Hid (Below wo.heap.size wo W ∧ ∀ y, y < k → ¬ badP L j y)) (fun vk _ => j - (RowKit.intOf vk).toNat)
          case atStart => exact ⟨0, rfl, by omega, HJ.out.1, fun y hy => by omega⟩
          case round =>
            obtain ⟨k, rfl, hk, HK⟩ := hrel
            by_cases hlt3 : k < j
            · obtain ⟨b, o, rfl, hbl, hc⟩ := HC.out j (by rw [← HN.out]; exact hlt2)
              obtain ⟨b', o', e', hbl', hc'⟩ := HC.out k (by rw [← HN.out]; omega)
              cases e'
              obtain ⟨b3, o3, rfl, hbl3, hc3⟩ := HC3.out j (by rw [List.length_map, ← HN.out]; exact hlt2)
              obtain ⟨b3', o3', e3', hbl3', hc3'⟩ := HC3.out k (by rw [List.length_map, ← HN.out]; omega)
              cases e3'
              have hB := HB.out.size
              have hki : k < i := by omega
              have hcj : wr.cell? ⟨b, o + j, none⟩ = some (.string (L.getD j ByteArray.empty)) := by rw [HK.out.1.cell (p := ⟨b, o + j, none⟩) (Nat.lt_of_lt_of_le hbl hB), HB.out.cell (p := ⟨b, o + j, none⟩) hbl]; exact hc
              have hck : wr.cell? ⟨b, o + k, none⟩ = some (.string (L.getD k ByteArray.empty)) := by rw [HK.out.1.cell (p := ⟨b, o + k, none⟩) (Nat.lt_of_lt_of_le hbl hB), HB.out.cell (p := ⟨b, o + k, none⟩) hbl]; exact hc'
              have hdj : wr.cell? ⟨b3, o3 + j, none⟩ = some (.string (sumS (L.getD j ByteArray.empty))) := by rw [HK.out.1.cell (p := ⟨b3, o3 + j, none⟩) hbl3, hc3, map_getD L j (by rw [← HN.out]; exact hlt2)]
              have hdk : wr.cell? ⟨b3, o3 + k, none⟩ = some (.string (sumS (L.getD k ByteArray.empty))) := by rw [HK.out.1.cell (p := ⟨b3, o3 + k, none⟩) hbl3, hc3', map_getD L k (by rw [← HN.out]; omega)]
              clear hc hc' hc3 hc3' HC HC3 hB
              obtain ⟨s, hs⟩ : ∃ s, s = L.getD j ByteArray.empty := ⟨_, rfl⟩
              obtain ⟨t, ht⟩ : ∃ t, t = L.getD k ByteArray.empty := ⟨_, rfl⟩
              have HS1 : Hid (badP L j k ↔ (sumS s = sumS t ∧ s ≠ t)) := by rw [hs, ht]; exact Lib.hid Iff.rfl
              rw [← hs] at hcj hdj
              rw [← ht] at hck hdk
              clear hs ht
              by_cases hq : sumS s = sumS t
              · by_cases he : s = t
                · subst he
                  have HH : Hid (∀ y, y < k + 1 → ¬ badP L j y) := Lib.hid fun y hy hb => by
                    rcases Nat.lt_succ_iff_lt_or_eq.1 hy with h | h
                    · exact HK.out.2 y h hb
                    · subst h; exact (HS1.out.1 hb).2 rfl
                  have HB2 := Lib.hid HK.out.1
                  clear HK HS1
                  generalize sumS s = g at *
                  go_wp2_with fail
                  go_quiet (fail)
                  go_wp2
                  go_round
                  case rel => exact ⟨k + 1, by go_num, by omega, below_drewN HB2.out _, HH.out⟩
                  case measure => simp only [RowKit.intOf]; omega
                · have hne := strne he
                  have HB2 := Lib.hid HK.out.1
                  rw [hq] at hdj
                  clear HK HS1
                  generalize sumS t = g at *
                  clear hq
                  go_wp2_with fail
                  go_quiet (fail)
                  go_wp2
                  go_ret
                  exact ⟨rfl, HB.out.trans (below_drewN (HB2.out.mono HB.out.size) _)⟩
              · have hne := strne hq
                have HH : Hid (∀ y, y < k + 1 → ¬ badP L j y) := Lib.hid fun y hy hb => by
                  rcases Nat.lt_succ_iff_lt_or_eq.1 hy with h | h
                  · exact HK.out.2 y h hb
                  · subst h; exact hq (HS1.out.1 hb).1
                have HB2 := Lib.hid HK.out.1
                clear HK HS1 hq
                generalize sumS s = g at *
                generalize sumS t = g2 at *
                go_wp2_with fail
                go_quiet (fail)
                go_wp2
                go_round
                case rel => exact ⟨k + 1, by go_num, by omega, below_drewN HB2.out _, HH.out⟩
                case measure => simp only [RowKit.intOf]; omega
            · have hkj : k = j := by omega
              have HH : Hid (Below wo.heap.size wo wr ∧ ∀ x y, x < j + 1 → y < x → ¬ badP L x y) := Lib.hid ⟨HK.out.1, fun x y hx hy hb => by
                rcases Nat.lt_succ_iff_lt_or_eq.1 hx with h | h
                · exact HJ.out.2 x y h hy hb
                · subst h; exact HK.out.2 y (by omega) hb⟩
              clear HK HJ
              go_wp2
              go_round
              case rel => exact ⟨j + 1, by go_num, by omega, HH⟩
              case measure => simp only [RowKit.intOf]; omega
        · exfalso
          obtain ⟨x, y, hy, hx, hb⟩ := HP.out
          exact HJ.out.2 x y (by have := HN.out; omega) hy hb
end Go.Proofs.YtpogffdbencfnaaGreatDoor
