import Derived.Test.YtpogffdbencfnaaGreatDoorSlWk
import Derived.Test.YtpogffdbencfnaaGreatDoorTrJlit
import Derived.Test.YtpogffdbencfnaaGreatDoorDgRef
import Derived.Test.YtpogffdbencfnaaGreatDoorTrShown
set_option linter.unusedVariables false
namespace Go.Proofs.YtpogffdbencfnaaGreatDoor
open Go Go.RowKit

theorem power_calls (n : Nat) (hn : n ≤ 30) (w : World) :
    Calls Tryz.prog 29 #[.int .i64 (n : Int)] w fun e w' => e = .returned (.int .i64 ((2 ^ n : Nat) : Int)) ∧ w' = w := by
  go_enter Tryz.func29, Tryz.ntmps29
  go_wp2_with fail
  go_loop [3, 4] (fun v3 v4 => ∃ i p : Nat, v4 = .int .i64 (i : Int) ∧ v3 = .int .i64 (p : Int) ∧ i ≤ n ∧ p ≤ 1073741824 ∧ Hid (p = 2 ^ i)) (fun _ v4 => n - (RowKit.intOf v4).toNat)
  case atStart => exact ⟨0, 1, rfl, rfl, by omega, by decide, Lib.hid rfl⟩
  case round =>
    obtain ⟨i, p, rfl, rfl, hi, hp, HP⟩ := hrel
    by_cases hlt : i < n
    · have HP2 : Hid (2 * p = 2 ^ (i + 1)) := Lib.hid (by rw [HP.out, Nat.pow_succ]; omega)
      have hp2 : 2 * p ≤ 1073741824 := by
        rw [HP2.out]
        exact Nat.pow_le_pow_right (n := 2) (by decide) (by omega : i + 1 ≤ 30)
      go_wp2
      go_round
      case rel => exact ⟨i + 1, 2 * p, by go_num, by go_num, by omega, hp2, HP2⟩
      case measure => simp only [RowKit.intOf]; omega
    · have hin : i = n := by omega
      have HE : Hid ((p : Int) = (2 : Int) ^ n) := Lib.hid (by rw [HP.out, hin]; simp)
      clear hin
      go_wp2
      go_ret
      exact ⟨by rw [← HE.out]; rfl, rfl⟩
theorem node03_calls (a b : ByteArray) (w : World) (ha : a.size ≤ 1099511627776) (hb : b.size ≤ 1099511627776) :
    Calls Tryz.prog 47 #[.string a, .string b] w fun e w' => e = .returned (.string (jB [sNode, a, b])) ∧ Below w.heap.size w w' := by
  go_enter Tryz.func47, Tryz.ntmps47
  go_wp2_with fail
  refine (jlit_calls [sNode, a, b] w (by simp; exact ⟨by decide, ha, hb⟩) (by simp)).mono ?_
  rintro e w1 ⟨rfl, h1⟩
  go_wp2
  go_ret
  exact ⟨rfl, h1⟩
theorem chained_take (t : ByteArray) (n k : Nat) (h : k < n + 1) : (chainedT t n).take (k + 1) = (chainedT t n).take k ++ [chainS t k] := range_take (n + 1) k _ h
set_option maxHeartbeats 1000000 in
theorem chained_calls (t : ByteArray) (n : Nat) (w : World) (ht : t.size ≤ 1099511627776) (hn : n ≤ 1000) :
    Calls Tryz.prog 46 #[.string t, .int .i64 (n : Int)] w fun e w' => ∃ v', e = .returned v' ∧ Own w.heap.size w' v' (chainedT t n) ∧ Below w.heap.size w w' := by
  have HO0 := Lib.hid (own_lit w [t] (show 1 ≤ maxLen by decide))
  have HT1 : Hid ((chainedT t n).take 1 = [t]) := Lib.hid (by rw [chained_take t n 0 (by omega)]; rfl)
  go_enter Tryz.func46, Tryz.ntmps46
  go_wp2_with fail
  go_loopw [0, 5, 6] (fun v0 v5 v6 W => ∃ (i : Nat) (c : ByteArray), v6 = .int .i64 (i : Int) ∧ v0 = .string c ∧ i ≤ n ∧ c.size ≤ 1099511627776 ∧ Hid (c = chainS t i ∧ Own w.heap.size W v5 ((chainedT t n).take (i + 1)) ∧ Below w.heap.size w W)) (fun _ _ v6 _ => n - (RowKit.intOf v6).toNat)
  case atStart => exact ⟨0, t, rfl, rfl, by omega, ht, rfl, by rw [HT1.out]; exact HO0.out, (Below.refl w.heap.size w).alloc (Nat.le_refl _) _⟩
  case round =>
    obtain ⟨i, c, rfl, rfl, hi, hc, HI⟩ := hrel
    clear HO0 HT1
    by_cases hlt : i < n
    · have HTK : Hid ((chainedT t n).take (i + 1 + 1) = (chainedT t n).take (i + 1) ++ [sumS c]) := Lib.hid (by rw [chained_take t n (i + 1) (by omega), HI.out.1]; rfl)
      have HCS : Hid (sumS c = chainS t (i + 1)) := Lib.hid (by rw [HI.out.1]; rfl)
      have hacc : ((chainedT t n).take (i + 1)).length ≤ 1001 := by rw [List.length_take]; omega
      have hss := sumS_size c
      have HI2 := Lib.hid HI.out.2
      clear HI
      go_wp2_with fail
      refine (rsum_calls c (by omega) _).mono ?_
      rintro e w1 ⟨rfl, rfl⟩
      generalize sumS c = c2 at *
      generalize (chainedT t n).take (i + 1) = acc at *
      go_wp2_with (at_builtin; refine app1 rfl (.tmp 16) (.tmp 18) rfl (r := c2) rfl HI2.out.1 HI2.out.2 (Nat.le_refl _) (by omega) rfl ?_)
      intro v' w3 ho3 h3
      have HI3 : Hid (c2 = chainS t (i + 1) ∧ Own w.heap.size w3 v' ((chainedT t n).take (i + 1 + 1)) ∧ Below w.heap.size w w3) := by rw [HTK.out]; exact Lib.hid ⟨HCS.out, ho3, h3⟩
      clear ho3 h3 HI2 HTK HCS
      go_wp2
      go_round
      case rel => exact ⟨i + 1, c2, by go_num, rfl, by omega, by omega, HI3⟩
      case measure => simp only [RowKit.intOf]; omega
    · have HO : Hid (Own w.heap.size wr u5 (chainedT t n) ∧ Below w.heap.size w wr) := Lib.hid ⟨by have := HI.out.2.1; rwa [List.take_of_length_le (by simp [chainedT]; omega)] at this, HI.out.2.2⟩
      clear HI
      go_wp2
      go_ret
      exact ⟨_, rfl, HO.out.1, HO.out.2⟩
def shortB (l : List ByteArray) : Bool := l.all fun s => decide (s.size ≤ 300)
theorem short_take {l : List ByteArray} {i : Nat} (h : i < l.length) : shortB (l.take (i + 1)) = (shortB (l.take i) && decide ((l.getD i ByteArray.empty).size ≤ 300)) := by
  unfold shortB
  rw [List.take_succ_eq_append_getElem h, List.all_append]
  simp [List.getD, h]
theorem short_not {l : List ByteArray} {i : Nat} (h : i < l.length) (hn : ¬ (l.getD i ByteArray.empty).size ≤ 300) : shortB l = false := by
  cases hq : shortB l with
  | false => rfl
  | true =>
    have := List.all_eq_true.1 hq (l.getD i ByteArray.empty) (by simp [List.getD, h])
    exact absurd (by simpa using this) hn
theorem short_calls (v : Value) (l : List ByteArray) (w : World) (hv : IsStrC w v l) (hs : ∀ s ∈ l, s.size ≤ 9223372036854775807) :
    Calls Tryz.prog 8 #[v] w fun e w' => e = .returned (.bool (shortB l)) ∧ w' = w := by
  have HV := Lib.hid hv
  have HS := Lib.hid hs
  obtain ⟨ao, cap, rfl, hlc, hmax, hcells⟩ := hv
  have HC := Lib.hid hcells
  have hmx : cap ≤ 9223372036854775807 := hmax
  clear hs hcells hmax
  obtain ⟨n, hn⟩ : ∃ n, n = l.length := ⟨_, rfl⟩
  rw [← hn] at hlc ⊢
  have HN := Lib.hid hn
  clear hn
  go_enter Tryz.func8, Tryz.ntmps8
  go_wp2_with fail
  go_loop [3] (fun vi => ∃ i : Nat, vi = .int .i64 (i : Int) ∧ i ≤ n ∧ Hid (shortB (l.take i) = true)) (fun vi => n - (RowKit.intOf vi).toNat)
  case atStart => exact ⟨0, rfl, by omega, Lib.hid rfl⟩
  case round =>
    obtain ⟨i, rfl, hi, HI⟩ := hrel
    by_cases hlt : i < n
    · obtain ⟨b, o, rfl, hbl, hc⟩ := HC.out i (by rw [← HN.out]; exact hlt)
      have hil : i < l.length := by rw [← HN.out]; exact hlt
      have HT := Lib.hid (short_take hil)
      have HF := Lib.hid (fun h => short_not (i := i) hil h)
      have hsz := getD_size HS.out i
      generalize l.getD i ByteArray.empty = s at *
      clear hil HC
      by_cases h3 : s.size ≤ 300
      · have HI2 : Hid (shortB (l.take (i + 1)) = true) := Lib.hid (by rw [HT.out, HI.out, decide_eq_true h3]; rfl)
        clear HT HF HI
        go_wp2
        go_round
        case rel => exact ⟨i + 1, by go_num, by omega, HI2⟩
        case measure => simp only [RowKit.intOf]; omega
      · have HF2 := Lib.hid (HF.out h3)
        clear HT HF HI
        go_wp2
        go_ret
        exact ⟨by rw [HF2.out]; rfl, rfl⟩
    · have HE : Hid (shortB l = true) := Lib.hid (by have := HI.out; rwa [List.take_of_length_le (by rw [← HN.out]; omega)] at this)
      go_wp2
      go_ret
      exact ⟨by rw [HE.out]; rfl, rfl⟩
end Go.Proofs.YtpogffdbencfnaaGreatDoor
