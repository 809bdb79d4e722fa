import Derived.Test.YtncjbkolljgihaaDoorDgRef
import Derived.Lib.ItoaLen
set_option linter.unusedVariables false
namespace Go.Proofs.YtncjbkolljgihaaDoor
open Go Go.RowKit

def decC (d : Nat) : UInt8 := UInt8.ofNat (48 + d)
theorem sliceDec (d : Nat) (h : d < 10) (W : World) :
    (Instr.slice 9 (.string { data := #[48, 49, 50, 51, 52, 53, 54, 55, 56, 57] }) (some (.int .u64 (d : Int))) (some (.int .u64 ((d : Int) + 1))) none).run Tryd.prog W = .ok (.string (bS [decC d])) W := by
  have hs : (({ data := #[48, 49, 50, 51, 52, 53, 54, 55, 56, 57] } : ByteArray).size : Int) = 10 := rfl
  rw [run_slice_string W 9 _ _ _ _ _ Tryd.underlying9 (by omega) (by omega) (by rw [hs]; omega)]
  have : ∀ m : Fin 10, ({ data := #[48, 49, 50, 51, 52, 53, 54, 55, 56, 57] } : ByteArray).extract m.val (m.val + 1) = bS [decC m.val] := by decide +kernel
  have h1 := this ⟨d, h⟩
  rw [← h1]
  rfl
def hd (v : Nat) : List UInt8 := if v = 0 then [] else Lib.decDigits v
theorem hd_step (v : Nat) (h : v ≠ 0) : hd v = hd (v / 10) ++ [decC (v % 10)] := by
  unfold hd
  rw [if_neg h]
  conv => lhs; rw [Lib.decDigits]
  split
  · rw [if_pos (by omega), List.nil_append, Nat.mod_eq_of_lt (by assumption)]; rfl
  · rw [if_neg (by omega)]; rfl
theorem dec_step (v : Nat) : Lib.decDigits v = hd (v / 10) ++ [decC (v % 10)] := by
  by_cases h : v = 0
  · subst h; rw [Lib.decDigits]; rfl
  · have := hd_step v h
    unfold hd at this ⊢
    rwa [if_neg h] at this
theorem itoaS_le (n : Nat) (h : n ≤ 9223372036854775807) : (itoaS n).size ≤ 21 := by
  rw [Lib.size_eq]
  have := Lib.itoa_length_le (n : Int) (by omega) (by omega)
  rw [Lib.itoa_nonneg] at this
  simpa [itoaS] using this

set_option maxHeartbeats 1000000 in
theorem digits_calls (n : Nat) (hn : n ≤ 9223372036854775807) (w : World) :
    Calls Tryd.prog 48 #[.int .u64 n] w fun e w' => e = .returned (.string (itoaS n)) ∧ w' = w := by
  have hle := itoaS_le n hn
  obtain ⟨d, hd0⟩ : ∃ d : Nat, d = n % 10 := ⟨_, rfl⟩
  have hdi : (n : Int) % 10 = (d : Int) := by omega
  have hsl := sliceDec d (by omega)
  have H0 : Hid (Lib.decDigits n = hd (n / 10) ++ (bS [decC d]).data.toList) := by rw [bS_list, hd0]; exact dec_step n
  have HL := Lib.hid hle
  clear hd0 hle
  generalize bS [decC d] = s0 at *
  go_enter Tryd.func48, Tryd.ntmps48
  go_wp2_with fail
  clear hsl hdi
  go_loop [0, 3] (fun vn vs => ∃ (v : Nat) (s : ByteArray), vn = .int .u64 (v : Int) ∧ vs = .string s ∧ v ≤ 9223372036854775807 ∧ Hid (Lib.decDigits n = hd v ++ s.data.toList)) (fun vn _ => (RowKit.intOf vn).toNat)
  case atStart => exact ⟨n / 10, s0, rfl, rfl, by omega, H0⟩
  case round =>
    obtain ⟨v, s, rfl, rfl, hv, HI⟩ := hrel
    clear H0
    have hsz : s.size ≤ 21 := by
      have h1 := HL.out
      have h2 := congrArg List.length HI.out
      rw [Lib.size_eq] at h1
      simp only [itoaS, List.length_append, ← Lib.size_eq] at h1 h2
      omega
    by_cases h0 : 0 < v
    · obtain ⟨c, hc0⟩ : ∃ c : Nat, c = v % 10 := ⟨_, rfl⟩
      have hci : (v : Int) % 10 = (c : Int) := by omega
      have hsl := sliceDec c (by omega)
      have hs1 : (bS [decC c]).size = 1 := by rw [bS_size]; rfl
      have hnb : ¬ 9223372036854775807 < (bS [decC c]).size + s.size := by omega
      have HI2 : Hid (Lib.decDigits n = hd (v / 10) ++ (bS [decC c] ++ s).data.toList) := by
        have := HI.out
        rw [hd_step v (by omega), ← hc0, List.append_assoc] at this
        rw [this, ByteArray.data_append, Array.toList_append, bS_list]
        exact Lib.hid rfl
      clear hc0 HI hs1
      generalize bS [decC c] = s1 at *
      go_wp2
      go_round
      case rel => exact ⟨v / 10, s1 ++ s, rfl, rfl, by omega, HI2⟩
      case measure => simp only [RowKit.intOf]; omega
    · have e : v = 0 := by omega
      subst e
      have HF : Hid (s = itoaS n) := by
        have := HI.out
        simp only [hd] at this
        rw [itoaS, this]
        exact (list_bS s).symm
      go_wp2
      go_ret
      exact ⟨by rw [← HF.out]; rfl, rfl⟩
theorem decimal_calls (n : Nat) (hn : n ≤ 9223372036854775807) (w : World) :
    Calls Tryd.prog 33 #[.int .i64 n] w fun e w' => e = .returned (.string (itoaS n)) ∧ w' = w := by
  go_enter Tryd.func33, Tryd.ntmps33
  go_wp2_with fail
  refine (digits_calls n hn w).mono ?_
  rintro e w1 ⟨rfl, rfl⟩
  go_wp2
  go_ret
  exact ⟨rfl, rfl⟩

theorem rchain_calls (t : ByteArray) (ht : t.size ≤ 4611686018427387904) (n : Int) (w : World) :
    Calls Tryd.prog 17 #[.string t, .int .i64 n] w fun e w' => e = .returned (.string (chainS t (chainN n))) ∧ w' = w := by
  have hT0 := Lib.hid ht
  clear ht
  have hcn : ∀ i : Nat, ((i : Int) < min n 1000 ↔ i < chainN n) := by intro i; unfold chainN; split <;> (try split) <;> omega
  have hk : chainN n ≤ 1000 := by unfold chainN; split <;> (try split) <;> omega
  obtain ⟨k, hkn⟩ : ∃ k, k = chainN n := ⟨_, rfl⟩
  obtain ⟨q, hq⟩ : ∃ q : Int, q = min n 1000 := ⟨_, rfl⟩
  rw [← hkn] at hk hcn
  rw [← hq] at hcn
  have HK := Lib.hid hkn
  have HC := Lib.hid hcn
  clear hkn hcn
  go_enter Tryd.func17, Tryd.ntmps17
  go_wp2_with fail
  go_loop [0, 5] (fun vt vi => ∃ i : Nat, vt = .string (chainS t i) ∧ vi = .int .i64 (i : Int) ∧ i ≤ k) (fun _ vi => k - (RowKit.intOf vi).toNat)
  case atStart => exact ⟨0, rfl, rfl, by omega⟩
  case round =>
    obtain ⟨i, rfl, rfl, hik⟩ := hrel
    by_cases hi : i < k
    · have hlt : (i : Int) < min n 1000 := by rw [← hq]; exact (HC.out i).2 hi
      clear hq
      go_wp2_with fail
      refine (rsum_calls (chainS t i) (chainS_size t i hT0.out) w).mono ?_
      rintro e w1 ⟨rfl, rfl⟩
      go_wp2
      go_round
      case rel => exact ⟨i + 1, rfl, rfl, by omega⟩
      case measure => simp only [RowKit.intOf]; omega
    · have e : i = k := by omega
      subst e
      have hlt : ¬ (i : Int) < min n 1000 := by rw [← hq]; exact fun h => hi ((HC.out i).1 h)
      clear hq
      go_wp2
      go_ret
      exact ⟨by rw [← HK.out]; rfl, rfl⟩

/-! Digit, Is, Few, Same -/
def digV (c : Nat) : Int := if 48 ≤ c ∧ c ≤ 57 then c - 48 else if 97 ≤ c ∧ c ≤ 102 then c - 97 + 10 else -1
theorem digit_calls (c : Nat) (hc : c < 256) (w : World) :
    Calls Tryd.prog 32 #[.int .u8 c] w fun e w' => e = .returned (.int .i64 (digV c)) ∧ w' = w := by
  by_cases h1 : 48 ≤ c
  · by_cases h2 : c ≤ 57
    · have e : digV c = (c : Int) - 48 := by unfold digV; rw [if_pos ⟨h1, h2⟩]
      rw [e]
      go_enter Tryd.func32, Tryd.ntmps32
      go_wp2
      go_ret
      exact ⟨rfl, rfl⟩
    · by_cases h3 : 97 ≤ c
      · by_cases h4 : c ≤ 102
        · have e : digV c = (c : Int) - 97 + 10 := by unfold digV; rw [if_neg (by omega), if_pos ⟨h3, h4⟩]
          rw [e]
          go_enter Tryd.func32, Tryd.ntmps32
          go_wp2
          go_ret
          exact ⟨rfl, rfl⟩
        · have e : digV c = -1 := by unfold digV; rw [if_neg (by omega), if_neg (by omega)]
          rw [e]
          go_enter Tryd.func32, Tryd.ntmps32
          go_wp2
          go_ret
          exact ⟨rfl, rfl⟩
      · have e : digV c = -1 := by unfold digV; rw [if_neg (by omega), if_neg (by omega)]
        rw [e]
        go_enter Tryd.func32, Tryd.ntmps32
        go_wp2
        go_ret
        exact ⟨rfl, rfl⟩
  · have e : digV c = -1 := by unfold digV; rw [if_neg (by omega), if_neg (by omega)]
    rw [e]
    go_enter Tryd.func32, Tryd.ntmps32
    go_wp2
    go_ret
    exact ⟨rfl, rfl⟩
end Go.Proofs.YtncjbkolljgihaaDoor
