import Derived.Test.YtpogffdbencfnaaGreatDoorDgRef
import Derived.Lib.ItoaLen
set_option linter.unusedVariables false
namespace Go.Proofs.YtpogffdbencfnaaGreatDoor
open Go Go.RowKit

def decC (d : Nat) : UInt8 := UInt8.ofNat (48 + d)
theorem sliceDec (d : Nat) (h : d < 10) (W : World) :
    (Instr.slice 9 (.string { data := #[48, 49, 50, 51, 52, 53, 54, 55, 56, 57] }) (some (.int .u64 (d : Int))) (some (.int .u64 ((d : Int) + 1))) none).run Tryz.prog W = .ok (.string (bS [decC d])) W := by
  have hs : (({ data := #[48, 49, 50, 51, 52, 53, 54, 55, 56, 57] } : ByteArray).size : Int) = 10 := rfl
  rw [run_slice_string W 9 _ _ _ _ _ Tryz.underlying9 (by omega) (by omega) (by rw [hs]; omega)]
  have : ∀ m : Fin 10, ({ data := #[48, 49, 50, 51, 52, 53, 54, 55, 56, 57] } : ByteArray).extract m.val (m.val + 1) = bS [decC m.val] := by decide +kernel
  have h1 := this ⟨d, h⟩
  rw [← h1]
  rfl
def hd (v : Nat) : List UInt8 := if v = 0 then [] else Lib.decDigits v
theorem hd_step (v : Nat) (h : v ≠ 0) : hd v = hd (v / 10) ++ [decC (v % 10)] := by
  unfold hd
  rw [if_neg h]
  conv => lhs; rw [Lib.decDigits]
  split
  · rw [if_pos (by omega), List.nil_append, Nat.mod_eq_of_lt (by assumption)]; rfl
  · rw [if_neg (by omega)]; rfl
theorem dec_step (v : Nat) : Lib.decDigits v = hd (v / 10) ++ [decC (v % 10)] := by
  by_cases h : v = 0
  · subst h; rw [Lib.decDigits]; rfl
  · have := hd_step v h
    unfold hd at this ⊢
    rwa [if_neg h] at this
theorem itoaS_le (n : Nat) (h : n ≤ 9223372036854775807) : (itoaS n).size ≤ 21 := by
  rw [Lib.size_eq]
  have := Lib.itoa_length_le (n : Int) (by omega) (by omega)
  rw [Lib.itoa_nonneg] at this
  simpa [itoaS] using this

set_option maxHeartbeats 1000000 in
theorem digits_calls (n : Nat) (hn : n ≤ 9223372036854775807) (w : World) :
    Calls Tryz.prog 75 #[.int .u64 n] w fun e w' => e = .returned (.string (itoaS n)) ∧ w' = w := by
  have hle := itoaS_le n hn
  obtain ⟨d, hd0⟩ : ∃ d : Nat, d = n % 10 := ⟨_, rfl⟩
  have hdi : (n : Int) % 10 = (d : Int) := by omega
  have hsl := sliceDec d (by omega)
  have H0 : Hid (Lib.decDigits n = hd (n / 10) ++ (bS [decC d]).data.toList) := by rw [bS_list, hd0]; exact dec_step n
  have HL := Lib.hid hle
  clear hd0 hle
  generalize bS [decC d] = s0 at *
  go_enter Tryz.func75, Tryz.ntmps75
  go_wp2_with fail
  clear hsl hdi
  go_loop [0, 3] (fun vn vs => ∃ (v : Nat) (s : ByteArray), vn = .int .u64 (v : Int) ∧ vs = .string s ∧ v ≤ 9223372036854775807 ∧ Hid (Lib.decDigits n = hd v ++ s.data.toList)) (fun vn _ => (RowKit.intOf vn).toNat)
  case atStart => exact ⟨n / 10, s0, rfl, rfl, by omega, H0⟩
  case round =>
    obtain ⟨v, s, rfl, rfl, hv, HI⟩ := hrel
    clear H0
    have hsz : s.size ≤ 21 := by
      have h1 := HL.out
      have h2 := congrArg List.length HI.out
      rw [Lib.size_eq] at h1
      simp only [itoaS, List.length_append, ← Lib.size_eq] at h1 h2
      omega
    by_cases h0 : 0 < v
    · obtain ⟨c, hc0⟩ : ∃ c : Nat, c = v % 10 := ⟨_, rfl⟩
      have hci : (v : Int) % 10 = (c : Int) := by omega
      have hsl := sliceDec c (by omega)
      have hs1 : (bS [decC c]).size = 1 := by rw [bS_size]; rfl
      have hnb : ¬ 9223372036854775807 < (bS [decC c]).size + s.size := by omega
      have HI2 : Hid (Lib.decDigits n = hd (v / 10) ++ (bS [decC c] ++ s).data.toList) := by
        have := HI.out
        rw [hd_step v (by omega), ← hc0, List.append_assoc] at this
        rw [this, ByteArray.data_append, Array.toList_append, bS_list]
        exact Lib.hid rfl
      clear hc0 HI hs1
      generalize bS [decC c] = s1 at *
      go_wp2
      go_round
      case rel => exact ⟨v / 10, s1 ++ s, rfl, rfl, by omega, HI2⟩
      case measure => simp only [RowKit.intOf]; omega
    · have e : v = 0 := by omega
      subst e
      have HF : Hid (s = itoaS n) := by
        have := HI.out
        simp only [hd] at this
        rw [itoaS, this]
        exact (list_bS s).symm
      go_wp2
      go_ret
      exact ⟨by rw [← HF.out]; rfl, rfl⟩
theorem decimal_calls (n : Nat) (hn : n ≤ 9223372036854775807) (w : World) :
    Calls Tryz.prog 45 #[.int .i64 n] w fun e w' => e = .returned (.string (itoaS n)) ∧ w' = w := by
  go_enter Tryz.func45, Tryz.ntmps45
  go_wp2_with fail
  refine (digits_calls n hn w).mono ?_
  rintro e w1 ⟨rfl, rfl⟩
  go_wp2
  go_ret
  exact ⟨rfl, rfl⟩

end Go.Proofs.YtpogffdbencfnaaGreatDoor
