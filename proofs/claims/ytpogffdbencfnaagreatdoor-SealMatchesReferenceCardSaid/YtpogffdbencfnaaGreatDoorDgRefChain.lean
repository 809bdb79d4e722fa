import Derived.Test.YtpogffdbencfnaaGreatDoorDgRefB
set_option linter.unusedVariables false
namespace Go.Proofs.YtpogffdbencfnaaGreatDoor
open Go Go.RowKit

theorem rchain_calls (t : ByteArray) (ht : t.size ≤ 4611686018427387904) (n : Int) (w : World) :
    Calls Tryz.prog 31 #[.string t, .int .i64 n] w fun e w' => e = .returned (.string (chainS t (chainN n))) ∧ w' = w := by
  have hT0 := Lib.hid ht
  clear ht
  have hcn : ∀ i : Nat, ((i : Int) < min n 1000 ↔ i < chainN n) := by intro i; unfold chainN; split <;> (try split) <;> omega
  have hk : chainN n ≤ 1000 := by unfold chainN; split <;> (try split) <;> omega
  obtain ⟨k, hkn⟩ : ∃ k, k = chainN n := ⟨_, rfl⟩
  obtain ⟨q, hq⟩ : ∃ q : Int, q = min n 1000 := ⟨_, rfl⟩
  rw [← hkn] at hk hcn
  rw [← hq] at hcn
  have HK := Lib.hid hkn
  have HC := Lib.hid hcn
  clear hkn hcn
  go_enter Tryz.func31, Tryz.ntmps31
  go_wp2_with fail
  go_loop [0, 5] (fun vt vi => ∃ i : Nat, vt = .string (chainS t i) ∧ vi = .int .i64 (i : Int) ∧ i ≤ k) (fun _ vi => k - (RowKit.intOf vi).toNat)
  case atStart => exact ⟨0, rfl, rfl, by omega⟩
  case round =>
    obtain ⟨i, rfl, rfl, hik⟩ := hrel
    by_cases hi : i < k
    · have hlt : (i : Int) < min n 1000 := by rw [← hq]; exact (HC.out i).2 hi
      clear hq
      go_wp2_with fail
      refine (rsum_calls (chainS t i) (chainS_size t i hT0.out) w).mono ?_
      rintro e w1 ⟨rfl, rfl⟩
      go_wp2
      go_round
      case rel => exact ⟨i + 1, rfl, rfl, by omega⟩
      case measure => simp only [RowKit.intOf]; omega
    · have e : i = k := by omega
      subst e
      have hlt : ¬ (i : Int) < min n 1000 := by rw [← hq]; exact fun h => hi ((HC.out i).1 h)
      clear hq
      go_wp2
      go_ret
      exact ⟨by rw [← HK.out]; rfl, rfl⟩

/-! Digit, Is, Few, Same -/
end Go.Proofs.YtpogffdbencfnaaGreatDoor
