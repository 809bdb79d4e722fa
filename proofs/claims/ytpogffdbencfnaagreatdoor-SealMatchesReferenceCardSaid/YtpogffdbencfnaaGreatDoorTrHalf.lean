import Derived.Test.YtpogffdbencfnaaGreatDoorTrPlainB
set_option linter.unusedVariables false
namespace Go.Proofs.YtpogffdbencfnaaGreatDoor
open Go Go.RowKit

theorem halfGo_step {k n : Nat} (h0 : 0 < k) (h : 2 * k < n) : halfGo (2 * k) n = halfGo k n := by
  conv => rhs; rw [halfGo]
  rw [dif_pos ⟨h0, h⟩]
theorem halfGo_end {k n : Nat} (h : ¬ 2 * k < n) : halfGo k n = k := by
  rw [halfGo, dif_neg (fun x => h x.2)]
theorem half_calls (n : Nat) (h1 : 2 ≤ n) (h2 : n ≤ 1099511627776) (w : World) :
    Calls Tryz.prog 50 #[.int .i64 (n : Int)] w fun e w' => e = .returned (.int .i64 ((half n : Nat) : Int)) ∧ w' = w := by
  go_enter Tryz.func50, Tryz.ntmps50
  go_wp2_with fail
  go_loop [3] (fun vk => ∃ k : Nat, vk = .int .i64 (k : Int) ∧ 0 < k ∧ k < n ∧ Hid (halfGo k n = half n)) (fun vk => n - (RowKit.intOf vk).toNat)
  case atStart => exact ⟨1, rfl, by omega, by omega, Lib.hid rfl⟩
  case round =>
    obtain ⟨k, rfl, hk0, hkn, HK⟩ := hrel
    by_cases hlt : 2 * k < n
    · have HS : Hid (halfGo (2 * k) n = half n) := by rw [halfGo_step hk0 hlt]; exact HK
      have hlt2 : ((2 * k : Nat) : Int) < n := by omega
      have hl3 : (k : Int) * 2 < n := by omega
      go_wp2
      refine ⟨⟨2 * k, ?_, by omega, hlt, HS⟩, ?_⟩
      · congr 1; omega
      · simp only [RowKit.intOf]; omega
    · have HE : Hid (k = half n) := by rw [← HK.out, halfGo_end hlt]; exact Lib.hid rfl
      have hl3 : ¬ (k : Int) * 2 < n := by omega
      go_wp2
      go_ret
      exact ⟨by rw [← HE.out]; rfl, rfl⟩
end Go.Proofs.YtpogffdbencfnaaGreatDoor
