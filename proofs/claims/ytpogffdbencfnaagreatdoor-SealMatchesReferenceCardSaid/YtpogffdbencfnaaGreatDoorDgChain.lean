import Derived.Test.YtpogffdbencfnaaGreatDoorDgMore
set_option linter.unusedVariables false
namespace Go.Proofs.YtpogffdbencfnaaGreatDoor
open Go Go.RowKit

theorem chain_calls (t : ByteArray) (ht : t.size ≤ 4611686018427387904) (n : Int) (w : World) (hT : Tabs w) :
    Calls Tryz.prog 26 #[.string t, .int .i64 n] w fun e w' => e = .returned (.string (chainS t (chainN n))) ∧ Below w.heap.size w w' := by
  have HT := Lib.hid hT
  have hT0 := Lib.hid ht
  clear hT ht
  go_enter Tryz.func26, Tryz.ntmps26
  go_wp2_with fail
  have hcn : max 0 (min n 1000) = ((chainN n : Nat) : Int) := by unfold chainN; split <;> (try split) <;> omega
  rw [hcn]
  have hk : chainN n ≤ 1000 := by unfold chainN; split <;> (try split) <;> omega
  clear hcn
  obtain ⟨k, hkn⟩ : ∃ k, k = chainN n := ⟨_, rfl⟩
  rw [← hkn] at hk ⊢
  have HK := Lib.hid hkn
  clear hkn
  go_loopw [0, 8] (fun vt vi W => ∃ i : Nat, vt = .string (chainS t i) ∧ vi = .int .i64 (i : Int) ∧ i ≤ k ∧ Hid (Below w.heap.size w W)) (fun _ vi _ => k - (RowKit.intOf vi).toNat)
  case atStart => exact ⟨0, rfl, rfl, by omega, Lib.hid (Below.refl _ _)⟩
  case round =>
    obtain ⟨i, rfl, rfl, hik, HB⟩ := hrel
    by_cases hi : i < k
    · go_wp2_with fail
      refine (sum_calls (chainS t i) (chainS_size t i hT0.out) wr (HT.out.on HB.out)).mono ?_
      rintro e w1 ⟨rfl, h1⟩
      have HB1 : Hid (Below w.heap.size w w1) := Lib.hid (HB.out.trans (h1.mono HB.out.size))
      clear h1
      go_wp2
      go_round
      case rel => exact ⟨i + 1, rfl, rfl, by omega, HB1⟩
      case measure => simp only [RowKit.intOf]; omega
    · have e : i = k := by omega
      subst e
      go_wp2
      go_ret
      exact ⟨by rw [← HK.out]; rfl, HB.out⟩
end Go.Proofs.YtpogffdbencfnaaGreatDoor
