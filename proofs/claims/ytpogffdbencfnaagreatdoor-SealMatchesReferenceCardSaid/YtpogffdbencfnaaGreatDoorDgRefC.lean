import Derived.Test.YtpogffdbencfnaaGreatDoorDgRefB
set_option linter.unusedVariables false
namespace Go.Proofs.YtpogffdbencfnaaGreatDoor
open Go Go.RowKit

def digV (c : Nat) : Int := if 48 ≤ c ∧ c ≤ 57 then c - 48 else if 97 ≤ c ∧ c ≤ 102 then c - 97 + 10 else -1
theorem digit_calls (c : Nat) (hc : c < 256) (w : World) :
    Calls Tryz.prog 63 #[.int .u8 c] w fun e w' => e = .returned (.int .i64 (digV c)) ∧ w' = w := by
  by_cases h1 : 48 ≤ c
  · by_cases h2 : c ≤ 57
    · have e : digV c = (c : Int) - 48 := by unfold digV; rw [if_pos ⟨h1, h2⟩]
      rw [e]
      go_enter Tryz.func63, Tryz.ntmps63
      go_wp2
      go_ret
      exact ⟨rfl, rfl⟩
    · by_cases h3 : 97 ≤ c
      · by_cases h4 : c ≤ 102
        · have e : digV c = (c : Int) - 97 + 10 := by unfold digV; rw [if_neg (by omega), if_pos ⟨h3, h4⟩]
          rw [e]
          go_enter Tryz.func63, Tryz.ntmps63
          go_wp2
          go_ret
          exact ⟨rfl, rfl⟩
        · have e : digV c = -1 := by unfold digV; rw [if_neg (by omega), if_neg (by omega)]
          rw [e]
          go_enter Tryz.func63, Tryz.ntmps63
          go_wp2
          go_ret
          exact ⟨rfl, rfl⟩
      · have e : digV c = -1 := by unfold digV; rw [if_neg (by omega), if_neg (by omega)]
        rw [e]
        go_enter Tryz.func63, Tryz.ntmps63
        go_wp2
        go_ret
        exact ⟨rfl, rfl⟩
  · have e : digV c = -1 := by unfold digV; rw [if_neg (by omega), if_neg (by omega)]
    rw [e]
    go_enter Tryz.func63, Tryz.ntmps63
    go_wp2
    go_ret
    exact ⟨rfl, rfl⟩

theorem digV_neg (c : UInt8) : digV c.toNat < 0 ↔ hexd c = false := by
  unfold digV hexd
  split
  · rename_i h; simp [h.1, h.2]; omega
  · split
    · rename_i h; simp [h.1, h.2]; omega
    · rename_i h1 h2
      constructor
      · intro _
        simp only [Bool.or_eq_false_iff, Bool.and_eq_false_iff, decide_eq_false_iff_not]
        omega
      · intro _; decide
set_option maxHeartbeats 1000000 in
theorem ris_calls (t : ByteArray) (ht : t.size ≤ 4611686018427387904) (w : World) :
    Calls Tryz.prog 41 #[.string t] w fun e w' => e = .returned (.bool (isS t)) ∧ w' = w := by
  go_enter Tryz.func41, Tryz.ntmps41
  go_wp2_with fail
  go_loop [3] (fun vi => ∃ i : Nat, vi = .int .i64 (i : Int) ∧ i ≤ t.size ∧ i ≤ 16 ∧ Hid (∀ j, j < i → ∀ c, t.data.toList[j]? = some c → hexd c = true)) (fun vi => 16 - (RowKit.intOf vi).toNat)
  case atStart => exact ⟨0, rfl, by omega, by omega, Lib.hid fun j hj => by omega⟩
  case round =>
    obtain ⟨i, rfl, hit, hi16, HI⟩ := hrel
    by_cases hlt : i < t.size
    · by_cases h16 : i < 16
      · have hidx := idxS t i hlt IntKind.i64
        have hl : i < t.data.toList.length := by rw [← Lib.size_eq]; exact hlt
        have hb : byteAt t.data.toList i = (t.data.toList[i]).toNat := by unfold byteAt; rw [List.getElem?_eq_getElem hl]; rfl
        have hD := digV_neg (t.data.toList[i])
        rw [← hb] at hD
        have hb256 := byteAt_lt t.data.toList i
        have hM := fun w => digit_calls (byteAt t.data.toList i) hb256 w
        clear hb
        generalize byteAt t.data.toList i = c at *
        have HM := Lib.hid hM
        clear hM
        go_wp2_with fail
        refine (HM.out _).mono ?_
        rintro e w1 ⟨rfl, rfl⟩
        by_cases hneg : digV c < 0
        · have HF : Hid (isS t = false) := by
            have h1 := hD.1 hneg
            unfold isS isL
            have : t.data.toList.all hexd = false := by
              rw [List.all_eq_false]
              exact ⟨_, List.getElem_mem hl, by rw [h1]; simp⟩
            rw [this, Bool.and_false]
            exact Lib.hid rfl
          clear hD
          generalize digV c = dv at *
          go_wp2
          go_ret
          exact ⟨by rw [HF.out]; rfl, rfl⟩
        · have HH : Hid (∀ j, j < i + 1 → ∀ c, t.data.toList[j]? = some c → hexd c = true) := Lib.hid fun j hj c' hc' => by
            rcases Nat.lt_succ_iff_lt_or_eq.1 hj with h | h
            · exact HI.out j h c' hc'
            · subst h
              rw [List.getElem?_eq_getElem hl] at hc'
              injection hc' with hc'
              rw [← hc']
              cases hx : hexd t.data.toList[j] with
              | true => rfl
              | false => exact absurd (hD.2 hx) hneg
          clear hD HI
          generalize digV c = dv at *
          go_wp2
          go_round
          case rel => exact ⟨i + 1, rfl, by omega, by omega, HH⟩
          case measure => simp only [RowKit.intOf]; omega
      · have e : i = 16 := by omega
        subst e
        by_cases hsz : t.size = 16
        · omega
        · have HN := Lib.hid (isS_no t hsz)
          have hq : ((t.size : Int) == 16) = false := by rw [beq_eq_false_iff_ne]; omega
          go_wp2
          go_ret
          exact ⟨by rw [HN.out]; rfl, rfl⟩
    · have e : i = t.size := by omega
      have HT : Hid (isS t = (decide (t.size = 16))) := by
        by_cases hsz : t.size = 16
        · have : t.data.toList.all hexd = true := by
            rw [List.all_eq_true]
            intro x hx
            obtain ⟨j, hj, rfl⟩ := List.getElem_of_mem hx
            exact HI.out j (by rw [e, Lib.size_eq]; exact hj) _ (List.getElem?_eq_getElem hj)
          unfold isS isL
          rw [this, Bool.and_true, ← Lib.size_eq]
          exact Lib.hid (by simp [hsz])
        · rw [isS_no t hsz]; exact Lib.hid (by simp [hsz])
      clear HI
      subst e
      by_cases hsz : t.size = 16
      · have HQ : Hid (isS t = true) := by rw [HT.out]; exact Lib.hid (by simp [hsz])
        clear HT
        have hq : ((t.size : Int) == 16) = true := by rw [beq_iff_eq]; omega
        go_wp2
        go_ret
        exact ⟨by rw [HQ.out]; rfl, rfl⟩
      · have HQ : Hid (isS t = false) := by rw [HT.out]; exact Lib.hid (by simp [hsz])
        clear HT
        have hq : ((t.size : Int) == 16) = false := by rw [beq_eq_false_iff_ne]; omega
        go_wp2
        go_ret
        exact ⟨by rw [HQ.out]; rfl, rfl⟩
end Go.Proofs.YtpogffdbencfnaaGreatDoor
