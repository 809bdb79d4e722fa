import Derived.Test.YtpogffdbencfnaaGreatDoorDgHex
set_option linter.unusedVariables false
namespace Go.Proofs.YtpogffdbencfnaaGreatDoor
open Go Go.RowKit

theorem slice65 (b m : Nat) (hm : m < 65) (W : World) :
    (Instr.sliceAt 132 (.pointer (some ⟨b, 0, none⟩)) (some (.int .i64 (m : Int))) none none).run Tryz.prog W = .ok (.slice (some ⟨b, m, none⟩) (65 - m) (65 - m)) W := by
  have hal : Tryz.prog.arrayLen 132 = 65 := by kernel_rfl
  have hel : Tryz.prog.elem 132 = 5 := by kernel_rfl
  rw [run_sliceAt_array_l W 132 ⟨b, 0, none⟩ (by kernel_rfl) .i64 (m : Int) (by omega) (by rw [hal]; omega), hal, hel, Tryz.sizeOf5]
  simp [slicedAt, Lib.add_plain, Result.andThen]
  omega
set_option maxHeartbeats 2000000 in
set_option maxRecDepth 100000 in
theorem formatBits16 (n : Nat) (hn : n < 18446744073709551616) (w : World) (hT : Tabs w) :
    Calls Tryz.prog 112 #[.slice none 0 0, .int .u64 n, .int .i64 16, .bool false, .bool false] w fun e w' =>
      e = .returned (.tuple #[.slice none 0 0, .string ⟨(low (hexLen n) n).toArray⟩]) ∧ Below w.heap.size w w' := by
  have HT := Lib.hid hT
  clear hT
  go_enter Tryz.func112, Tryz.ntmps112
  go_name_bytes S0 hS0
  clear hS0
  go_name_bytes SM hSM
  have eSM : SM = Lib.digits36 := by rw [← hSM]; decide +kernel
  subst eSM
  clear hSM
  go_wp2_with fail
  have HA : Arr w.heap.size n 0 w (w.alloc (.cells Tryz.zeroCells132 132)) := by
    have zc : ∀ j, j < 65 → Tryz.zeroCells132[j]? = some (.int .u8 0) := by
      have e : Tryz.zeroCells132 = Array.replicate 65 (.int .u8 0) := rfl
      intro j hj
      rw [e, Array.getElem?_replicate, if_pos hj]
    refine ⟨(Below.refl _ _).alloc (Nat.le_refl _) _, fun j hj => ⟨0, ?_⟩, fun j hj => World.frozen?_alloc_new _ _ _ _, fun j hj => by omega⟩
    rw [World.cell?_alloc_new]; exact zc j hj
  have HA := Lib.hid HA
  have HT1 : Hid (Tabs (w.alloc (.cells Tryz.zeroCells132 132))) := Lib.hid (HT.out.on HA.out.below)
  generalize (w.alloc (.cells Tryz.zeroCells132 132)) = W0 at *
  refine (pow2_16 W0).mono ?_
  rintro e w1 ⟨rfl, rfl⟩
  go_wp2_with fail
  refine (tz_16 _ HT1.out.2.1).mono ?_
  rintro e w1 ⟨rfl, rfl⟩
  go_wp2
  clear HT HT1
  go_loopw [1, 13] (fun vu vi W => ∃ k m v : Nat, vu = .int .u64 (v : Int) ∧ vi = .int .i64 (m : Int) ∧ m + k = 65 ∧ v < 18446744073709551616 ∧ Hid (v = n / 16 ^ k ∧ k < hexLen n ∧ hexLen v + k = hexLen n ∧ Arr w.heap.size n k w W)) (fun vu _ _ => (RowKit.intOf vu).toNat)
  case atStart =>
    refine ⟨0, 65, n, rfl, rfl, rfl, hn, by simp, hexLen_pos n, by simp, HA.out⟩
  case round =>
    obtain ⟨k, m, v, rfl, rfl, hmk, hv64, HI⟩ := hrel
    have hle := hexLen_le16 n hn
    have hk := HI.out.2.1
    obtain ⟨m, rfl⟩ : ∃ m', m = m' + 1 := ⟨m - 1, by omega⟩
    obtain ⟨c, hc⟩ := HI.out.2.2.2.cell m (by omega)
    have hf := HI.out.2.2.2.frozen m (by omega)
    by_cases h16 : 16 ≤ v
    · obtain ⟨d, hd⟩ : ∃ d, d = v % 16 := ⟨_, rfl⟩
      have hand : bits BinOp.and IntKind.u64 (v : Int) 15 = (d : Int) := by rw [hd]; exact and15 v hv64
      have hd16 : d < 16 := by omega
      have hidx : ∀ W, (Instr.index 9 (.string Lib.digits36) (.int .u64 (d : Int))).run Tryz.prog W = .ok (.int .u8 ((dig d).toNat : Int)) W := fun W => idx36 _ Tryz.underlying9 _ _ _ rfl hd16 W
      have hb := hexLen_big _ h16
      have hdd : v / 16 = n / 16 ^ (k + 1) := by rw [HI.out.1, Nat.div_div_eq_div_mul, Nat.pow_succ]
      have HI2 : Hid (v / 16 = n / 16 ^ (k + 1) ∧ k + 1 < hexLen n ∧ hexLen (v / 16) + (k + 1) = hexLen n ∧ Arr w.heap.size n (k + 1) w (wr.setCell ⟨w.heap.size, m, none⟩ (.int .u8 ((dig d).toNat : Int)))) :=
        Lib.hid ⟨hdd, by have := HI.out.2.2.1; have := hexLen_pos (v / 16); omega, by have := HI.out.2.2.1; omega, HI.out.2.2.2.step (by omega) rfl d (by rw [hd, HI.out.1])⟩
      have HD := Lib.hid hd
      clear HI hd hb hdd
      go_wp2
      go_round
      case rel => exact ⟨k + 1, m, v / 16, by rfl, by rfl, by omega, by omega, HI2⟩
      case measure => simp only [RowKit.intOf]; omega
    · have hlt : v < 16 := by omega
      have hidx : ∀ W, (Instr.index 9 (.string Lib.digits36) (.int .u64 (v : Int))).run Tryz.prog W = .ok (.int .u8 ((dig v).toNat : Int)) W := fun W => idx36 _ Tryz.underlying9 _ _ _ rfl hlt W
      have hs := hexLen_small v hlt
      have e1 := HI.out.2.2.1
      have hK : hexLen n = k + 1 := by omega
      have HA2 := HI.out.2.2.2.step (m := m) (by omega) rfl v (by rw [← HI.out.1]; exact (Nat.mod_eq_of_lt hlt).symm)
      have hcv : (convert 80 9 (.slice (some ⟨w.heap.size, m, none⟩) (k + 1) (k + 1))).run Tryz.prog (wr.setCell ⟨w.heap.size, m, none⟩ (.int .u8 ((dig v).toNat : Int))) =
          .ok (.string ⟨(low (hexLen n) n).toArray⟩) (wr.setCell ⟨w.heap.size, m, none⟩ (.int .u8 ((dig v).toNat : Int))) := by
        have h := run_convert_bytes_back (P := Tryz.prog) (wr.setCell ⟨w.heap.size, m, none⟩ (.int .u8 ((dig v).toNat : Int))) 80 9 5 ⟨w.heap.size, m, none⟩ (k + 1) (low (k + 1) n) Tryz.underlying80 Tryz.underlying5 Tryz.underlying9 (fun j hj => by
          rw [Lib.add_plain]
          have hj' : j < k + 1 := by rw [low_length] at hj; exact hj
          have := HA2.digits j hj'
          rw [show 65 - (k + 1) + j = m + j by omega] at this
          exact this)
        rw [low_length] at h
        rw [hK]
        exact h
      have hsl : ∀ W, (Instr.sliceAt 132 (.pointer (some ⟨w.heap.size, 0, none⟩)) (some (.int .i64 (m : Int))) none none).run Tryz.prog W = .ok (.slice (some ⟨w.heap.size, m, none⟩) (k + 1) (k + 1)) W := fun W => by
        have := slice65 w.heap.size m (by omega) W
        rw [show 65 - m = k + 1 by omega] at this
        exact this
      have HB := Lib.hid HA2.below
      clear HI HA2 e1 hs
      go_wp2
      go_ret2
      exact ⟨by rw [hK]; rfl, HB.out⟩

theorem formatUint16i (n : Nat) (hn : n < 18446744073709551616) (w : World) (hT : Tabs w) :
    Calls Tryz.prog 96 #[.int .u64 n, .int .i64 16] w fun e w' =>
      e = .returned (.string ⟨(low (hexLen n) n).toArray⟩) ∧ Below w.heap.size w w' := by
  go_enter Tryz.func96, Tryz.ntmps96
  go_wp2_with fail
  refine (formatBits16 n hn w hT).mono ?_
  rintro e w1 ⟨rfl, hb⟩
  go_wp2
  go_ret
  exact ⟨rfl, hb⟩
theorem formatUint16 (n : Nat) (hn : n < 18446744073709551616) (w : World) (hT : Tabs w) :
    Calls Tryz.prog 81 #[.int .u64 n, .int .i64 16] w fun e w' =>
      e = .returned (.string ⟨(low (hexLen n) n).toArray⟩) ∧ Below w.heap.size w w' := by
  go_enter Tryz.func81, Tryz.ntmps81
  go_wp2_with fail
  refine (formatUint16i n hn w hT).mono ?_
  rintro e w1 ⟨rfl, hb⟩
  go_wp2
  go_ret
  exact ⟨rfl, hb⟩
end Go.Proofs.YtpogffdbencfnaaGreatDoor
