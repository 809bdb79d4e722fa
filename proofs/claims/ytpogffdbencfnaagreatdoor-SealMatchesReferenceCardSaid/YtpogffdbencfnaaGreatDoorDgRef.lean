import Derived.Test.YtpogffdbencfnaaGreatDoorDgList
set_option linter.unusedVariables false
namespace Go.Proofs.YtpogffdbencfnaaGreatDoor
open Go Go.RowKit

theorem mix_calls (x : BitVec 64) (w : World) : Calls Tryz.prog 48 #[.int .u64 (x.toNat : Int)] w fun e w' => e = .returned (.int .u64 ((mixB x).toNat : Int)) ∧ w' = w := by
  have HM := Lib.hid (mixI_eq x)
  have hlo : (0 : Int) ≤ (x.toNat : Int) := Int.natCast_nonneg _
  obtain ⟨z, hz⟩ : ∃ z : Int, z = (x.toNat : Int) := ⟨_, rfl⟩
  rw [← hz] at hlo ⊢
  have HZ := Lib.hid hz
  clear hz
  go_enter Tryz.func48, Tryz.ntmps48
  go_wp2
  go_ret
  refine ⟨?_, rfl⟩
  rw [← HM.out, ← HZ.out]
  rfl

theorem mix_z (x : BitVec 64) (z y : Int) (hz : z = (x.toNat : Int)) (hy : y = ((mixB x).toNat : Int)) (w : World) :
    Calls Tryz.prog 48 #[.int .u64 z] w fun e w' => e = .returned (.int .u64 y) ∧ w' = w := by
  subst hz; subst hy; exact mix_calls x w
theorem idxS (t : ByteArray) (i : Nat) (h : i < t.size) (k : IntKind) (w : World) :
    (Instr.index 9 (.string t) (.int k (i : Int))).run Tryz.prog w = .ok (.int .u8 (byteAt t.data.toList i : Nat)) w := by
  rw [run_index_string w 9 t k _ Tryz.underlying9, dif_pos ⟨by omega, by omega⟩]
  have e : ((i : Int)).toNat = i := by omega
  simp only [e]
  unfold byteAt
  have hl : i < t.data.toList.length := by rw [← Lib.size_eq]; exact h
  rw [List.getElem?_eq_getElem hl]
  rfl
theorem extract_dig (d : Nat) (h : d < 16) : hexC.extract d (d + 1) = bS [dig d] := by
  have : ∀ m : Fin 16, hexC.extract m.val (m.val + 1) = bS [dig m.val] := by decide +kernel
  exact this ⟨d, h⟩
theorem sliceHex (d : Nat) (h : d < 16) (W : World) :
    (Instr.slice 9 (.string { data := #[48, 49, 50, 51, 52, 53, 54, 55, 56, 57, 97, 98, 99, 100, 101, 102] }) (some (.int .u64 (d : Int))) (some (.int .u64 ((d : Int) + 1))) none).run Tryz.prog W = .ok (.string (bS [dig d])) W := by
  have hs : (({ data := #[48, 49, 50, 51, 52, 53, 54, 55, 56, 57, 97, 98, 99, 100, 101, 102] } : ByteArray).size : Int) = 16 := rfl
  rw [run_slice_string W 9 _ _ _ _ _ Tryz.underlying9 (by omega) (by omega) (by rw [hs]; omega)]
  rw [← extract_dig d h]
  rfl
theorem bS_app (l m : List UInt8) : bS l ++ bS m = bS (l ++ m) := by
  apply ByteArray.ext
  rw [ByteArray.data_append]
  simp [bS]

set_option maxRecDepth 100000 in
set_option maxHeartbeats 1000000 in
theorem rsum_calls (t : ByteArray) (ht : t.size ≤ 4611686018427387904) (w : World) :
    Calls Tryz.prog 20 #[.string t] w fun e w' => e = .returned (.string (sumS t)) ∧ w' = w := by
  have hx0 : bits BinOp.xor IntKind.u64 2611923443488327891 (t.size : Int) = ((st t.data.toList 0).toNat : Int) := by
    have := xorB 2611923443488327891#64 (BitVec.ofNat 64 t.size)
    rw [toNat_small t.size (by omega)] at this
    rw [st, ← Lib.size_eq]
    exact this
  go_enter Tryz.func20, Tryz.ntmps20
  go_wp2_with fail
  go_loop [3, 4] (fun vs vf => ∃ (j : Nat) (z : Int), vs = .int .u64 z ∧ vf = .int .i64 ((8 * j : Nat) : Int) ∧ 8 * j ≤ t.size + 8 ∧ Hid (z = ((st t.data.toList j).toNat : Int))) (fun _ vf => t.size + 9 - (RowKit.intOf vf).toNat)
  case atStart => exact ⟨0, _, rfl, rfl, by omega, Lib.hid rfl⟩
  case round =>
    obtain ⟨j, z, rfl, rfl, hj, HZ⟩ := hrel
    clear hx0
    obtain ⟨f, hf⟩ : ∃ f, f = 8 * j := ⟨_, rfl⟩
    rw [← hf]
    have HF := Lib.hid hf
    by_cases hjl : f ≤ t.size
    · clear hf hj
      go_wp2_with fail
      go_loop [5, 6] (fun vb vi => ∃ k p : Nat, vb = .int .u64 ((blk t.data.toList f k : Nat) : Int) ∧ vi = .int .i64 (p : Int) ∧ p = f + k ∧ k ≤ 8) (fun _ vi => f + 8 - (RowKit.intOf vi).toNat)
      case atStart => exact ⟨0, f, rfl, rfl, rfl, by omega⟩
      case round =>
        obtain ⟨k, p, rfl, rfl, hp, hk8⟩ := hrel
        by_cases hk : k < 8
        · have hpf : p < f + 8 := by omega
          have HR := Lib.hid (show blk t.data.toList f (k + 1) = blk t.data.toList f k * 256 + byteAt t.data.toList (f + k) from rfl)
          have hlt : blk t.data.toList f k < 72057594037927936 := by
            have := Nat.lt_of_lt_of_le (blk_lt t.data.toList f k) (Nat.pow_le_pow_right (n := 256) (by decide) (show k ≤ 7 by omega)); simpa using this
          have hby := byteAt_lt t.data.toList p
          rw [← hp] at HR
          have HP := Lib.hid hp
          clear hp
          generalize blk t.data.toList f k = n0 at *
          by_cases hpt : p < t.size
          · have hidx := idxS t p hpt IntKind.i64
            generalize byteAt t.data.toList p = cb at *
            go_wp2
            go_round
            case rel => exact ⟨k + 1, p + 1, by rw [HR.out]; rfl, rfl, by have := HP.out; omega, by omega⟩
            case measure => simp only [RowKit.intOf]; omega
          · have hz : byteAt t.data.toList p = 0 := byteAt_ge (by rw [← Lib.size_eq]; omega)
            rw [hz] at HR
            clear hby hz
            go_wp2
            go_round
            case rel => exact ⟨k + 1, p + 1, by rw [HR.out]; rfl, rfl, by have := HP.out; omega, by omega⟩
            case measure => simp only [RowKit.intOf]; omega
        · have ek : k = 8 := by omega
          subst ek
          have hpf : ¬ p < f + 8 := by omega
          have h8 := blk8_lt t.data.toList f
          obtain ⟨z2, hz2⟩ : ∃ z2 : Int, z2 = ((st t.data.toList j ^^^ BitVec.ofNat 64 (blk t.data.toList f 8)).toNat : Int) := ⟨_, rfl⟩
          have hx : bits BinOp.xor IntKind.u64 z (blk t.data.toList f 8 : Nat) = z2 := by
            have := xorB (st t.data.toList j) (BitVec.ofNat 64 (blk t.data.toList f 8))
            rw [toNat_small _ h8] at this
            rw [hz2, HZ.out, this]
          obtain ⟨y, hy⟩ : ∃ y : Int, y = ((st t.data.toList (j + 1)).toNat : Int) := ⟨_, rfl⟩
          have hM := fun w => mix_z _ z2 y hz2 (by rw [hy, HF.out]; rfl) w
          have HY := Lib.hid hy
          have HM := Lib.hid hM
          clear hp hz2 hy hM
          generalize blk t.data.toList f 8 = bk at *
          go_wp2_with fail
          refine (HM.out _).mono ?_
          rintro e w1 ⟨rfl, rfl⟩
          go_wp2
          go_round
          case rel => exact ⟨j + 1, y, rfl, by have := HF.out; rw [show 8 * (j + 1) = f + 8 by omega]; rfl, by have := HF.out; omega, HY⟩
          case measure => simp only [RowKit.intOf]; omega
    · have hje : j = t.size / 8 + 1 := by omega
      have HE : Hid (z = ((endSt t.data.toList).toNat : Int)) := by
        have := HZ.out
        rw [hje, Lib.size_eq] at this
        exact this
      clear hf hj HZ hje
      obtain ⟨n, hn⟩ : ∃ n, n = (endSt t.data.toList).toNat := ⟨_, rfl⟩
      have hz : z = (n : Int) := by rw [hn]; exact HE.out
      subst hz
      have HN := Lib.hid hn
      have hn64 : n < 18446744073709551616 := by rw [hn]; simpa using (endSt t.data.toList).isLt
      clear HE hn
      go_wp2_with fail
      go_loop [3, 7, 8] (fun vs vt vi => ∃ (k v : Nat) (s : ByteArray), vs = .int .u64 (v : Int) ∧ vt = .string s ∧ vi = .int .i64 (k : Int) ∧ k ≤ 16 ∧ s.size = k ∧ v < 18446744073709551616 ∧ Hid (v = n / 16 ^ k ∧ s = bS (low k n))) (fun _ _ vi => 16 - (RowKit.intOf vi).toNat)
      case atStart => exact ⟨0, n, bS [], rfl, rfl, rfl, by omega, rfl, hn64, Lib.hid ⟨by simp, rfl⟩⟩
      case round =>
        obtain ⟨k, v, s, rfl, rfl, rfl, hk, hs, hv, HI⟩ := hrel
        by_cases hk16 : k < 16
        · obtain ⟨d, hd⟩ : ∃ d : Nat, d = v % 16 := ⟨_, rfl⟩
          have hdi : (v : Int) % 16 = (d : Int) := by omega
          have hd16 : d < 16 := by omega
          have HD := Lib.hid hd
          clear hd
          have hsl := sliceHex d hd16
          have hsz : ¬ 9223372036854775807 < (bS [dig d]).size + s.size := by
            rw [bS_size]; simp only [List.length_singleton]; omega
          have hss : (bS [dig d] ++ s).size = k + 1 := by rw [ByteArray.size_append, bS_size, hs]; simp only [List.length_singleton]; omega
          have HI2 : Hid (v / 16 = n / 16 ^ (k + 1) ∧ bS [dig d] ++ s = bS (low (k + 1) n)) := by
            refine Lib.hid ⟨by rw [HI.out.1, Nat.div_div_eq_div_mul, Nat.pow_succ], ?_⟩
            rw [HI.out.2, bS_app, HD.out, HI.out.1]
            rfl
          generalize hB : bS [dig d] = bd at *
          have HS2 := Lib.hid hss
          clear hss hB
          go_wp2
          go_round
          case rel => exact ⟨k + 1, v / 16, bd ++ s, rfl, rfl, rfl, by omega, HS2.out, by omega, HI2⟩
          case measure => simp only [RowKit.intOf]; omega
        · have e : k = 16 := by omega
          subst e
          have HF2 : Hid (s = sumS t) := by
            rw [HI.out.2, HN.out]; rfl
          clear HI
          go_wp2
          go_ret
          exact ⟨by rw [← HF2.out]; rfl, rfl⟩
end Go.Proofs.YtpogffdbencfnaaGreatDoor
