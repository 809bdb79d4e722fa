import Derived.Test.YtpogffdbencfnaaGreatDoorDgWalk
set_option linter.unusedVariables false
namespace Go.Proofs.YtpogffdbencfnaaGreatDoor
open Go Go.RowKit

def hexS (n : Nat) : ByteArray := ⟨(low (hexLen n) n).toArray⟩
theorem hexS_size (n : Nat) : (hexS n).size = hexLen n := by
  rw [Lib.size_eq]; simp [hexS, low_length]
theorem formatUintS (n : Nat) (hn : n < 18446744073709551616) (w : World) (hT : Tabs w) :
    Calls Tryz.prog 81 #[.int .u64 n, .int .i64 16] w fun e w' => e = .returned (.string (hexS n)) ∧ Below w.heap.size w w' :=
  formatUint16 n hn w hT
def zerosS (k : Nat) : ByteArray := ⟨(Lib.repeatL [48] k).toArray⟩
theorem repeat0 (k : Nat) (hk : k ≤ 16) (w : World) :
    Calls Tryz.prog 82 #[.string { data := #[48] }, .int .i64 k] w fun e w' => e = .returned (.string (zerosS k)) ∧ Below w.heap.size w w' :=
  Tryz.strings_Repeat { data := #[48] } k w (by omega) (by show 1 * k ≤ _; omega)
theorem repeatL_rep (k : Nat) : Lib.repeatL [48] k = List.replicate k 48 := by
  induction k with
  | zero => rfl
  | succ k ih => rw [List.replicate_succ, ← ih]; rfl
theorem zerosS_size (k : Nat) : (zerosS k).size = k := by
  rw [Lib.size_eq]; simp [zerosS, repeatL_rep]
theorem sum_join (t : ByteArray) (k n : Nat) (hn : n = (endSt t.data.toList).toNat) (hk : k = 16 - hexLen n) : zerosS k ++ hexS n = sumS t := by
  apply ByteArray.ext
  rw [ByteArray.data_append]
  apply Array.toList_inj.1
  rw [Array.toList_append]
  simp only [zerosS, hexS, sumS, sumL, repeatL_rep]
  rw [hk, ← hn, low_pad n (by rw [hn]; simpa using (endSt t.data.toList).isLt)]

set_option maxRecDepth 100000 in
theorem sum_calls (t : ByteArray) (ht : t.size ≤ 4611686018427387904) (w : World) (hT : Tabs w) :
    Calls Tryz.prog 59 #[.string t] w fun e w' => e = .returned (.string (sumS t)) ∧ Below w.heap.size w w' := by
  have HT := Lib.hid hT
  clear hT
  go_enter Tryz.func59, Tryz.ntmps59
  go_wp2_with fail
  have hx0 : bits BinOp.xor IntKind.u64 2611923443488327891 (t.size : Int) = ((st t.data.toList 0).toNat : Int) := by
    have := xorB 2611923443488327891#64 (BitVec.ofNat 64 t.size)
    rw [toNat_small t.size (by omega)] at this
    rw [st, ← Lib.size_eq]
    exact this
  have hS : StAt w.heap.size (st t.data.toList 0) w (w.alloc (.cells #[.int .u64 (bits BinOp.xor IntKind.u64 2611923443488327891 (t.size : Int))] 91)) := by
    rw [hx0]
    refine ⟨(Below.refl _ _).alloc (Nat.le_refl _) _, by rw [World.size_alloc]; omega, by rw [World.cell?_alloc_new]; rfl, World.frozen?_alloc_new _ _ _ _⟩
  refine (blocks_calls t ht w.heap.size w _ hS).mono ?_
  rintro e w1 ⟨rfl, h1⟩
  clear hS hx0
  have hc := h1.cell
  have HB := Lib.hid h1.below
  clear h1
  have hlt : (endSt t.data.toList).toNat < 18446744073709551616 := by simpa using (endSt t.data.toList).isLt
  obtain ⟨n, hn⟩ : ∃ n, n = (endSt t.data.toList).toNat := ⟨_, rfl⟩
  rw [← hn] at hc hlt
  have HN := Lib.hid hn
  clear hn
  go_wp2_with fail
  refine (formatUintS n hlt w1 (HT.out.on HB.out)).mono ?_
  rintro e w2 ⟨rfl, h2⟩
  have HB2 : Hid (Below w.heap.size w w2) := Lib.hid (HB.out.trans (h2.mono HB.out.size))
  have hz := hexS_size n
  have h16 := hexLen_le16 n hlt
  obtain ⟨m, hm⟩ : ∃ m, m = 16 - hexLen n := ⟨_, rfl⟩
  obtain ⟨q, hq⟩ : ∃ q, q = (hexS n).size := ⟨_, rfl⟩
  have HJ := Lib.hid (sum_join t m n HN.out hm)
  have hmq : q + m = 16 := by omega
  generalize hexS n = o at *
  have HM := Lib.hid hm
  clear h2 hm hz h16
  subst hq
  go_wp2_with fail
  rw [show (16 - (o.size : Int)) = ((m : Nat) : Int) by omega]
  refine (repeat0 m (by omega) w2).mono ?_
  rintro e w3 ⟨rfl, h3⟩
  have HB3 : Hid (Below w.heap.size w w3) := Lib.hid (HB2.out.trans (h3.mono HB2.out.size))
  have hzs := zerosS_size m
  have hsm : ¬ 9223372036854775807 < (zerosS m).size + o.size := by omega
  go_wp2
  go_ret
  exact ⟨by rw [← HJ.out]; rfl, HB3.out⟩
end Go.Proofs.YtpogffdbencfnaaGreatDoor
