import Derived.Test.YtpogffdbencfnaaGreatDoorDgPlainD
import Derived.Test.YtpogffdbencfnaaGreatDoorChecked
import Derived.Test.YtpogffdbencfnaaGreatDoorShelf
import Derived.Lib.LaidTab
import Derived.Lib.AppendIntMem
import Derived.Lib.SmallJoins
set_option linter.unusedVariables false
namespace Go.Proofs.YtpogffdbencfnaaGreatDoor
open Go Go.RowKit

/-! what the walks read of the library's tables -/
def Tabs (w : World) : Prop :=
  Lib.TabIs Tryz.prog w "internal/strconv.uint64pow10" .u64 Lib.pow10Tab ∧ w.cell? ⟨5, 15, none⟩ = some (.int .u8 4) ∧ 5 < w.heap.size
theorem Tabs.stays {w w' : World} {B : Nat} (h : Tabs w) (hb : Below B w w') (hB : w.heap.size ≤ B) : Tabs w' := by
  obtain ⟨h1, h2, h3⟩ := h
  refine ⟨Joins.tab_stays (g := 1) (by kernel_rfl) h1 hb hB, ?_, ?_⟩
  · rw [hb.cell (by show 5 < B; omega)]; exact h2
  · exact Nat.lt_of_lt_of_le h3 hb.size
theorem Tabs.on {w w' : World} (h : Tabs w) (hb : Below w.heap.size w w') : Tabs w' := h.stays hb (Nat.le_refl _)

theorem pow2_16 (w : World) : Calls Tryz.prog 123 #[.int .i64 16] w fun e w' => e = .returned (.bool true) ∧ w' = w := by
  have h0 : (bits BinOp.and IntKind.i64 16 15 == 0) = true := by decide
  go_enter Tryz.func123, Tryz.ntmps123
  go_wp2
  go_ret
  exact ⟨rfl, rfl⟩
theorem tz64_16 (w : World) (h : w.cell? ⟨5, 15, none⟩ = some (.int .u8 4)) :
    Calls Tryz.prog 130 #[.int .u64 16] w fun e w' => e = .returned (.int .i64 4) ∧ w' = w := by
  have key : IntKind.u64.wrap (bits BinOp.and IntKind.u64 16 (IntKind.u64.wrap (-16)) * 285870213051353865) / 288230376151711744 = 15 := by decide
  go_enter Tryz.func130, Tryz.ntmps130
  go_wp2_with (simp only [key])
  go_ret
  exact ⟨rfl, rfl⟩
theorem tz_16 (w : World) (h : w.cell? ⟨5, 15, none⟩ = some (.int .u8 4)) :
    Calls Tryz.prog 124 #[.int .u64 16] w fun e w' => e = .returned (.int .i64 4) ∧ w' = w := by
  go_enter Tryz.func124, Tryz.ntmps124
  go_wp2_with fail
  refine (tz64_16 w h).mono ?_
  rintro e w1 ⟨rfl, rfl⟩
  go_wp2
  go_ret
  exact ⟨rfl, rfl⟩

theorem idx36 (t : TypeId) (ht : Tryz.prog.underlying t = some .string) (k : IntKind) (z : Int) (v : Nat) (hz : z = (v : Int)) (hv : v < 16) (w : World) :
    (Instr.index t (.string Lib.digits36) (.int k z)).run Tryz.prog w = .ok (.int .u8 ((dig v).toNat : Int)) w := by
  subst hz
  have hs : Lib.digits36.size = 36 := by decide +kernel
  rw [run_index_string w t Lib.digits36 k _ ht, dif_pos ⟨by omega, by rw [hs]; omega⟩]
  have e : ((v : Int)).toNat = v := by omega
  simp only [e]
  have h16 : ∀ m : Fin 16, Lib.digits36.data[m.val]? = some (dig m.val) := by decide +kernel
  have := h16 ⟨v, hv⟩
  have h2 : Lib.digits36[v]'(by rw [hs]; omega) = dig v := by
    have h3 := Array.getElem?_eq_some_iff.1 this
    obtain ⟨h4, h5⟩ := h3
    exact h5
  rw [h2]

theorem andB (a b : BitVec 64) : bits BinOp.and IntKind.u64 (a.toNat : Int) (b.toNat : Int) = ((a &&& b).toNat : Int) := by
  have ha : BitVec.ofInt IntKind.u64.bits (a.toNat : Int) = a := by rw [BitVec.ofInt_natCast]; exact BitVec.ofNat_toNat 64 a ▸ (by simp [IntKind.bits])
  have hb : BitVec.ofInt IntKind.u64.bits (b.toNat : Int) = b := by rw [BitVec.ofInt_natCast]; exact BitVec.ofNat_toNat 64 b ▸ (by simp [IntKind.bits])
  simp only [bits, ha, hb]
  exact wrap_toNat _
theorem and15 (v : Nat) (hv : v < 18446744073709551616) : bits BinOp.and IntKind.u64 (v : Int) 15 = ((v % 16 : Nat) : Int) := by
  have h := andB (BitVec.ofNat 64 v) 15#64
  rw [toNat_small v hv] at h
  have e : (BitVec.ofNat 64 v &&& 15#64).toNat = v % 16 := by
    rw [BitVec.toNat_and, toNat_small v hv, BitVec.toNat_ofNat, show 15 % 2 ^ 64 = 2 ^ 4 - 1 by decide, Nat.and_two_pow_sub_one_eq_mod]
  rw [e] at h
  exact h

/-- the array of 65 bytes of which the last k hold the last k digits of n -/
structure Arr (b n k : Nat) (w W : World) : Prop where
  below : Below b w W
  cell : ∀ j, j < 65 → ∃ c : Int, W.cell? ⟨b, j, none⟩ = some (.int .u8 c)
  frozen : ∀ j, j < 65 → W.frozen? ⟨b, j, none⟩ = false
  digits : ∀ j (hj : j < k), W.cell? ⟨b, 65 - k + j, none⟩ = some (.int .u8 (((low k n)[j]'(by rw [low_length]; exact hj)).toNat : Int))
theorem Arr.step {b n k m : Nat} {w W : World} (h : Arr b n k w W) (hm : m + (k + 1) = 65) (hb : b = w.heap.size) (d : Nat) (hd : d = n / 16 ^ k % 16) :
    Arr b n (k + 1) w (W.setCell ⟨b, m, none⟩ (.int .u8 ((dig d).toNat : Int))) := by
  refine ⟨h.below.setCell (Nat.le_refl _) _, ?_, ?_, ?_⟩
  · intro j hj
    by_cases hjm : j = m
    · subst hjm
      obtain ⟨c, hc⟩ := h.cell j hj
      exact ⟨_, World.cell?_setCell_same _ _ _ hc⟩
    · obtain ⟨c, hc⟩ := h.cell j hj
      exact ⟨c, by rw [World.cell?_setCell_other _ _ _ _ (by simp)]; exact hc⟩
  · intro j hj
    rw [World.frozen?_setCell]; exact h.frozen j hj
  · intro j hj
    cases j with
    | zero =>
      obtain ⟨c, hc⟩ := h.cell m (by omega)
      rw [show 65 - (k + 1) + 0 = m by omega]
      rw [World.cell?_setCell_same _ _ _ hc]
      simp only [low, List.getElem_cons_zero, hd]
    | succ j =>
      have := h.digits j (by omega)
      rw [show 65 - (k + 1) + (j + 1) = 65 - k + j by omega]
      rw [World.cell?_setCell_other _ _ _ _ (by intro e; injection e with _ e2 _; omega)]
      simp only [low, List.getElem_cons_succ]
      exact this
end Go.Proofs.YtpogffdbencfnaaGreatDoor
