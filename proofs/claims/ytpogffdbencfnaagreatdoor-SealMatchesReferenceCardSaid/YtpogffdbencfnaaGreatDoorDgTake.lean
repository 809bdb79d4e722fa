import Derived.Test.YtpogffdbencfnaaGreatDoorDgBits
set_option linter.unusedVariables false
namespace Go.Proofs.YtpogffdbencfnaaGreatDoor
open Go Go.RowKit

def blkF (c : Nat → Nat) : Nat → Nat
  | 0 => 0
  | k + 1 => blkF c k * 256 + c k
theorem blkF_blk (t : List UInt8) (f k : Nat) : blkF (fun i => byteAt t (f + i)) k = blk t f k := by
  induction k with
  | zero => rfl
  | succ k ih => simp only [blkF, blk, ih]
theorem blkF_lt (c : Nat → Nat) (h : ∀ i, c i < 256) (k : Nat) : blkF c k < 256 ^ k := by
  induction k with
  | zero => simp [blkF]
  | succ k ih => simp only [blkF]; have := h k; rw [Nat.pow_succ]; omega
def cells8 (c : Nat → Nat) : Array Value :=
  #[.int .u8 (c 0 : Nat), .int .u8 (c 1 : Nat), .int .u8 (c 2 : Nat), .int .u8 (c 3 : Nat), .int .u8 (c 4 : Nat), .int .u8 (c 5 : Nat), .int .u8 (c 6 : Nat), .int .u8 (c 7 : Nat)]
theorem cells8_at (c : Nat → Nat) (j : Nat) (h : j < 8) : (cells8 c)[j]? = some (.int .u8 (c j : Nat)) := by
  match j, h with
  | 0, _ => rfl
  | 1, _ => rfl
  | 2, _ => rfl
  | 3, _ => rfl
  | 4, _ => rfl
  | 5, _ => rfl
  | 6, _ => rfl
  | 7, _ => rfl

/-- the state's cell b, made by the call that began in w0 -/
structure StAt (b : Nat) (x : BitVec 64) (w0 w : World) : Prop where
  below : Below b w0 w
  lt : b < w.heap.size
  cell : w.cell? ⟨b, 0, none⟩ = some (.int .u64 (x.toNat : Int))
  frozen : w.frozen? ⟨b, 0, none⟩ = false
theorem StAt.alloc {b : Nat} {x : BitVec 64} {w0 w : World} (h : StAt b x w0 w) (o : Obj) : StAt b x w0 (w.alloc o) :=
  ⟨h.below.alloc (Nat.le_of_lt h.lt) o, by rw [World.size_alloc]; have := h.lt; omega, by rw [World.cell?_alloc_old _ _ _ (Nat.ne_of_lt h.lt)]; exact h.cell, by rw [World.frozen?_alloc_old _ _ _ (Nat.ne_of_lt h.lt)]; exact h.frozen⟩
theorem StAt.set {b : Nat} {x : BitVec 64} {w0 w : World} (h : StAt b x w0 w) (y : BitVec 64) : StAt b y w0 (w.setCell ⟨b, 0, none⟩ (.int .u64 (y.toNat : Int))) :=
  ⟨h.below.setCell (Nat.le_refl _) _, by rw [World.size_setCell]; exact h.lt, World.cell?_setCell_same _ _ _ h.cell, by rw [World.frozen?_setCell]; exact h.frozen⟩

theorem orB (n c k : Nat) (hn : n < 256 ^ k) (hk : k < 8) (hc : c < 256) : bits BinOp.or IntKind.u64 ((n : Int) * 256) (c : Int) = ((n * 256 + c : Nat) : Int) := by
  have h7 : n < 256 ^ 7 := Nat.lt_of_lt_of_le hn (Nat.pow_le_pow_right (by decide) (by omega))
  simp at h7
  rw [bits_join IntKind.u64 64 (by decide) (fun z h0 h1 => by rw [wrapU]; exact Int.emod_eq_of_lt h0 (by simpa using h1)) 8 ((n : Int) * 256) (c : Int) (by omega) (by omega) (by omega) (by omega) (by omega) (by omega)]
  omega

set_option maxRecDepth 100000 in
theorem take_calls (b : Nat) (x : BitVec 64) (c : Nat → Nat) (h256 : ∀ i, c i < 256) (w0 w : World) (h : StAt b x w0 w) :
    Calls Tryz.prog 80 #[.pointer (some ⟨b, 0, none⟩), .agg (cells8 c)] w fun e w' =>
      e = .returned (.tuple #[]) ∧ StAt b (mixB (x ^^^ BitVec.ofNat 64 (blkF c 8))) w0 w' := by
  have H := Lib.hid h
  clear h
  have H2 := Lib.hid h256
  clear h256
  go_enter Tryz.func80, Tryz.ntmps80
  go_wp2_with fail
  have HC : Hid (∀ j, j < 8 → (w.alloc (.cells (cells8 c) 104)).cell? ⟨w.heap.size, j, none⟩ = some (.int .u8 (c j : Nat))) :=
    Lib.hid fun j hj => by rw [World.cell?_alloc_new]; exact cells8_at c j hj
  have H3 : Hid (StAt b x w0 (w.alloc (.cells (cells8 c) 104))) := Lib.hid (H.out.alloc _)
  generalize (w.alloc (.cells (cells8 c) 104)) = W1 at *
  generalize w.heap.size = ab at *
  clear H
  go_loop [4, 7] (fun vn vi => ∃ i : Nat, vn = .int .u64 (blkF c i : Nat) ∧ vi = .int .i64 (i : Int) ∧ i ≤ 8) (fun _ vi => 8 - (RowKit.intOf vi).toNat)
  case atStart => exact ⟨0, rfl, rfl, by omega⟩
  case round =>
    obtain ⟨i, rfl, rfl, hi8⟩ := hrel
    by_cases hi : i < 8
    · have hc := HC.out i hi
      have hor := orB (blkF c i) (c i) i (blkF_lt c H2.out i) hi (H2.out i)
      have hlt : blkF c i < 72057594037927936 := by
        have := Nat.lt_of_lt_of_le (blkF_lt c H2.out i) (Nat.pow_le_pow_right (n := 256) (by decide) (show i ≤ 7 by omega)); simpa using this
      have hci := H2.out i
      have HR := Lib.hid (show blkF c (i + 1) = blkF c i * 256 + c i from rfl)
      generalize blkF c i = n0 at *
      go_wp2
      refine ⟨⟨i + 1, ?_, rfl, by omega⟩, ?_⟩
      · rw [HR.out]; rfl
      · simp only [RowKit.intOf]; omega
    · have e8 : i = 8 := by omega
      subst e8
      have hc0 := H3.out.cell
      have hf0 := H3.out.frozen
      have hx := xorB x (BitVec.ofNat 64 (blkF c 8))
      have h64 : blkF c 8 < 18446744073709551616 := by simpa using blkF_lt c H2.out 8
      rw [toNat_small _ h64] at hx
      have hS := H3.out.set (mixB (x ^^^ BitVec.ofNat 64 (blkF c 8)))
      obtain ⟨z, hz⟩ : ∃ z : Int, z = ((x ^^^ BitVec.ofNat 64 (blkF c 8)).toNat : Int) := ⟨_, rfl⟩
      rw [← mixI_eq, ← hz] at hS
      rw [← hz] at hx
      have HS := Lib.hid hS
      have hlo : (0 : Int) ≤ z := by rw [hz]; exact Int.natCast_nonneg _
      clear hS h64 hz
      obtain ⟨n8, hn8⟩ : ∃ n, n = blkF c 8 := ⟨_, rfl⟩
      rw [← hn8] at hx ⊢
      have HN := Lib.hid hn8
      clear hn8
      go_wp2
      go_end0
      exact ⟨rfl, HS.out⟩
end Go.Proofs.YtpogffdbencfnaaGreatDoor
