import Derived.Test.YtpogffdbencfnaaGreatDoorDgTake
import Derived.Lib.LazyBuf
import Derived.Lib.BufferWrite
import Derived.Deep.RegionHeld3
set_option linter.unusedVariables false
namespace Go.Proofs.YtpogffdbencfnaaGreatDoor
open Go Go.RowKit

theorem cells8_size (c : Nat → Nat) : (cells8 c).size = 8 := rfl
theorem cells8_ext {a : Array Value} {c : Nat → Nat} (hs : a.size = 8) (h : ∀ j, j < 8 → a[j]? = some (.int .u8 (c j : Nat))) : a = cells8 c := by
  apply Array.ext_getElem?
  intro i
  by_cases hi : i < 8
  · rw [h i hi, cells8_at c i hi]
  · rw [Array.getElem?_eq_none (by omega), Array.getElem?_eq_none (by rw [cells8_size]; omega)]

/-- 'copy(block[:], s)' into eight fresh bytes. -/
theorem step_copy8 {ops : Array Oper} {o : Oper} {a : Act} {w : World} {K : Act → World → Prop} {Q : Exit → Act → World → Prop} {E : Prop}
    (hg : o.guard = none) (d x : Operand) (hop : o.op = Op.call { callee := Callee.builtin Builtin.copy, args := #[d, x], argTypes := #[80, 9] })
    (b cap : Nat) (hd : a.eval d = .slice (some ⟨b, 0, none⟩) 8 cap) (t : ByteArray) (hx : a.eval x = .string t)
    (hb : w.heap[b]? = some (.cells (cells8 fun _ => 0) 104 (0, 0)))
    (hK : ∀ v w', w'.heap[b]? = some (.cells (cells8 fun i => byteAt t.data.toList i) 104 (0, 0)) → w.grownBy w' (some b) → w'.heap.size = w.heap.size → K (a.put o.dst v) w') :
    if Region.wanted o (yielded ops a.tmps) = true then Oper.wp Tryz.prog o a w K Q else E := by
  have hw : Region.wanted o (yielded ops a.tmps) = true := by simp [Region.wanted, hg]
  rw [if_pos hw]
  have hz : ∀ w, (Go.sizeOf 5).run Tryz.prog w = .ok 1 w := Tryz.sizeOf5
  have hu := Tryz.underlying80
  have hsz : t.size = t.data.toList.length := Lib.size_eq t
  have hst := run_storeCells_at Tryz.prog b 0 104 ((t.data.toList.map fun x => Value.int .u8 (x.toNat : Int)).take (Nat.min t.size 8)) 0 (cells8 fun _ => 0) w hb
    (by simp only [List.length_take, List.length_map, cells8_size]; simp only [Nat.min_def]; split <;> split <;> omega)
    (by intro v hv
        obtain ⟨x, _, rfl⟩ := List.mem_map.1 (List.mem_of_mem_take hv)
        rfl)
  have hrow : ((cells8 fun _ => 0).toList.take (0 + 0) ++ ((t.data.toList.map fun x => Value.int .u8 (x.toNat : Int)).take (Nat.min t.size 8)) ++ (cells8 fun _ => 0).toList.drop (0 + 0 + ((t.data.toList.map fun x => Value.int .u8 (x.toNat : Int)).take (Nat.min t.size 8)).length)).toArray = cells8 fun i => byteAt t.data.toList i := by
    apply cells8_ext
    · simp only [Nat.add_zero, List.take_zero, List.nil_append, List.size_toArray, List.length_append, List.length_take, List.length_map, List.length_drop, Nat.zero_add, ← hsz]
      have : (cells8 fun _ => 0).toList.length = 8 := rfl
      rw [this]
      simp only [Nat.min_def]
      split <;> split <;> omega
    · intro j hj
      simp only [Nat.add_zero, List.take_zero, List.nil_append, List.getElem?_toArray, Nat.zero_add]
      have hl : ((t.data.toList.map fun x => Value.int .u8 (x.toNat : Int)).take (Nat.min t.size 8)).length = Nat.min t.size 8 := by
        simp only [List.length_take, List.length_map, ← hsz]
        simp only [Nat.min_def]; split <;> split <;> omega
      by_cases hjt : j < t.size
      · have hjm : j < Nat.min t.size 8 := by simp only [Nat.min_def]; split <;> omega
        rw [List.getElem?_append_left (by rw [hl]; exact hjm), List.getElem?_take_of_lt hjm, List.getElem?_map]
        unfold byteAt
        rw [List.getElem?_eq_getElem (by omega)]
        rfl
      · have hm : Nat.min t.size 8 = t.size := by simp only [Nat.min_def]; split <;> omega
        rw [List.getElem?_append_right (by rw [hl, hm]; omega), hl, hm, List.getElem?_drop, byteAt_ge (by omega)]
        rw [show t.size + (j - t.size) = j by omega]
        have := cells8_at (fun _ => 0) j hj
        simpa using this
  rw [hrow] at hst
  have hrun : (Builtin.copy_ #[80, 9] o.type #[.slice (some ⟨b, 0, none⟩) 8 cap, .string t]).run Tryz.prog w = .ok (goInt (Nat.min t.size 8)) (w.setRow b (cells8 fun i => byteAt t.data.toList i)) := by
    simp [Builtin.copy_, run_underlying hu, Builtin.lenOf, Builtin.firstCells, hz]
    have hst' := hst
    simp only [Nat.min_def] at hst' ⊢
    rw [hst']
    rfl
  unfold Oper.wp
  simp [execOp, hop, resolve, invoke, builtin, hd, hx, hrun, Result.andThen]
  exact hK _ _ (setRow_heap w b _ _ _ _ hb) ⟨rfl, rfl, rfl, by simp, fun k _ hne => setRow_other w b k _ (by intro e; subst e; simp at hne)⟩ (by simp)
end Go.Proofs.YtpogffdbencfnaaGreatDoor
