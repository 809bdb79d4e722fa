import Derived.Test.YtpogffdbencfnaaGreatDoorTrProper
import Derived.RegionTactic
import Derived.BigQuiet
import Derived.Deep.QuietTactic
set_option linter.unusedVariables false
namespace Go.Proofs.YtpogffdbencfnaaGreatDoor
open Go Go.RowKit

/-- The world w' is as w was, but for the blocks of S and for new ones. -/
structure Chg (S : List Nat) (w w' : World) : Prop where
  os : w'.os = w.os
  tape : w'.tape = w.tape
  output : w'.output = w.output
  size : w.heap.size ≤ w'.heap.size
  block : ∀ k, k < w.heap.size → k ∉ S → w'.heap[k]? = w.heap[k]?
theorem Chg.refl (S : List Nat) (w : World) : Chg S w w := ⟨rfl, rfl, rfl, Nat.le_refl _, fun _ _ _ => rfl⟩
theorem Chg.trans {S : List Nat} {a b c : World} (h : Chg S a b) (k : Chg S b c) : Chg S a c :=
  ⟨k.os.trans h.os, k.tape.trans h.tape, k.output.trans h.output, Nat.le_trans h.size k.size, fun i hi hS => (k.block i (Nat.lt_of_lt_of_le hi h.size) hS).trans (h.block i hi hS)⟩
theorem Chg.of_below {w w' : World} (h : Below w.heap.size w w') (S : List Nat) : Chg S w w' := ⟨h.os, h.tape, h.output, h.size, fun k hk _ => h.block k hk⟩
theorem heap_set_same (w : World) (b o : Nat) (v : Value) (cs : Array Value) (t : TypeId) (fr : Nat × Nat) (h : w.heap[b]? = some (.cells cs t fr)) : (w.setCell ⟨b, o, none⟩ v).heap[b]? = some (.cells (cs.setIfInBounds o v) t fr) := by
  simp only [World.setCell, Array.getElem?_modify]
  simp [h]
theorem heap_set_other (w : World) (b o : Nat) (v : Value) (k : Nat) (h : k ≠ b) : (w.setCell ⟨b, o, none⟩ v).heap[k]? = w.heap[k]? := by
  simp only [World.setCell, Array.getElem?_modify]
  simp [Ne.symm h]
theorem Chg.set {S : List Nat} {w w' : World} (h : Chg S w w') (b o : Nat) (v : Value) (hb : b ∈ S) : Chg S w (w'.setCell ⟨b, o, none⟩ v) :=
  ⟨h.os, h.tape, h.output, by rw [World.size_setCell]; exact h.size, fun k hk hS => (heap_set_other w' b o v k (fun e => hS (e ▸ hb))).trans (h.block k hk hS)⟩
theorem Chg.cell {S : List Nat} {w w' : World} (h : Chg S w w') {b o : Nat} (hb : b < w.heap.size) (hS : b ∉ S) : w'.cell? ⟨b, o, none⟩ = w.cell? ⟨b, o, none⟩ := World.cell?_of_block (h.block b hb hS)

/-- What is left of a proof: the first j of p0 in the variable's block lb; the struct in block pb. -/
structure Rd0 (W0 : World) (lb pb : Nat) (ao : Option Addr) (cap : Nat) (p0 : List ByteArray) : Prop where
  ne : lb ≠ pb
  llt : lb < W0.heap.size
  plt : pb < W0.heap.size
  len : p0.length ≤ cap
  max : cap ≤ maxLen
  sz : ∀ s ∈ p0, s.size = 16
  str : ∀ i, i < p0.length → ∃ b o, ao = some ⟨b, o, none⟩ ∧ b < W0.heap.size ∧ b ≠ lb ∧ b ≠ pb ∧ W0.cell? ⟨b, o + i, none⟩ = some (.string (p0.getD i ByteArray.empty))
structure Rd (W0 : World) (lb pb : Nat) (ao : Option Addr) (cap : Nat) (j : Nat) (s : Bool) (W : World) : Prop where
  chg : Chg [lb, pb] W0 W
  l : W.heap[lb]? = some (.cells #[.slice ao j cap] 71 (0, 0))
  p : W.heap[pb]? = some (.cells #[.pointer (some ⟨lb, 0, none⟩), .bool s] 76 (0, 0))
theorem Rd.below {W0 W W' : World} {lb pb cap j : Nat} {ao : Option Addr} {s : Bool} (h : Rd W0 lb pb ao cap j s W) (hb : Below W.heap.size W W') : Rd W0 lb pb ao cap j s W' :=
  ⟨h.chg.trans (Chg.of_below hb _), by rw [hb.block lb (Array.getElem?_eq_some_iff.1 h.l).1]; exact h.l, by rw [hb.block pb (Array.getElem?_eq_some_iff.1 h.p).1]; exact h.p⟩
theorem Rd.lc {W0 W : World} {lb pb cap j : Nat} {ao : Option Addr} {s : Bool} (h : Rd W0 lb pb ao cap j s W) : W.cell? ⟨lb, 0, none⟩ = some (.slice ao j cap) := by rw [cell_of_row W lb 0 _ _ _ h.l]; rfl
theorem Rd.lf {W0 W : World} {lb pb cap j : Nat} {ao : Option Addr} {s : Bool} (h : Rd W0 lb pb ao cap j s W) (o : Nat) : W.frozen? ⟨lb, o, none⟩ = false := by simp [World.frozen?, h.l]
theorem Rd.pc0 {W0 W : World} {lb pb cap j : Nat} {ao : Option Addr} {s : Bool} (h : Rd W0 lb pb ao cap j s W) : W.cell? ⟨pb, 0, none⟩ = some (.pointer (some ⟨lb, 0, none⟩)) := by rw [cell_of_row W pb 0 _ _ _ h.p]; rfl
theorem Rd.pc1 {W0 W : World} {lb pb cap j : Nat} {ao : Option Addr} {s : Bool} (h : Rd W0 lb pb ao cap j s W) : W.cell? ⟨pb, 1, none⟩ = some (.bool s) := by rw [cell_of_row W pb 1 _ _ _ h.p]; rfl
theorem Rd.pf {W0 W : World} {lb pb cap j : Nat} {ao : Option Addr} {s : Bool} (h : Rd W0 lb pb ao cap j s W) (o : Nat) : W.frozen? ⟨pb, o, none⟩ = false := by simp [World.frozen?, h.p]
theorem Rd.setL {W0 W : World} {lb pb cap j : Nat} {ao : Option Addr} {s : Bool} {p0 : List ByteArray} (h0 : Rd0 W0 lb pb ao cap p0) (h : Rd W0 lb pb ao cap j s W) (i : Nat) : Rd W0 lb pb ao cap i s (W.setCell ⟨lb, 0, none⟩ (.slice ao i cap)) :=
  ⟨h.chg.set lb 0 _ (by simp), by rw [heap_set_same W lb 0 _ _ _ _ h.l]; rfl, by rw [heap_set_other W lb 0 _ pb (Ne.symm h0.ne)]; exact h.p⟩
theorem Rd.setS {W0 W : World} {lb pb cap j : Nat} {ao : Option Addr} {s : Bool} {p0 : List ByteArray} (h0 : Rd0 W0 lb pb ao cap p0) (h : Rd W0 lb pb ao cap j s W) (s' : Bool) : Rd W0 lb pb ao cap j s' (W.setCell ⟨pb, 1, none⟩ (.bool s')) :=
  ⟨h.chg.set pb 1 _ (by simp), by rw [heap_set_other W pb 1 _ lb h0.ne]; exact h.l, by rw [heap_set_same W pb 1 _ _ _ _ h.p]; rfl⟩
theorem Rd.drew {W0 W : World} {lb pb cap j : Nat} {ao : Option Addr} {s : Bool} (h : Rd W0 lb pb ao cap j s W) : Rd W0 lb pb ao cap j s W.drew := h.below (Below.refl _ _).drew
theorem popV_take (p : List ByteArray) (j : Nat) (hj : j < p.length) : popV (p.take (j + 1)) = p.getD j ByteArray.empty := by
  rw [List.take_add_one, List.getElem?_eq_getElem hj]
  simp only [Option.toList, popV_append, List.getD, List.getElem?_eq_getElem hj, Option.getD_some]
theorem popV_nil (p : List ByteArray) : popV (p.take 0) = ByteArray.empty := by simp [popV]

theorem pop_calls {W0 W : World} {lb pb cap j : Nat} {ao : Option Addr} {s : Bool} {p0 : List ByteArray} (h0 : Rd0 W0 lb pb ao cap p0) (h : Rd W0 lb pb ao cap j s W) (hj : j ≤ p0.length) :
    Calls Tryz.prog 94 #[.pointer (some ⟨lb, 0, none⟩)] W fun e W' => e = .returned (.string (popV (p0.take j))) ∧ Rd W0 lb pb ao cap (j - 1) s W' := by
  have H0 := Lib.hid h0
  have H := Lib.hid h
  have hc := h.lc
  clear h0 h
  cases j with
  | zero =>
    go_enter Tryz.func94, Tryz.ntmps94
    go_wp2
    go_ret
    exact ⟨by rw [popV_nil]; rfl, H.out⟩
  | succ i =>
    obtain ⟨b, o, rfl, hlt, hn1, hn2, hs⟩ := H0.out.str i (by omega)
    have hsw : W.cell? ⟨b, o + i, none⟩ = some (.string (popV (p0.take (i + 1)))) := by rw [H.out.chg.cell hlt (by simp [hn1, hn2]), hs, popV_take _ _ (by omega)]
    have hcap : i + 1 ≤ cap := Nat.le_trans hj H0.out.len
    have hcm : cap ≤ 9223372036854775807 := H0.out.max
    have hf := H.out.lf 0
    generalize popV (p0.take (i + 1)) = d at *
    have HS := Lib.hid (H.out.setL H0.out i)
    have HS2 := Lib.hid (H.out.drew.drew.setL H0.out i)
    clear hs hn1 hn2 hlt
    go_enter Tryz.func94, Tryz.ntmps94
    go_wp2_with fail
    go_region
    go_wp2_with fail
    go_region
    go_wp2
    go_ret
    exact ⟨rfl, HS2.out⟩
theorem next_calls {W0 W : World} {lb pb cap j : Nat} {ao : Option Addr} {s : Bool} {p0 : List ByteArray} (h0 : Rd0 W0 lb pb ao cap p0) (h : Rd W0 lb pb ao cap j s W) (hj : j ≤ p0.length) :
    Calls Tryz.prog 70 #[.pointer (some ⟨pb, 0, none⟩)] W fun e W' => e = .returned (.string (popV (p0.take j))) ∧ Rd W0 lb pb ao cap (j - 1) (s || decide (j = 0)) W' := by
  have H0 := Lib.hid h0
  have H := Lib.hid h
  have hc := h.pc0
  have hz : Hid ((popV (p0.take j)).toList.isEmpty = decide (j = 0)) := by
    rw [ByteArray.toList_eq]
    cases j with
    | zero => rw [popV_nil]; exact Lib.hid (by simp)
    | succ i =>
      rw [popV_take _ _ (by omega)]
      have h1 := h0.sz (p0.getD i ByteArray.empty) (by simp [List.getD, show i < p0.length by omega])
      rw [Lib.size_eq] at h1
      refine Lib.hid ?_
      rw [decide_eq_false (by omega : ¬ i + 1 = 0)]
      cases hl : (p0.getD i ByteArray.empty).data.toList with
      | nil => rw [hl] at h1; cases h1
      | cons => rfl
  clear h0 h
  go_enter Tryz.func70, Tryz.ntmps70
  go_wp2_with fail
  refine (pop_calls H0.out H.out hj).mono ?_
  rintro e W1 ⟨rfl, h1⟩
  have hp := h1.pc1
  have hf := h1.pf 1
  have H1 := Lib.hid h1
  clear h1 hc H
  have hz2 := hz.out
  clear hz
  have HS := Lib.hid (H1.out.setS H0.out (s || decide (j = 0)))
  cases s with
  | true =>
    go_wp2
    go_ret
    exact ⟨rfl, HS.out⟩
  | false =>
    go_wp2
    go_ret
    exact ⟨rfl, HS.out⟩
theorem done_calls {W0 W : World} {lb pb cap j : Nat} {ao : Option Addr} {s : Bool} {p0 : List ByteArray} (h0 : Rd0 W0 lb pb ao cap p0) (h : Rd W0 lb pb ao cap j s W) :
    Calls Tryz.prog 71 #[.pointer (some ⟨pb, 0, none⟩)] W fun e W' => e = .returned (.bool (!s && decide (j = 0))) ∧ W' = W := by
  have hc := h.pc0
  have hc1 := h.pc1
  have hl := h.lc
  clear h0 h
  cases s with
  | true =>
    go_enter Tryz.func71, Tryz.ntmps71
    go_wp2
    go_ret
    exact ⟨rfl, rfl⟩
  | false =>
    have hd : ((j : Int) == 0) = decide (j = 0) := by
      by_cases e : j = 0
      · subst e; rfl
      · rw [decide_eq_false e, beq_eq_false_iff_ne]; omega
    go_enter Tryz.func71, Tryz.ntmps71
    go_wp2
    go_ret
    exact ⟨rfl, rfl⟩
end Go.Proofs.YtpogffdbencfnaaGreatDoor
