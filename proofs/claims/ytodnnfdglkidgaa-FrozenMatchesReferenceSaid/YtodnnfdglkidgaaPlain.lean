/- Plain words on lists of movements (days and units), and on memory: no program in sight. -/
import Derived.Laws.AppendOwn
import Derived.Below
import Derived.Lib.Hide
set_option linter.unusedVariables false
namespace Go.Proofs.Ytodnnfdglkidgaa
open Go.RowKit

/-- The cells of a list of movements. -/
def flat : List (Int × Int) → List Value
  | [] => []
  | (d, u) :: r => .int .i64 d :: .int .i64 u :: flat r
/-- The day of movement k. -/
def dayAt (ms : List (Int × Int)) (k : Nat) : Int := (ms.getD k (0, 0)).1
/-- The units of movement k. -/
def unitAt (ms : List (Int × Int)) (k : Nat) : Int := (ms.getD k (0, 0)).2
/-- The balance after the first k movements. -/
def balTo (ms : List (Int × Int)) (k : Nat) : Int := ((ms.take k).map (·.2)).sum
/-- What the periods yield after k rounds. -/
def pers (ms : List (Int × Int)) (k : Nat) : List (Int × Int) := (List.range k).map fun j => (dayAt ms j, balTo ms (j + 1))

theorem flat_length (ms : List (Int × Int)) : (flat ms).length = ms.length * 2 := by
  induction ms with
  | nil => rfl
  | cons m r ih => obtain ⟨d, u⟩ := m; simp [flat, ih]; omega
theorem flat_append (a b : List (Int × Int)) : flat (a ++ b) = flat a ++ flat b := by
  induction a with
  | nil => rfl
  | cons m r ih => obtain ⟨d, u⟩ := m; simp [flat, ih]
theorem flat_day (ms : List (Int × Int)) : ∀ k, k < ms.length → (flat ms)[k * 2]? = some (.int .i64 (dayAt ms k)) := by
  induction ms with
  | nil => intro k h; simp at h
  | cons m r ih =>
    obtain ⟨d, u⟩ := m
    intro k h
    cases k with
    | zero => rfl
    | succ k => rw [show (k + 1) * 2 = k * 2 + 1 + 1 from by omega]; simp only [flat, List.getElem?_cons_succ]; rw [ih k (by simpa using h)]; simp [dayAt]
theorem flat_unit (ms : List (Int × Int)) : ∀ k, k < ms.length → (flat ms)[k * 2 + 1]? = some (.int .i64 (unitAt ms k)) := by
  induction ms with
  | nil => intro k h; simp at h
  | cons m r ih =>
    obtain ⟨d, u⟩ := m
    intro k h
    cases k with
    | zero => rfl
    | succ k => rw [show (k + 1) * 2 + 1 = k * 2 + 1 + 1 + 1 from by omega]; simp only [flat, List.getElem?_cons_succ]; rw [ih k (by simpa using h)]; simp [unitAt]
theorem flat_oneCell (ms : List (Int × Int)) : ∀ x ∈ flat ms, x.oneCell' = true := by
  induction ms with
  | nil => intro x h; cases h
  | cons m r ih =>
    obtain ⟨d, u⟩ := m
    intro x h
    simp only [flat, List.mem_cons] at h
    rcases h with rfl | rfl | h
    · rfl
    · rfl
    · exact ih x h
theorem balTo_zero (ms : List (Int × Int)) : balTo ms 0 = 0 := by simp [balTo]
theorem balTo_succ (ms : List (Int × Int)) (k : Nat) (h : k < ms.length) : balTo ms (k + 1) = balTo ms k + unitAt ms k := by
  unfold balTo unitAt
  rw [List.take_succ_eq_append_getElem h, List.map_append, List.sum_append]
  congr 1
  simp [List.getD, h]
theorem pers_succ (ms : List (Int × Int)) (k : Nat) : pers ms (k + 1) = pers ms k ++ [(dayAt ms k, balTo ms (k + 1))] := by simp [pers, List.range_succ]
theorem pers_length (ms : List (Int × Int)) (k : Nat) : (pers ms k).length = k := by simp [pers]

/-- The world w' is as w was, but for the blocks of S and for new ones. -/
structure Chg (S : List Nat) (w w' : World) : Prop where
  os : w'.os = w.os
  tape : w'.tape = w.tape
  output : w'.output = w.output
  size : w.heap.size ≤ w'.heap.size
  block : ∀ k, k < w.heap.size → k ∉ S → w'.heap[k]? = w.heap[k]?

theorem Chg.refl (S : List Nat) (w : World) : Chg S w w := ⟨rfl, rfl, rfl, Nat.le_refl _, fun _ _ _ => rfl⟩
theorem Chg.trans {S : List Nat} {a b c : World} (h : Chg S a b) {T : List Nat} (k : Chg T b c) (hT : ∀ x ∈ T, x ∈ S ∨ a.heap.size ≤ x) : Chg S a c :=
  ⟨k.os.trans h.os, k.tape.trans h.tape, k.output.trans h.output, Nat.le_trans h.size k.size, fun i hi hS =>
    (k.block i (Nat.lt_of_lt_of_le hi h.size) (fun hm => by rcases hT i hm with h1 | h1; exact hS h1; omega)).trans (h.block i hi hS)⟩
theorem Chg.below {w w' : World} (h : Chg [] w w') : Below w.heap.size w w' := ⟨h.os, h.tape, h.output, h.size, fun k hk => h.block k hk (by simp)⟩
theorem Below.chg {w w' : World} (h : Below w.heap.size w w') (S : List Nat) : Chg S w w' := ⟨h.os, h.tape, h.output, h.size, fun k hk _ => h.block k hk⟩
theorem Chg.mono {S T : List Nat} {w w' : World} (h : Chg S w w') (hT : ∀ x ∈ S, x ∈ T) : Chg T w w' := ⟨h.os, h.tape, h.output, h.size, fun k hk hS => h.block k hk (fun hm => hS (hT k hm))⟩

theorem cell_new_l (w : World) (v : Value) (t : TypeId) : (w.alloc (.cells #[v] t)).cell? ⟨w.heap.size, 0, none⟩ = some v ∧ (w.alloc (.cells #[v] t)).frozen? ⟨w.heap.size, 0, none⟩ = false := by
  have h : (w.alloc (.cells #[v] t)).heap[w.heap.size]? = some (.cells #[v] t (0, 0)) := heap_alloc_new w _
  exact ⟨by rw [cell_of_row _ _ 0 _ _ _ h]; rfl, by unfold World.frozen?; rw [h]; simp⟩
theorem cell_alloc_l {w : World} (o : Obj) {a : Addr} {v : Value} (h : w.cell? a = some v) : (w.alloc o).cell? a = some v :=
  (World.cell?_of_block (heap_alloc_old w o a.block (World.block_lt_of_cell? w a h))).trans h
theorem frozen_alloc_l {w : World} (o : Obj) {a : Addr} {v : Value} (h : w.cell? a = some v) (hf : w.frozen? a = false) : (w.alloc o).frozen? a = false :=
  (World.frozen?_of_block (heap_alloc_old w o a.block (World.block_lt_of_cell? w a h))).trans hf

/-- An account lies in block b, its movements in block g. -/
structure Acc (ta tm : TypeId) (w : World) (b g cap : Nat) (r v : Int) (ms : List (Int × Int)) (cl : Bool) : Prop where
  blk : w.heap[b]? = some (.cells #[.int .i64 r, .int .i64 v, .slice (some ⟨g, 0, none⟩) ms.length cap, .bool cl] ta (0, 0))
  own : w.ownsRow 0 tm 2 (.slice (some ⟨g, 0, none⟩) ms.length cap) ms.length (flat ms)
  ne : g ≠ b

theorem Acc.blt {ta tm : TypeId} {w : World} {b g cap : Nat} {r v : Int} {ms : List (Int × Int)} {cl : Bool} (h : Acc ta tm w b g cap r v ms cl) : b < w.heap.size := (Array.getElem?_eq_some_iff.1 h.blk).1
theorem Acc.glt {ta tm : TypeId} {w : World} {b g cap : Nat} {r v : Int} {ms : List (Int × Int)} {cl : Bool} (h : Acc ta tm w b g cap r v ms cl) : g < w.heap.size := (h.own.lt g rfl).2
theorem Acc.chg {ta tm : TypeId} {w w' : World} {b g cap : Nat} {r v : Int} {ms : List (Int × Int)} {cl : Bool} (h : Acc ta tm w b g cap r v ms cl) {S : List Nat} (hc : Chg S w w') (hb : b ∉ S) (hg : g ∉ S) : Acc ta tm w' b g cap r v ms cl := by
  refine ⟨(hc.block b h.blt hb).trans h.blk, ⟨h.own.1, ?_⟩, h.ne⟩
  rcases h.own.2 with ⟨e, _⟩ | ⟨g', cap', cur, e, h1, h2, h3⟩
  · cases e
  · simp only [Value.slice.injEq, Option.some.injEq, Addr.mk.injEq, true_and, and_true] at e
    obtain ⟨rfl, rfl⟩ := e
    exact .inr ⟨g, cap, cur, rfl, h1, (hc.block g h.glt hg).trans h2, h3⟩
theorem Acc.below {ta tm : TypeId} {w w' : World} {b g cap : Nat} {r v : Int} {ms : List (Int × Int)} {cl : Bool} (h : Acc ta tm w b g cap r v ms cl) (hc : Below w.heap.size w w') : Acc ta tm w' b g cap r v ms cl :=
  h.chg (Below.chg hc []) (by simp) (by simp)
theorem Acc.c0 {ta tm : TypeId} {w : World} {b g cap : Nat} {r v : Int} {ms : List (Int × Int)} {cl : Bool} (h : Acc ta tm w b g cap r v ms cl) : w.cell? ⟨b, 0, none⟩ = some (.int .i64 r) := by rw [cell_of_row w b 0 _ _ _ h.blk]; rfl
theorem Acc.c1 {ta tm : TypeId} {w : World} {b g cap : Nat} {r v : Int} {ms : List (Int × Int)} {cl : Bool} (h : Acc ta tm w b g cap r v ms cl) : w.cell? ⟨b, 1, none⟩ = some (.int .i64 v) := by rw [cell_of_row w b 1 _ _ _ h.blk]; rfl
theorem Acc.c2 {ta tm : TypeId} {w : World} {b g cap : Nat} {r v : Int} {ms : List (Int × Int)} {cl : Bool} (h : Acc ta tm w b g cap r v ms cl) : w.cell? ⟨b, 2, none⟩ = some (.slice (some ⟨g, 0, none⟩) ms.length cap) := by rw [cell_of_row w b 2 _ _ _ h.blk]; rfl
theorem Acc.c3 {ta tm : TypeId} {w : World} {b g cap : Nat} {r v : Int} {ms : List (Int × Int)} {cl : Bool} (h : Acc ta tm w b g cap r v ms cl) : w.cell? ⟨b, 3, none⟩ = some (.bool cl) := by rw [cell_of_row w b 3 _ _ _ h.blk]; rfl
theorem Acc.fr {ta tm : TypeId} {w : World} {b g cap : Nat} {r v : Int} {ms : List (Int × Int)} {cl : Bool} (h : Acc ta tm w b g cap r v ms cl) (o : Nat) : w.frozen? ⟨b, o, none⟩ = false := by simp [World.frozen?, h.blk]
theorem Acc.day {ta tm : TypeId} {w : World} {b g cap : Nat} {r v : Int} {ms : List (Int × Int)} {cl : Bool} (h : Acc ta tm w b g cap r v ms cl) (k : Nat) (hk : k < ms.length) : w.cell? ⟨g, k * 2, none⟩ = some (.int .i64 (dayAt ms k)) := by
  have := h.own.cells rfl (k * 2) _ (flat_day ms k hk); rwa [Addr.add_lit, Nat.zero_add] at this
theorem Acc.unit {ta tm : TypeId} {w : World} {b g cap : Nat} {r v : Int} {ms : List (Int × Int)} {cl : Bool} (h : Acc ta tm w b g cap r v ms cl) (k : Nat) (hk : k < ms.length) : w.cell? ⟨g, k * 2 + 1, none⟩ = some (.int .i64 (unitAt ms k)) := by
  have := h.own.cells rfl (k * 2 + 1) _ (flat_unit ms k hk); rwa [Addr.add_lit, Nat.zero_add] at this

theorem heap_setCell_same (w : World) (b o : Nat) (v : Value) (cs : Array Value) (t : TypeId) (fr : Nat × Nat) (h : w.heap[b]? = some (.cells cs t fr)) : (w.setCell ⟨b, o, none⟩ v).heap[b]? = some (.cells (cs.setIfInBounds o v) t fr) := by
  simp only [World.setCell, Array.getElem?_modify]
  rw [if_pos trivial, h]
  rfl

/-- A movement has been appended, and the new slice stored. -/
theorem Acc.appended {ta tm : TypeId} {w w6 : World} {b g cap : Nat} {r v : Int} {ms : List (Int × Int)} {cl : Bool} (h : Acc ta tm w b g cap r v ms cl) {g' cap' H : Nat} {d u : Int}
    (hown : w6.ownsRow 0 tm 2 (.slice (some ⟨g', 0, none⟩) (ms.length + 1) cap') (ms.length + 1) (flat ms ++ [.int .i64 d, .int .i64 u])) (hgr : w.grownBy w6 (some g)) (hg : some g = some g' ∨ g' = H) (hH : w.heap.size ≤ H) :
    Acc ta tm (w6.setCell ⟨b, 2, none⟩ (.slice (some ⟨g', 0, none⟩) (ms.length + 1) cap')) b g' cap' r v (ms ++ [(d, u)]) cl := by
  have hlt := h.blt
  have hne' : g' ≠ b := by
    rcases hg with e | e
    · have := h.ne; simp at e; omega
    · omega
  have hl : (ms ++ [(d, u)]).length = ms.length + 1 := by simp
  refine ⟨?_, ?_, hne'⟩
  · rw [heap_setCell_same _ _ _ _ _ _ _ ((hgr.block b hlt (by have := h.ne; simp; omega)).trans h.blk), hl]
    rfl
  · rw [flat_append, hl]
    refine ⟨hown.1, ?_⟩
    rcases hown.2 with ⟨e, _⟩ | ⟨g2, cap2, cur, e, h1, h2, h3⟩
    · cases e
    · simp only [Value.slice.injEq, Option.some.injEq, Addr.mk.injEq, true_and, and_true] at e
      obtain ⟨rfl, rfl⟩ := e
      exact .inr ⟨g', cap', cur, rfl, h1, by rw [Below.heap_setCell _ _ _ _ hne']; exact h2, h3⟩
theorem Chg.grown {S : List Nat} {a w w' : World} (h : Chg S a w) {g : Nat} (hg : w.grownBy w' (some g)) (hS : g ∈ S ∨ a.heap.size ≤ g) : Chg S a w' :=
  h.trans (T := [g]) ⟨hg.os, hg.tape, hg.output, hg.size, fun k hk hn => hg.block k hk (by simp at hn; simp; omega)⟩ (by simpa using hS)
theorem Chg.setCell {S : List Nat} {a w : World} (h : Chg S a w) {p : Addr} (hp : p.block ∈ S ∨ a.heap.size ≤ p.block) (v : Value) : Chg S a (w.setCell p v) :=
  h.trans (T := [p.block]) ⟨rfl, rfl, rfl, by simp [World.setCell], fun k _ hn => Below.heap_setCell _ _ _ _ (by simpa using hn)⟩ (by simpa using hp)
theorem Chg.drew {S : List Nat} {a w : World} (h : Chg S a w) : Chg S a w.drew := ⟨h.os, h.tape, h.output, h.size, h.block⟩
theorem Chg.alloc {S : List Nat} {a w : World} (h : Chg S a w) (o : Obj) : Chg S a (w.alloc o) :=
  h.trans (T := []) ⟨rfl, rfl, rfl, by simp, fun k hk _ => Below.heap_alloc _ _ _ hk⟩ (by simp)
theorem Chg.add {S : List Nat} {a b c : World} (h : Chg S a b) (k : Below b.heap.size b c) : Chg S a c := h.trans (Below.chg k []) (by simp)

/-- The movements are few, and no balance is out of reach. -/
structure Bnd (ms : List (Int × Int)) : Prop where
  len : ms.length ≤ 2000
  bal : ∀ k, k ≤ ms.length → -2000000000000000000 ≤ balTo ms k ∧ balTo ms k ≤ 2000000000000000000

end Go.Proofs.Ytodnnfdglkidgaa
