import Derived.StillTail
import Derived.Below
import Derived.OrdersIn
import Derived.RangeFuncCalls
import Derived.Test.YtnkepmfgmfeabaaGreatDoorR1
import Derived.WalkKit
import Derived.Laws.BitsLemmas
import Derived.Lib.Strings
import Derived.Lib.ItoaNum
import Derived.Lib.ItoaMem
import Derived.Shelf.Strings.Builder1
import Derived.Shelf.Strings.Builder2
import Derived.Shelf.Strings.Trim
import Derived.Shelf.Small.Utf8
import Derived.Shelf.Small.Strs
import Derived.Shelf.Strings.BuilderF
import Derived.Shelf.Strings.BuilderK
import Derived.Shelf.Strings.Builder2Cap
import Derived.Shelf.Strconv.Itoa0
import Derived.Shelf.Strconv.Itoa1
import Derived.Shelf.LaysM
import Derived.Shelf.Strconv.Itoa2
import Derived.Shelf.Strconv.Itoa3
import Derived.Shelf.Strings.Search1
import Derived.Shelf.Strings.Prefix
import Derived.Shelf.Strings.Runes
import Derived.Shelf.Strings.AsciiSet
import Derived.Shelf.Bits.Mul64
import Derived.Shelf.Strings.Repeat
import Derived.Shelf.Unicode.DecodeSlow
import Derived.Shelf.Unicode.DecodeAny
import Derived.Shelf.Unicode.DecodeLast
import Derived.Shelf.Strings.BuilderCap
import Derived.Ground.Names2Prog
import Derived.Shelf.Slices.ReverseS
import Derived.Shelf.Slices.Clone
import Derived.Shelf.Slices.Cells
import Derived.Test.YtnkepmfgmfeabaaGreatDoorProg
import Derived.Test.YtnkepmfgmfeabaaGreatDoorChecked
import Derived.Lib.LaidTab
import Derived.Lib.AppendIntMem
import Derived.Lib.SmallJoins
import Derived.Lib.LazyBuf
import Derived.Lib.BufferWrite
import Derived.Deep.RegionHeld3
import Derived.Lib.SlTrimSet
import Derived.Shelf.Strings.SlTrimAscii
import Derived.Lib.Builder
import Derived.Lib.AppendStr
import Derived.Lib.UnsafeStr
import Derived.Lib.ItoaLen
import Derived.WalkSmall
import Derived.OwnWalk
import Derived.Deep.RegionWith
import Derived.BigQuiet
set_option linter.unusedVariables false
namespace Go.Proofs.YtnkepmfgmfeabaaGreatDoor
open Go Go.RowKit

/-! Regions that draw their order, by kinds: each operation of the head has a kind (what its value is good for, in every later world); one walk of the text's order serves every order. -/
def Ext (w w' : World) : Prop := Below w.heap.size w w'
theorem Ext.refl (w : World) : Ext w w := Below.refl _ _
section
variable {P : Program} {ops : Array Oper} {md : Region.Mode}
def dstOf (ops : Array Oper) (i : Nat) : Option Tmp := (ops[i]?).bind (·.dst)
theorem dstOf_some {i : Nat} {o : Oper} (h : ops[i]? = some o) : dstOf ops i = o.dst := by simp [dstOf, h]
def depB (ops : Array Oper) (o : Oper) (i : Nat) : Bool := match dstOf ops i with
 | some d => (o.looksAt ops).contains d
 | none => false
def lexFrame (ops : Array Oper) (a0 : Act) (u : Nat → Value) : Nat → Act
 | 0 => a0
 | k + 1 => (lexFrame ops a0 u k).put (dstOf ops k) (u k)
def kindB (md : Region.Mode) (ops : Array Oper) (n : Nat) : Bool :=
 Region.noSelect ops && decide (n ≤ ops.size) &&
 ((List.range n).all fun j => (match ops[j]? with
  | some oj => oj.after.all fun e => !Region.binds md e || decide (e.on < j)
  | none => true)) &&
 ((List.range n).all fun j => (List.range n).all fun i => match dstOf ops i, ops[j]? with
  | some d, some oj => (i == j || oj.dst != some d) && (!(oj.looksAt ops).contains d || (decide (i < j) && Region.waitsFor md ops j i))
  | _, _ => true)

structure FrameAt (ops : Array Oper) (a0 : Act) (u : Nat → Value) (S : Nat → Prop) (a : Act) : Prop where
 defers : a.defers = a0.defers
 size : a.tmps.size = a0.tmps.size
 old : ∀ t, (∀ i, S i → dstOf ops i ≠ some t) → a.tmps[t]? = a0.tmps[t]?
 new : ∀ i d, S i → dstOf ops i = some d → a.tmps[d]? = (a0.tmps[d]?).map fun _ => u i

theorem FrameAt.nil {a0 : Act} {u : Nat → Value} {S : Nat → Prop} (h : ∀ i, ¬ S i) : FrameAt ops a0 u S a0 :=
 ⟨rfl, rfl, fun _ _ => rfl, fun i _ hi => absurd hi (h i)⟩
theorem FrameAt.put {a0 a : Act} {u : Nat → Value} {S T : Nat → Prop} (h : FrameAt ops a0 u S a) (j : Nat) (hd : ∀ i, S i → ∀ d, dstOf ops j = some d → dstOf ops i ≠ some d)
  (hT : ∀ i, T i ↔ S i ∨ i = j) : FrameAt ops a0 u T (a.put (dstOf ops j) (u j)) := by
 cases hj : dstOf ops j with
 | none =>
  refine ⟨h.defers, h.size, fun t ht => h.old t fun i hi => ht i ((hT i).2 (.inl hi)), fun i d hi hid => ?_⟩
  rcases (hT i).1 hi with hi | rfl
  ·exact h.new i d hi hid
  ·rw [hj] at hid; cases hid
 | some t0 =>
  have hs : (a.put (some t0) (u j)).tmps.size = a0.tmps.size := by simp [Act.put, h.size]
  refine ⟨h.defers, hs, fun t ht => ?_, fun i d hi hid => ?_⟩
  ·have hne : t0 ≠ t := fun e => ht j ((hT j).2 (.inr rfl)) (by rw [hj, e])
   have := h.old t fun i hi => ht i ((hT i).2 (.inl hi))
   simp only [Act.put]
   rw [Array.getElem?_setIfInBounds_ne hne]
   exact this
  ·rcases (hT i).1 hi with hi | rfl
   ·have hne : t0 ≠ d := fun e => hd i hi t0 hj (by rw [hid, e])
    simp only [Act.put]
    rw [Array.getElem?_setIfInBounds_ne hne]
    exact h.new i d hi hid
   ·rw [hj] at hid
    cases hid
    simp only [Act.put]
    rw [Array.getElem?_setIfInBounds_self]
    by_cases hlt : a.tmps.size ≤ t0
    ·have h9 : a0.tmps.size ≤ t0 := by have := h.size; omega
     rw [if_neg (Nat.not_lt.2 hlt), Array.getElem?_eq_none h9]; rfl
    ·have h8 := Nat.lt_of_not_le hlt
     have h9 : @LT.lt Nat _ t0 a0.tmps.size := by have := h.size; omega
     rw [if_pos h8, Array.getElem?_eq_getElem h9]; rfl
theorem FrameAt.congr {a0 a : Act} {u v : Nat → Value} {S : Nat → Prop} (h : FrameAt ops a0 u S a) (e : ∀ i, S i → u i = v i) : FrameAt ops a0 v S a :=
 ⟨h.defers, h.size, h.old, fun i d hi hid => by rw [h.new i d hi hid, e i hi]⟩
theorem FrameAt.same {a0 a b : Act} {u : Nat → Value} {S T : Nat → Prop} (h : FrameAt ops a0 u S a) (k : FrameAt ops a0 u T b) (t : Tmp) (e : ∀ i, dstOf ops i = some t → (S i ↔ T i)) :
  a.tmps[t]? = b.tmps[t]? := by
 by_cases hx : ∃ i, S i ∧ dstOf ops i = some t
 ·obtain ⟨i, hi, hd⟩ := hx
  rw [h.new i t hi hd, k.new i t ((e i hd).1 hi) hd]
 ·rw [h.old t fun i hi hd => hx ⟨i, hi, hd⟩, k.old t fun i hi hd => hx ⟨i, (e i hd).2 hi, hd⟩]
theorem FrameAt.eq {a0 a b : Act} {u : Nat → Value} {S T : Nat → Prop} (h : FrameAt ops a0 u S a) (k : FrameAt ops a0 u T b) (e : ∀ i, S i ↔ T i) : a = b := by
 have h1 : a.tmps = b.tmps := by
  apply Array.ext_getElem?
  intro t
  exact h.same k t fun i _ => e i
 have h2 : a.defers = b.defers := h.defers.trans k.defers.symm
 cases a; cases b
 simp only at h1 h2
 rw [h1, h2]

structure KindFacts (md : Region.Mode) (ops : Array Oper) (n : Nat) : Prop where
 sel : Region.noSelect ops = true
 le : n ≤ ops.size
 edge : ∀ j oj, j < n → ops[j]? = some oj → ∀ e ∈ oj.after, Region.binds md e = true → e.on < j
 apart : ∀ i j, i < n → j < n → i ≠ j → ∀ d, dstOf ops i = some d → dstOf ops j ≠ some d
 look : ∀ i j, i < n → j < n → ∀ d oj, dstOf ops i = some d → ops[j]? = some oj → d ∈ oj.looksAt ops → i < j ∧ Region.waitsFor md ops j i = true
theorem kindB_facts {n : Nat} (h : kindB md ops n = true) : KindFacts md ops n := by
 simp only [kindB, Bool.and_eq_true, decide_eq_true_eq] at h
 obtain ⟨⟨⟨h1, h2⟩, h3⟩, h4⟩ := h
 refine ⟨h1, h2, fun j oj hj ho e he hb => ?_, fun i j hi hj hne d hd hd2 => ?_, fun i j hi hj d oj hd ho hl => ?_⟩
 ·have := List.all_eq_true.1 h3 j (List.mem_range.2 hj)
  simp only [ho, Array.all_eq_true_iff_forall_mem] at this
  have := this e he
  simp only [hb, Bool.not_true, Bool.false_or, decide_eq_true_eq] at this
  exact this
 ·have hlt : j < ops.size := by omega
  have := List.all_eq_true.1 (List.all_eq_true.1 h4 j (List.mem_range.2 hj)) i (List.mem_range.2 hi)
  have ho : ops[j]? = some ops[j] := Array.getElem?_eq_getElem hlt
  rw [dstOf_some ho] at hd2
  simp only [hd, ho, Bool.and_eq_true, Bool.or_eq_true, beq_iff_eq, bne_iff_ne] at this
  rcases this.1 with h | h
  ·exact hne h
  ·exact h hd2
 ·have := List.all_eq_true.1 (List.all_eq_true.1 h4 j (List.mem_range.2 hj)) i (List.mem_range.2 hi)
  simp only [hd, ho, Bool.and_eq_true, Bool.or_eq_true, Bool.not_eq_true', decide_eq_true_eq] at this
  rcases this.2 with h | h
  ·rw [List.contains_eq_mem, decide_eq_false_iff_not] at h
   exact absurd hl h
  ·exact h
theorem lexFrame_at {n : Nat} (hF : KindFacts md ops n) (a0 : Act) (u : Nat → Value) : ∀ k, k ≤ n → FrameAt ops a0 u (· < k) (lexFrame ops a0 u k)
 | 0, _ => FrameAt.nil fun i hi => by omega
 | k + 1, hk => (lexFrame_at hF a0 u k (by omega)).put k (fun i hi d hd => fun e => hF.apart i k (by omega) (by omega) (by omega) d e hd) (fun i => by omega)

theorem wanted_congr {o : Oper} {t t' : Array Value} (h : ∀ d, d ∈ o.looksAt ops → t[d]? = t'[d]?) : Region.wanted o (yielded ops t) = Region.wanted o (yielded ops t') := by
 unfold Region.wanted
 cases hg : o.guard with
 | none => rfl
 | some gw =>
  obtain ⟨g, want⟩ := gw
  have hy : yielded ops t g = yielded ops t' g := by
   unfold yielded
   cases ht : (ops[g]?).bind (·.dst) with
   | none => rfl
   | some d =>
    have := h d (by simp [Oper.looksAt, hg, ht])
    simp only [Option.bind_some, this]
  simp only [hy]
theorem exec_congr {o : Oper} (hs : ∀ cs b, o.op ≠ .select cs b) {a b : Act} (h : ∀ d, d ∈ o.looksAt ops → a.tmps[d]? = b.tmps[d]?) : execOp a.eval o = execOp b.eval o :=
 execOp_congr o hs fun x hx => by
  cases x with
  | tmp d =>
   have := h d (List.mem_append_left _ (List.mem_filterMap.2 ⟨.tmp d, by simpa using hx, rfl⟩))
   simp only [Act.eval, Array.getD_eq_getD_getElem?, this]
  | _ => rfl

def upd (u : Nat → Value) (j : Nat) (v : Value) : Nat → Value := fun i => if i = j then v else u i
theorem upd_same (u : Nat → Value) (j : Nat) (v : Value) : upd u j v j = v := if_pos rfl
theorem upd_ne (u : Nat → Value) {i j : Nat} (v : Value) (h : i ≠ j) : upd u j v i = u i := if_neg h

theorem listed_count (n : Nat) (L : Array Bool) : ∀ m, m ≤ n → (∀ i, i < m → L.getD i true = true) ∨ ∃ i, i < m ∧ L.getD i true = false ∧ ∀ k, k < i → L.getD k true = true
 | 0, _ => .inl fun i hi => by omega
 | m + 1, hm => by
  rcases listed_count n L m (by omega) with h | ⟨i, hi, h1, h2⟩
  ·cases hL : L.getD m true with
   | true =>
    left
    intro i hi
    rcases Nat.lt_or_ge i m with h' | h'
    ·exact h i h'
    ·rw [show i = m by omega]; exact hL
   | false => exact .inr ⟨m, by omega, hL, h⟩
  ·exact .inr ⟨i, by omega, h1, h2⟩

def unl (L : Array Bool) : Nat → Nat
 | 0 => 0
 | m + 1 => unl L m + if L.getD m true then 0 else 1
theorem unl_set (L : Array Bool) (j : Nat) (hj : L.getD j true = false) : ∀ n, (j < n → unl L n = unl (L.setIfInBounds j true) n + 1) ∧ (n ≤ j → unl L n = unl (L.setIfInBounds j true) n)
 | 0 => ⟨fun h => by omega, fun _ => rfl⟩
 | m + 1 => by
  obtain ⟨h1, h2⟩ := unl_set L j hj m
  have hjs : j < L.size := by
   rcases Nat.lt_or_ge j L.size with h | h
   ·exact h
   ·simp [Array.getElem?_eq_none h] at hj
  refine ⟨fun h => ?_, fun h => ?_⟩
  ·by_cases e : j = m
   ·subst e
    rw [unl, unl, h2 (Nat.le_refl _), hj]
    have : (L.setIfInBounds j true).getD j true = true := by simp [hjs]
    rw [this]; rfl
   ·rw [unl, unl, h1 (by omega), getD_set_ne true e]; omega
  ·rw [unl, unl, h2 (by omega), getD_set_ne true (by omega)]
theorem unl_zero (L : Array Bool) : ∀ n, unl L n = 0 → ∀ i, i < n → L.getD i true = true
 | 0, _, i, hi => by omega
 | m + 1, h, i, hi => by
  rw [unl] at h
  rcases Nat.lt_or_ge i m with h' | h'
  ·exact unl_zero L m (by omega) i h'
  ·rw [show i = m by omega]
   cases hL : L.getD m true with
   | true => rfl
   | false => rw [hL] at h; simp at h
theorem unl_new (k : Nat) : ∀ n, n ≤ k → unl (Array.replicate k false) n = n
 | 0, _ => rfl
 | m + 1, h => by
  rw [unl, unl_new k m (by omega)]
  simp [show m < k by omega]

/-- the listed of the head -/
def headL (ops : Array Oper) (n : Nat) : Array Bool := (Array.range ops.size).map fun i => decide (i < n)
def tailB (md : Region.Mode) (ops : Array Oper) (n : Nat) : Bool :=
 (n == ops.size || (Region.sinkB md ops n && Region.chainB md ops n)) && Region.seqB md ops (ops.size - n) n (headL ops n)

end
end Go.Proofs.YtnkepmfgmfeabaaGreatDoor

namespace Go.Proofs.YtnkepmfgmfeabaaGreatDoor
open Go Go.RowKit

/-! Regions that draw their order, by kinds with footprints: an operation may write into the blocks of what it uses up. -/
/-- the blocks of C alone, and new ones, differ -/
structure Fr (C : Nat → Prop) (w w' : World) : Prop where
 os : w'.os = w.os
 tape : w'.tape = w.tape
 output : w'.output = w.output
 size : w.heap.size ≤ w'.heap.size
 block : ∀ b, b < w.heap.size → ¬ C b → w'.heap[b]? = w.heap[b]?
theorem Fr.of_ext {C : Nat → Prop} {w w' : World} (h : Ext w w') : Fr C w w' := ⟨h.os, h.tape, h.output, h.size, fun b hb _ => h.block b hb⟩
theorem Fr.below {C : Nat → Prop} {w w' : World} (h : Fr C w w') {B : Nat} (hB : B ≤ w.heap.size) (hC : ∀ b, C b → B ≤ b) : Below B w w' :=
 ⟨h.os, h.tape, h.output, h.size, fun b hb => h.block b (by omega) fun hc => by have := hC b hc; omega⟩
/-- What is known of a value, and the blocks that it owns. -/
structure FKind where
 φ : World → Value → Prop
 fp : Value → Nat → Prop
def FKind.Stable (B : Nat) (κ : FKind) : Prop := ∀ w w' v, Below B w w' → (∀ b, κ.fp v b → w'.heap[b]? = w.heap[b]?) → κ.φ w v → κ.φ w' v
def valF (c : Value) : FKind := ⟨fun _ v => v = c, fun _ _ => False⟩
theorem valF_stable (B : Nat) (c : Value) : FKind.Stable B (valF c) := fun _ _ _ _ _ h => h
def anyF : FKind := ⟨fun _ _ => True, fun _ _ => False⟩
theorem anyF_stable (B : Nat) : FKind.Stable B anyF := fun _ _ _ _ _ h => h

/-- the outcome of operation j: C are the blocks that it may write -/
def FOut (B : Nat) (C : Nat → Prop) (κ : FKind) (w w' : World) (v : Value) : Prop :=
 Fr C w w' ∧ κ.φ w' v ∧ ∀ b, κ.fp v b → (w.heap.size ≤ b ∨ C b) ∧ b < w'.heap.size
def fkindUpon (P : Program) (B : Nat) (C : Nat → Prop) (κ : FKind) (w : World) : Result Next → Prop
 | .ok (.value u) w' => FOut B C κ w w' u
 | .ok .skip w' => FOut B C κ w w' undef
 | .ok (.enter f args) w' => Calls P f args w' (fun e w'' => ∃ v, e = .returned v ∧ FOut B C κ w w'' v)
 | _ => False
def fkindAt (P : Program) (o : Oper) (a : Act) (w : World) (B : Nat) (C : Nat → Prop) (κ : FKind) : Prop := fkindUpon P B C κ w ((execOp a.eval o).run P w)

section
variable {P : Program} {ops : Array Oper} {md : Region.Mode}
theorem wp_of_fkindAt {o : Oper} {a : Act} {w : World} {B : Nat} {C : Nat → Prop} {κ : FKind} {K : Act → World → Prop} {Q : Exit → Act → World → Prop} (h : fkindAt P o a w B C κ)
  (hK : ∀ v w', FOut B C κ w w' v → K (a.put o.dst v) w') : o.wp P a w K Q := by
 unfold fkindAt at h
 unfold Oper.wp
 generalize (execOp a.eval o).run P w = r at *
 cases r with
 | ok n w' =>
  cases n <;> simp only [fkindUpon] at h <;> simp only [Oper.upon]
  case value u => exact hK _ _ h
  case skip => exact hK _ _ h
  case enter f args => exact h.mono fun e w'' ⟨v, he, h1⟩ => by subst he; exact hK _ _ h1
 | halt x w' => simp only [fkindUpon] at h
theorem FOut.val {B : Nat} {C : Nat → Prop} {w : World} {c v : Value} (h : v = c) : FOut B C (valF c) w w v := ⟨Fr.of_ext (Ext.refl w), h, fun _ hf => hf.elim⟩
theorem FOut.valExt {B : Nat} {C : Nat → Prop} {w w' : World} {c v : Value} (he : Ext w w') (h : v = c) : FOut B C (valF c) w w' v := ⟨Fr.of_ext he, h, fun _ hf => hf.elim⟩

/-- who uses up what: cons j i: operation j uses up the value of operation i -/
def consB (md : Region.Mode) (ops : Array Oper) (n : Nat) (cons : Nat → Nat → Bool) : Bool :=
 (List.range n).all fun j => (List.range n).all fun i => !cons j i || (Region.waitsFor md ops j i && (List.range n).all fun k =>
  (k == j || (!cons k i && (match ops[k]? with
   | some ok => !depB ops ok i || Region.waitsFor md ops j k
   | none => true))))
structure ConsFacts (md : Region.Mode) (ops : Array Oper) (n : Nat) (cons : Nat → Nat → Bool) : Prop where
 wait : ∀ i j, i < n → j < n → cons j i = true → Region.waitsFor md ops j i = true
 one : ∀ i j k, i < n → j < n → k < n → cons j i = true → cons k i = true → k = j
 look : ∀ i j k ok, i < n → j < n → k < n → cons j i = true → k ≠ j → ops[k]? = some ok → depB ops ok i = true → Region.waitsFor md ops j k = true
theorem consB_facts {n : Nat} {cons : Nat → Nat → Bool} (h : consB md ops n cons = true) : ConsFacts md ops n cons := by
 have key : ∀ i j, i < n → j < n → cons j i = true → Region.waitsFor md ops j i = true ∧ ∀ k, k < n → (k = j ∨ (cons k i = false ∧ (∀ ok, ops[k]? = some ok → depB ops ok i = true → Region.waitsFor md ops j k = true))) := by
  intro i j hi hj hc
  have h1 := List.all_eq_true.1 (List.all_eq_true.1 h j (List.mem_range.2 hj)) i (List.mem_range.2 hi)
  simp only [hc, Bool.not_true, Bool.false_or, Bool.and_eq_true] at h1
  refine ⟨h1.1, fun k hk => ?_⟩
  have h2 := List.all_eq_true.1 h1.2 k (List.mem_range.2 hk)
  simp only [Bool.or_eq_true, beq_iff_eq, Bool.and_eq_true, Bool.not_eq_true'] at h2
  rcases h2 with h2 | ⟨h2, h3⟩
  ·exact .inl h2
  ·refine .inr ⟨h2, fun ok ho hd => ?_⟩
   simp only [ho, Bool.or_eq_true, Bool.not_eq_true'] at h3
   rcases h3 with h3 | h3
   ·rw [hd] at h3; cases h3
   ·exact h3
 refine ⟨fun i j hi hj hc => (key i j hi hj hc).1, fun i j k hi hj hk hc hc2 => ?_, fun i j k ok hi hj hk hc hne ho hd => ?_⟩
 ·rcases (key i j hi hj hc).2 k hk with h | h
  ·exact h
  ·rw [h.1] at hc2; cases hc2
 ·rcases (key i j hi hj hc).2 k hk with h | h
  ·exact absurd h hne
  ·exact h.2 ok ho hd

def lexPut (u : Nat → Value) : Nat → List Oper → Act → Act
 | _, [], a => a
 | k, o :: r, a => lexPut u (k + 1) r (a.put o.dst (u k))
theorem lexPut_frame (a0 : Act) (u : Nat → Value) : ∀ (l : List Oper) (k : Nat), (∀ j, j < l.length → l[j]? = ops[k + j]?) → lexFrame ops a0 u (k + l.length) = lexPut u k l (lexFrame ops a0 u k)
 | [], k, _ => rfl
 | o :: r, k, hl => by
  have h0 : ops[k]? = some o := by simpa using (hl 0 (by simp)).symm
  have := lexPut_frame a0 u r (k + 1) (fun i hi => by have := hl (i + 1) (by simp; omega); simpa [Nat.add_assoc, Nat.add_comm 1 i] using this)
  rw [List.length_cons, lexPut, ← dstOf_some h0]
  rw [show k + (r.length + 1) = k + 1 + r.length by omega, this]
  rfl
theorem fk_run {o : Oper} {a : Act} {w : World} {B : Nat} {C : Nat → Prop} {c : Value} (h : (execOp a.eval o).run P w = .ok (.value c) w) : fkindAt P o a w B C (valF c) := by
 unfold fkindAt
 rw [h]
 exact (FOut.val (B := B) (C := C) (w := w) (c := c) (v := c) rfl : FOut B C (valF c) w w c)
end
end Go.Proofs.YtnkepmfgmfeabaaGreatDoor

namespace Go.Proofs.YtnkepmfgmfeabaaGreatDoor
open Go Go.RowKit

/-! The same law, each operation asked over a frame that is a letter. -/
section
variable {P : Program} {ops : Array Oper} {md : Region.Mode}
/-- what lies in a slot behind the region's operations: what the one operation that writes it has yielded, or what lay there before -/
def slotV (ops : Array Oper) (n : Nat) (a0 : Act) (u : Nat → Value) (t : Tmp) : Value :=
 match (List.range n).find? (fun i => dstOf ops i == some t) with
 | some i => u i
 | none => a0.eval (.tmp t)
def Guarded (o : Oper) (u : Nat → Value) (A S : Prop) : Prop := match o.guard with
 | none => A
 | some (g, want) => (u g = .bool want ∧ A) ∨ (u g = .bool (!want) ∧ S)
def roomB (ops : Array Oper) (n k : Nat) : Bool := (List.range n).all fun i => (match dstOf ops i with
 | some d => decide ((d : Nat) < k)
 | none => true) && (match ops[i]? with
 | some o => (match o.guard with
  | some (g, _) => decide (g < n) && (dstOf ops g).isSome
  | none => true)
 | none => true)
theorem evalAt {a : Act} {t : Nat} {v : Value} (h : a.tmps[t]? = some v) : a.eval (.tmp t) = v := by
 simp [Act.eval, h]
theorem evalT {a : Act} {t : Nat} {v : Value} (h : a.eval (.tmp t) = v) : a.tmps[t]?.getD undef = v := by
 rw [← h]; simp [Act.eval]
theorem slotV_at {n : Nat} (hF : KindFacts md ops n) {a0 : Act} (hr : roomB ops n a0.tmps.size = true) (u : Nat → Value) (j : Nat) (hj : j < n) (o : Oper) (ho : ops[j]? = some o) (t : Tmp) (ht : t ∈ o.looksAt ops) :
  (lexFrame ops a0 u j).tmps[t]? = (if ∃ i, i < n ∧ dstOf ops i = some t then some (slotV ops n a0 u t) else a0.tmps[t]?) ∧ (¬ (∃ i, i < n ∧ dstOf ops i = some t) → slotV ops n a0 u t = a0.eval (.tmp t)) := by
 have hlex := lexFrame_at hF a0 u j (by omega)
 by_cases hx : ∃ i, i < n ∧ dstOf ops i = some t
 ·refine ⟨?_, fun h => absurd hx h⟩
  rw [if_pos hx]
  obtain ⟨i, hi, hid⟩ := hx
  have h1 := hF.look i j hi hj t o hid ho ht
  have hs : slotV ops n a0 u t = u i := by
   unfold slotV
   cases hfi : (List.range n).find? (fun i => dstOf ops i == some t) with
   | none =>
    have := List.find?_eq_none.1 hfi i (List.mem_range.2 hi)
    simp [hid] at this
   | some i' =>
    have h2 := List.find?_some hfi
    have h3 := List.mem_range.1 (List.mem_of_find?_eq_some hfi)
    have h4 : dstOf ops i' = some t := by simpa using h2
    by_cases e : i' = i
    ·rw [e]
    ·exact absurd hid (hF.apart i' i h3 hi e t h4)
  rw [hlex.new i t h1.1 hid, hs]
  have hrm := List.all_eq_true.1 hr i (List.mem_range.2 hi)
  simp only [hid, Bool.and_eq_true, decide_eq_true_eq] at hrm
  rw [Array.getElem?_eq_getElem (show @LT.lt Nat _ t a0.tmps.size from hrm.1)]
  rfl
 ·refine ⟨?_, fun _ => ?_⟩
  ·rw [if_neg hx]
   exact hlex.old t fun i hi hid => hx ⟨i, by omega, hid⟩
  ·unfold slotV
   cases hfi : (List.range n).find? (fun i => dstOf ops i == some t) with
   | none => rfl
   | some i' =>
    have h2 := List.find?_some hfi
    have h3 := List.mem_range.1 (List.mem_of_find?_eq_some hfi)
    exact absurd ⟨i', h3, by simpa using h2⟩ hx
theorem fk_enter {o : Oper} {a : Act} {w : World} {B : Nat} {C : Nat → Prop} {κ : FKind} {f : FuncId} {args : Array Value} (h : (execOp a.eval o).run P w = .ok (.enter f args) w)
  (hc : Calls P f args w (fun e w'' => ∃ v, e = .returned v ∧ FOut B C κ w w'' v)) : fkindAt P o a w B C κ := by
 unfold fkindAt
 rw [h]
 exact hc
theorem fk_step {o : Oper} {a : Act} {w w' : World} {B : Nat} {C : Nat → Prop} {κ : FKind} {v : Value} (h : (execOp a.eval o).run P w = .ok (.value v) w')
  (hc : FOut B C κ w w' v) : fkindAt P o a w B C κ := by
 unfold fkindAt
 rw [h]
 exact hc
end
end Go.Proofs.YtnkepmfgmfeabaaGreatDoor

namespace Go.Proofs.YtnkepmfgmfeabaaGreatDoor
open Go Go.RowKit

/-! Kinds with reserves: operation j may yield, and write, the old blocks Res j; a tail behind the head. -/
section
variable {P : Program} {ops : Array Oper} {md : Region.Mode}
structure ResFacts (n B : Nat) (w0 : World) (Res : Nat → Nat → Prop) : Prop where
 old : ∀ j b, j < n → Res j b → B ≤ b ∧ b < w0.heap.size
 one : ∀ i j b, i < n → j < n → Res i b → Res j b → i = j
/-- a kind that abides where nothing old is written -/
def FKind.Grows (κ : FKind) : Prop := ∀ w w' v, Ext w w' → κ.φ w v → κ.φ w' v
def Idle (cons : Nat → Nat → Bool) (Res : Nat → Nat → Prop) : Prop := (∀ i j, cons j i = false) ∧ ∀ j b, ¬ Res j b
def KStable (B : Nat) (cons : Nat → Nat → Bool) (Res : Nat → Nat → Prop) (κ : FKind) : Prop := κ.Stable B ∨ (κ.Grows ∧ Idle cons Res)
def AllKStable (B : Nat) (cons : Nat → Nat → Bool) (Res : Nat → Nat → Prop) : List FKind → Prop
 | [] => True
 | κ :: r => KStable B cons Res κ ∧ AllKStable B cons Res r
theorem AllKStable.at {B : Nat} {cons : Nat → Nat → Bool} {Res : Nat → Nat → Prop} : ∀ {ks : List FKind}, AllKStable B cons Res ks → ∀ i, KStable B cons Res (ks.getD i anyF)
 | [], _, i => by simp; exact .inl (anyF_stable B)
 | κ :: r, h, 0 => h.1
 | κ :: r, h, i + 1 => by simpa using AllKStable.at h.2 i
def depOn (ops : Array Oper) (i k : Nat) : Bool := match ops[i]? with
 | some o => depB ops o k
 | none => false
/-- What is asked of operation number j. -/
def RKindOp (md : Region.Mode) (P : Program) (ops : Array Oper) (n : Nat) (B : Nat) (w0 : World) (κ : Nat → (Nat → Value) → FKind) (cons : Nat → Nat → Bool) (Res : Nat → Nat → Prop) (A : (Nat → Value) → Act) (j : Nat) (o : Oper) : Prop :=
 ∀ (u : Nat → Value) (w : World), Below B w0 w → B ≤ w.heap.size → (∀ i, i < n → depB ops o i = true → (κ i u).φ w (u i)) → (∀ k b, k < n → (k = j ∨ Region.waitsFor md ops k j = true) → Res k b → w.heap[b]? = w0.heap[b]?) →
  if Region.wanted o (yielded ops (A u).tmps) then fkindAt P o (A u) w B (fun b => (∃ i, i < n ∧ cons j i = true ∧ (κ i u).fp (u i) b) ∨ Res j b) (κ j u) else (κ j u).φ w undef ∧ ∀ b, ¬ (κ j u).fp undef b

theorem rkinds_any {n : Nat} {κ : Nat → (Nat → Value) → FKind} {cons : Nat → Nat → Bool} {Res : Nat → Nat → Prop} {a0 : Act} {B : Nat} {w0 : World} {Q : Exit → Act → World → Prop} (hR : ResFacts n B w0 Res) (hF : KindFacts md ops n) (hCo : ConsFacts md ops n cons) (hT : tailB md ops n = true)
  (hst : ∀ i u, i < n → KStable B cons Res (κ i u)) (hcg : ∀ i u u2, i < n → (∀ k, k < n → depOn ops i k = true → u k = u2 k) → κ i u = κ i u2)
  (hops : ∀ j o, j < n → ops[j]? = some o → RKindOp md P ops n B w0 κ cons Res (fun u => lexFrame ops a0 u j) j o)
  (hend : ∀ (u : Nat → Value) (w : World), Below B w0 w → (∀ b, b < w0.heap.size → (∀ j, j < n → ¬ Res j b) → w.heap[b]? = w0.heap[b]?) → (∀ i, i < n → (∀ j, j < n → cons j i = false) → (κ i u).φ w (u i)) → wpAny P md ops Q (ops.size - n) (headL ops n) (lexFrame ops a0 u n) w) :
  ∀ (m : Nat) (L : Array Bool) (u : Nat → Value) (a : Act) (w : World), unl L n = m → HeadInv md ops n L → FrameAt ops a0 u (fun i => i < n ∧ L.getD i false = true) a →
   Below B w0 w → B ≤ w.heap.size →
   (∀ i, i < n → L.getD i false = true → (∀ j, j < n → L.getD j false = true → cons j i = false) → (κ i u).φ w (u i) ∧ ∀ b, (κ i u).fp (u i) b → B ≤ b ∧ b < w.heap.size) →
   (∀ i k, i < n → k < n → i ≠ k → L.getD i false = true → L.getD k false = true → (∀ j, j < n → L.getD j false = true → cons j i = false) → (∀ j, j < n → L.getD j false = true → cons j k = false) → ∀ b, (κ i u).fp (u i) b → ¬ (κ k u).fp (u k) b) →
   (∀ j b, j < n → L.getD j false = false → Res j b → w.heap[b]? = w0.heap[b]?) →
   (∀ i j, i < n → j < n → L.getD i false = true → L.getD j false = false → (∀ k, k < n → L.getD k false = true → cons k i = false) → ∀ b, (κ i u).fp (u i) b → ¬ Res j b) →
   (∀ i, i < n → L.getD i false = true → (∀ k, k < n → L.getD k false = true → cons k i = false) → ∀ b, (κ i u).fp (u i) b → b < w0.heap.size → ∃ j, j < n ∧ Res j b) →
   (∀ b, b < w0.heap.size → (∀ j, j < n → ¬ Res j b) → w.heap[b]? = w0.heap[b]?) →
   wpAny P md ops Q (m + (ops.size - n)) L a w := by
 simp only [tailB, Bool.and_eq_true, Bool.or_eq_true, beq_iff_eq] at hT
 obtain ⟨hT1, hT2⟩ := hT
 intro m
 induction m with
 | zero =>
  intro L u a w hm inv hf hw hBw hφ hdis hru hrd hro hkp
  have hall := unl_zero L n hm
  have hle := hF.le
  have hL : L = headL ops n := by
   apply Array.ext
   ·rw [inv.size]; simp [headL]
   ·intro i h1 h2
    by_cases hin : i < n
    ·have := hall i hin
     simp [h1] at this
     simp [headL, hin, this]
    ·have := inv.tail i (by omega) (by rw [← inv.size]; exact h1)
     simp [h1] at this
     simp [headL, hin, this]
  have ht : ∀ i, i < n → L.getD i false = true := fun i hi => by
   have h1 := hall i hi
   have : i < L.size := by rw [inv.size]; omega
   simp [this] at h1 ⊢
   exact h1
  have ha : a = lexFrame ops a0 u n := hf.eq (lexFrame_at hF a0 u n (Nat.le_refl _)) fun i => ⟨fun h => h.1, fun h => ⟨h, ht i h⟩⟩
  rw [Nat.zero_add, ha, hL]
  exact hend u w hw hkp fun i hi hc => (hφ i hi (ht i hi) fun j hj _ => hc j hj).1
 | succ m ih =>
  intro L u a w hm inv hf hw hBw hφ hdis hru hrd hro hkp
  have hle := hF.le
  obtain ⟨i0, hi0, hu0, hlow⟩ : ∃ i, i < n ∧ L.getD i true = false ∧ ∀ k, k < i → L.getD k true = true := by
   rcases listed_count n L n (Nat.le_refl _) with h | h
   ·exfalso
    have : ∀ k, k ≤ n → unl L k = 0 := by
     intro k
     induction k with
     | zero => intro _; rfl
     | succ k ihk => intro hk; rw [unl, ihk (by omega), h k (by omega)]; rfl
    rw [this n (Nat.le_refl _)] at hm
    omega
   ·exact h
  have hready : i0 ∈ Region.ready md ops L := by
   have ho : ops[i0]? = some ops[i0] := Array.getElem?_eq_getElem (by omega)
   refine mem_ready.2 ⟨hu0, _, ho, fun e he hb => ?_⟩
   have h1 := hF.edge i0 _ hi0 ho e he hb
   have h2 := hlow e.on h1
   have : e.on < L.size := by rw [inv.size]; omega
   simp [this] at h2 ⊢
   exact h2
  rw [show m + 1 + (ops.size - n) = (m + (ops.size - n)) + 1 by omega]
  refine ⟨fun h0 => (by rw [h0] at hready; cases hready), fun j hj => ?_⟩
  have hjn : j < n := by
   obtain ⟨_, oj, hoj, _⟩ := mem_ready.1 hj
   have hjs := (Array.getElem?_eq_some_iff.1 hoj).1
   rcases hT1 with h | h
   ·omega
   ·rcases Nat.lt_or_ge j n with h' | h'
    ·exact h'
    ·exact absurd hj (tail_waits h.1 h.2 (by omega) inv _ i0 rfl hi0 hu0 j h')
  obtain ⟨hjun, oj, hoj, hall⟩ := mem_ready.1 hj
  have hj0 : ¬ L.getD j false = true := by rw [getD_both hjun]; simp
  have hwait : ∀ i, Region.waitsFor md ops j i = true → L.getD i false = true := fun i hi => by
   obtain ⟨o', ho', e, he, hb, hon⟩ := Region.waitsFor_spec hi
   have : o' = oj := Option.some.inj (ho'.symm.trans hoj)
   subst this
   rw [← hon]
   exact hall e he hb
  have hclosed : ∀ k i, L.getD k false = true → Region.waitsFor md ops k i = true → L.getD i false = true := fun k i hk hi => by
   obtain ⟨o', ho', e, he, hb, hon⟩ := Region.waitsFor_spec hi
   rw [← hon]
   exact inv.closed k o' ho' hk e he hb
  have hlex := lexFrame_at hF a0 u j (by omega)
  have hsame : ∀ d, d ∈ oj.looksAt ops → a.tmps[d]? = (lexFrame ops a0 u j).tmps[d]? := fun d hd => by
   by_cases hx : ∃ i, i < n ∧ dstOf ops i = some d
   ·obtain ⟨i, hi, hid⟩ := hx
    have h1 := hF.look i j hi hjn d oj hid hoj hd
    have h2 := hwait i h1.2
    rw [hf.new i d ⟨hi, h2⟩ hid, hlex.new i d h1.1 hid]
   ·rw [hf.old d fun i hi hid => hx ⟨i, hi.1, hid⟩, hlex.old d fun i hi hid => hx ⟨i, by omega, hid⟩]
  have hsel := Region.noSelect_spec hF.sel j
  have hex : execOp a.eval oj = execOp (lexFrame ops a0 u j).eval oj := exec_congr (ops := ops) (fun cs b => hsel oj cs b hoj) hsame
  have hwa : Region.wanted oj (yielded ops a.tmps) = Region.wanted oj (yielded ops (lexFrame ops a0 u j).tmps) := wanted_congr hsame
  have hlive : ∀ i, i < n → depB ops oj i = true → ∀ k, k < n → L.getD k false = true → cons k i = false := fun i hi hd k hk hLk => by
   cases hc : cons k i with
   | false => rfl
   | true =>
    exfalso
    by_cases e : j = k
    ·subst e; exact hj0 hLk
    ·exact hj0 (hclosed k j hLk (hCo.look i k j oj hi hk hjn hc e hoj hd))
  have hop := hops j oj hjn hoj u w hw hBw fun i hi hd => by
   have hdep : ∃ d, dstOf ops i = some d ∧ d ∈ oj.looksAt ops := by
    have hd' := hd
    unfold depB at hd'
    split at hd'
    ·rename_i d hd''
     exact ⟨d, hd'', by simpa using hd'⟩
    ·cases hd'
   obtain ⟨d, hd1, hd2⟩ := hdep
   exact (hφ i hi (hwait i (hF.look i j hi hjn d oj hd1 hoj hd2).2) (hlive i hi hd)).1
  have hop := hop (fun k b hk hor hb => hru k b hk (by
   rcases hor with rfl | h
   ·exact getD_both hjun
   ·cases hLk : L.getD k false with
    | false => rfl
    | true => exact absurd (hclosed k j hLk h) hj0) hb)
  have hcl : ∀ i, i < n → cons j i = true → L.getD i false = true ∧ ∀ k, k < n → L.getD k false = true → cons k i = false := fun i hi hc => by
   refine ⟨hwait i (hCo.wait i j hi hjn hc), fun k hk hLk => ?_⟩
   cases hck : cons k i with
   | false => rfl
   | true => have := hCo.one i j k hi hjn hk hc hck; subst this; exact absurd hLk hj0
  have hnext : ∀ v w', FOut B (fun b => (∃ i, i < n ∧ cons j i = true ∧ (κ i u).fp (u i) b) ∨ Res j b) (κ j u) w w' v → wpAny P md ops Q (m + (ops.size - n)) (L.setIfInBounds j true) (a.put oj.dst v) w' := fun v w' hv => by
   obtain ⟨hfr, hvφ, hvf⟩ := hv
   have hu' := unl_set L j hjun n
   have hjf : L.getD j false = false := getD_both hjun
   have hCB : ∀ b, ((∃ i, i < n ∧ cons j i = true ∧ (κ i u).fp (u i) b) ∨ Res j b) → B ≤ b := fun b h => by
    rcases h with ⟨i, hi, hc, hf⟩ | h
    ·have h1 := hcl i hi hc
     exact ((hφ i hi h1.1 h1.2).2 b hf).1
    ·exact (hR.old j b hjn h).1
   have hbel : Below B w w' := hfr.below hBw hCB
   have hLne : ∀ i, i ≠ j → (L.setIfInBounds j true).getD i false = L.getD i false := fun i hne => getD_set_ne false (Ne.symm hne)
   have hjs : j < L.size := by rw [inv.size]; omega
   have hLj : (L.setIfInBounds j true).getD j false = true := by simp [hjs]
   have hold : ∀ i, i < n → i ≠ j → (L.setIfInBounds j true).getD i false = true → (∀ k, k < n → (L.setIfInBounds j true).getD k false = true → cons k i = false) →
     L.getD i false = true ∧ (∀ k, k < n → L.getD k false = true → cons k i = false) ∧ cons j i = false := fun i hi hne hLi hc => by
    refine ⟨by rw [← hLne i hne]; exact hLi, fun k hk hLk => hc k hk ?_, hc j hjn hLj⟩
    by_cases e : k = j
    ·subst e; exact hLj
    ·rw [hLne k e]; exact hLk
   have hup : ∀ i, i < n → (L.setIfInBounds j true).getD i false = true → κ i (upd u j v) = κ i u := fun i hi hLi => by
    refine hcg i _ _ hi fun k hk hd => ?_
    refine upd_ne u v fun e => ?_
    subst e
    unfold depOn at hd
    cases ho : ops[i]? with
    | none => rw [ho] at hd; cases hd
    | some oi =>
     rw [ho] at hd
     have hdep : ∃ d, dstOf ops k = some d ∧ d ∈ oi.looksAt ops := by
      have hd' : depB ops oi k = true := hd
      unfold depB at hd'
      split at hd'
      ·rename_i d hd''
       exact ⟨d, hd'', by simpa using hd'⟩
      ·cases hd'
     obtain ⟨d, hd1, hd2⟩ := hdep
     have hwt := (hF.look k i hk hi d oi hd1 ho hd2).2
     by_cases e : i = k
     ·subst e
      exact hj0 (hwait i hwt)
     ·rw [hLne i e] at hLi
      exact hj0 (hclosed i k hLi hwt)
   refine ih (L.setIfInBounds j true) (upd u j v) (a.put oj.dst v) w' (by have := hu'.1 hjn; omega) (inv.set hj hjn) ?_ (hw.trans hbel) (Nat.le_trans hBw hfr.size) (fun i hi hLi hc => ?_) (fun i k hi hk hik hLi hLk hci hck b hbi hbk => ?_) (fun k b hk hLk hb => ?_) (fun i k hi hk hLi hLk hci b hbi hbk => ?_) (fun i hi hLi hci b hbi hlt => ?_) (fun b hlt hno => ?_)
   ·have h1 : FrameAt ops a0 (upd u j v) (fun i => i < n ∧ L.getD i false = true) a := hf.congr fun i hi => by
     rw [upd_ne u v fun e => hj0 (by rw [← e]; exact hi.2)]
    have h2 := h1.put (T := fun i => i < n ∧ (L.setIfInBounds j true).getD i false = true) j (fun i hi d hd => fun e => hF.apart i j hi.1 hjn (fun e' => hj0 (by rw [← e']; exact hi.2)) d e hd) (fun i => by
     by_cases e : j = i
     ·subst e
      simp [hjs, hjn]
     ·rw [getD_set_ne false e]
      constructor
      ·exact fun h => .inl h
      ·rintro (h | h)
       ·exact h
       ·exact absurd h.symm e)
    rw [upd_same, dstOf_some hoj] at h2
    exact h2
   ·rw [hup i hi hLi]
    by_cases e : i = j
    ·subst e
     rw [upd_same]
     refine ⟨hvφ, fun b hb => ⟨?_, (hvf b hb).2⟩⟩
     rcases (hvf b hb).1 with h | h
     ·omega
     ·exact hCB b h
    ·rw [upd_ne u v e]
     obtain ⟨h1, h2, h3⟩ := hold i hi e hLi hc
     have h4 := hφ i hi h1 h2
     refine ⟨?_, fun b hb => ⟨(h4.2 b hb).1, Nat.lt_of_lt_of_le (h4.2 b hb).2 hfr.size⟩⟩
     rcases hst i u hi with hst | ⟨hst, hidle⟩
     rotate_left
     ·exact hst w w' _ ⟨hfr.os, hfr.tape, hfr.output, hfr.size, fun b hb => hfr.block b hb fun hC => hC.elim (fun ⟨i', _, hc', _⟩ => by rw [hidle.1] at hc'; cases hc') (hidle.2 j b)⟩ h4.1
     refine hst w w' _ hbel (fun b hb => ?_) h4.1
     refine hfr.block b (h4.2 b hb).2 fun hC => ?_
     rcases hC with ⟨i', hi', hc', hf'⟩ | hC
     rotate_left
     ·exact hrd i j hi hjn h1 hjf h2 b hb hC
     have h5 := hcl i' hi' hc'
     exact hdis i i' hi hi' (fun e => by subst e; rw [h3] at hc'; cases hc') h1 h5.1 h2 h5.2 b hb hf'
   ·rw [hup i hi hLi] at hbi
    rw [hup k hk hLk] at hbk
    by_cases ei : i = j
    ·subst ei
     have ek : k ≠ i := Ne.symm hik
     rw [upd_same] at hbi
     rw [upd_ne u v ek] at hbk
     obtain ⟨h1, h2, h3⟩ := hold k hk ek hLk hck
     have h4 := hφ k hk h1 h2
     rcases (hvf b hbi).1 with h | ⟨i', hi', hc', hf'⟩ | h
     ·have := (h4.2 b hbk).2; omega
     rotate_left
     ·exact hrd k i hk hjn h1 hjf h2 b hbk h
     ·have h5 := hcl i' hi' hc'
      exact hdis i' k hi' hk (fun e => by subst e; rw [h3] at hc'; cases hc') h5.1 h1 h5.2 h2 b hf' hbk
    ·by_cases ek : k = j
     ·subst ek
      rw [upd_same] at hbk
      rw [upd_ne u v ei] at hbi
      obtain ⟨h1, h2, h3⟩ := hold i hi ei hLi hci
      have h4 := hφ i hi h1 h2
      rcases (hvf b hbk).1 with h | ⟨i', hi', hc', hf'⟩ | h
      ·have := (h4.2 b hbi).2; omega
      rotate_left
      ·exact hrd i k hi hjn h1 hjf h2 b hbi h
      ·have h5 := hcl i' hi' hc'
       exact hdis i' i hi' hi (fun e => by subst e; rw [h3] at hc'; cases hc') h5.1 h1 h5.2 h2 b hf' hbi
     ·rw [upd_ne u v ei] at hbi
      rw [upd_ne u v ek] at hbk
      obtain ⟨h1, h2, _⟩ := hold i hi ei hLi hci
      obtain ⟨h3, h4, _⟩ := hold k hk ek hLk hck
      exact hdis i k hi hk hik h1 h3 h2 h4 b hbi hbk
   ·have hkj : k ≠ j := fun e => by subst e; rw [hLj] at hLk; cases hLk
    rw [hLne k hkj] at hLk
    have h1 := hru k b hk hLk hb
    have h2 := hR.old k b hk hb
    refine (hfr.block b (Nat.lt_of_lt_of_le h2.2 hw.size) fun hC => ?_).trans h1
    rcases hC with ⟨i', hi', hc', hf'⟩ | hC
    ·have h5 := hcl i' hi' hc'
     exact hrd i' k hi' hk h5.1 hLk h5.2 b hf' hb
    ·exact hkj (hR.one k j b hk hjn hb hC)
   ·have hkj : k ≠ j := fun e => by subst e; rw [hLj] at hLk; cases hLk
    rw [hLne k hkj] at hLk
    have h2 := hR.old k b hk hbk
    rw [hup i hi hLi] at hbi
    by_cases ei : i = j
    ·subst ei
     rw [upd_same] at hbi
     rcases (hvf b hbi).1 with h | ⟨i', hi', hc', hf'⟩ | h
     ·have := hw.size; omega
     ·have h5 := hcl i' hi' hc'
      exact hrd i' k hi' hk h5.1 hLk h5.2 b hf' hbk
     ·exact hkj (hR.one k i b hk hjn hbk h)
    ·rw [upd_ne u v ei] at hbi
     obtain ⟨h1, h3, _⟩ := hold i hi ei hLi hci
     exact hrd i k hi hk h1 hLk h3 b hbi hbk
   ·rw [hup i hi hLi] at hbi
    by_cases ei : i = j
    ·subst ei
     rw [upd_same] at hbi
     rcases (hvf b hbi).1 with h | ⟨i', hi', hc', hf'⟩ | h
     ·have := hw.size; omega
     ·have h5 := hcl i' hi' hc'
      exact hro i' hi' h5.1 h5.2 b hf' hlt
     ·exact ⟨i, hjn, h⟩
    ·rw [upd_ne u v ei] at hbi
     obtain ⟨h1, h3, _⟩ := hold i hi ei hLi hci
     exact hro i hi h1 h3 b hbi hlt
   ·refine (hfr.block b (Nat.lt_of_lt_of_le hlt hw.size) fun hC => ?_).trans (hkp b hlt hno)
    rcases hC with ⟨i', hi', hc', hf'⟩ | hC
    ·have h5 := hcl i' hi' hc'
     obtain ⟨k, hk, hr⟩ := hro i' hi' h5.1 h5.2 b hf' hlt
     exact hno k hk hr
    ·exact hno j hjn hC
  show wpOp P ops Q j _ a w
  unfold wpOp
  rw [hoj]
  simp only
  rw [hwa]
  split
  ·rename_i hwt
   rw [if_pos hwt] at hop
   left
   refine wp_of_fkindAt (κ := κ j u) ?_ fun v w' h1 => hnext v w' h1
   unfold fkindAt at hop ⊢
   rw [hex]
   exact hop
  ·rename_i hwt
   rw [if_neg hwt] at hop
   exact hnext undef w ⟨Fr.of_ext (Ext.refl w), hop.1, fun b hb => absurd hb (hop.2 b)⟩
def RKOp (md : Region.Mode) (P : Program) (ops : Array Oper) (n : Nat) (B : Nat) (w0 : World) (a0 : Act) (κ : Nat → (Nat → Value) → FKind) (cons : Nat → Nat → Bool) (Res : Nat → Nat → Prop) (j : Nat) (o : Oper) : Prop :=
 ∀ (u : Nat → Value) (w : World) (a : Act), Below B w0 w → B ≤ w.heap.size → (∀ i, i < n → depB ops o i = true → (κ i u).φ w (u i)) →
  (∀ t, (o.looksAt ops).contains t = true → a.eval (.tmp t) = slotV ops n a0 u t) → (∀ k b, k < n → (k = j ∨ Region.waitsFor md ops k j = true) → Res k b → w.heap[b]? = w0.heap[b]?) →
  Guarded o u (fkindAt P o a w B (fun b => (∃ i, i < n ∧ cons j i = true ∧ (κ i u).fp (u i) b) ∨ Res j b) (κ j u)) ((κ j u).φ w undef ∧ ∀ b, ¬ (κ j u).fp undef b)
theorem rkindOp_of {n B : Nat} {w0 : World} {κ : Nat → (Nat → Value) → FKind} {cons : Nat → Nat → Bool} {Res : Nat → Nat → Prop} {a0 : Act} (hF : KindFacts md ops n) (hr : roomB ops n a0.tmps.size = true) {j : Nat} {o : Oper} (hj : j < n) (ho : ops[j]? = some o)
  (h : RKOp md P ops n B w0 a0 κ cons Res j o) : RKindOp md P ops n B w0 κ cons Res (fun u => lexFrame ops a0 u j) j o := by
 intro u w hw hB hd hrs
 have hv : ∀ t, (o.looksAt ops).contains t = true → (lexFrame ops a0 u j).eval (.tmp t) = slotV ops n a0 u t := fun t ht => by
  have ht' : t ∈ o.looksAt ops := by simpa using ht
  obtain ⟨h1, h2⟩ := slotV_at hF hr u j hj o ho t ht'
  by_cases hx : ∃ i, i < n ∧ dstOf ops i = some t
  ·rw [if_pos hx] at h1
   exact evalAt h1
  ·rw [if_neg hx] at h1
   rw [h2 hx]
   simp only [Act.eval, Array.getD_eq_getD_getElem?, h1]
 have hg := h u w (lexFrame ops a0 u j) hw hB hd hv hrs
 unfold Guarded at hg
 show if Region.wanted o (yielded ops (lexFrame ops a0 u j).tmps) then _ else _
 cases hgu : o.guard with
 | none =>
  rw [hgu] at hg
  have : Region.wanted o (yielded ops (lexFrame ops a0 u j).tmps) = true := by unfold Region.wanted; rw [hgu]
  rw [if_pos this]
  exact hg
 | some gw =>
  obtain ⟨g, want⟩ := gw
  rw [hgu] at hg
  simp only at hg
  have hrm := List.all_eq_true.1 hr j (List.mem_range.2 hj)
  simp only [ho, hgu, Bool.and_eq_true, decide_eq_true_eq] at hrm
  obtain ⟨_, hgn, hgd⟩ := hrm
  obtain ⟨d, hd'⟩ := Option.isSome_iff_exists.1 hgd
  have hdl : d ∈ o.looksAt ops := by
   unfold Oper.looksAt
   rw [hgu]
   exact List.mem_append_right _ (by have e : (ops[g]?).bind (·.dst) = some d := hd'; simp [e])
  have h1 := (slotV_at hF hr u j hj o ho d hdl).1
  rw [if_pos ⟨g, hgn, hd'⟩] at h1
  have hs : slotV ops n a0 u d = u g := by
   unfold slotV
   cases hfi : (List.range n).find? (fun i => dstOf ops i == some d) with
   | none =>
    have := List.find?_eq_none.1 hfi g (List.mem_range.2 hgn)
    simp [hd'] at this
   | some i' =>
    have h2 := List.find?_some hfi
    have h3 := List.mem_range.1 (List.mem_of_find?_eq_some hfi)
    have h4 : dstOf ops i' = some d := by simpa using h2
    by_cases e : i' = g
    ·rw [e]
    ·exact absurd hd' (hF.apart i' g h3 hgn e d h4)
  rw [hs] at h1
  have hy : ∀ b, u g = .bool b → yielded ops (lexFrame ops a0 u j).tmps g = some b := fun b hb => by
   unfold yielded
   have e : (ops[g]?).bind (·.dst) = some d := hd'
   rw [e]
   simp only [Option.bind_some, h1, hb]
  rcases hg with ⟨hb, hA⟩ | ⟨hb, hS⟩
  ·have : Region.wanted o (yielded ops (lexFrame ops a0 u j).tmps) = true := by unfold Region.wanted; rw [hgu]; simp only [hy _ hb]; simp
   rw [if_pos this]
   exact hA
  ·have : Region.wanted o (yielded ops (lexFrame ops a0 u j).tmps) = false := by unfold Region.wanted; rw [hgu]; simp only [hy _ hb]; cases want <;> rfl
   rw [if_neg (by rw [this]; decide)]
   exact hS
/-- The asks of all operations, one below another. -/
def RKOps (md : Region.Mode) (P : Program) (ops : Array Oper) (n : Nat) (B : Nat) (w0 : World) (a0 : Act) (κ : Nat → (Nat → Value) → FKind) (cons : Nat → Nat → Bool) (Res : Nat → Nat → Prop) : Nat → List Oper → Prop
 | _, [] => True
 | j, o :: rest => RKOp md P ops n B w0 a0 κ cons Res j o ∧ RKOps md P ops n B w0 a0 κ cons Res (j + 1) rest
theorem rkOps_at {n B : Nat} {w0 : World} {κ : Nat → (Nat → Value) → FKind} {cons : Nat → Nat → Bool} {Res : Nat → Nat → Prop} {a0 : Act} : ∀ (l : List Oper) (k : Nat), (∀ j, j < l.length → l[j]? = ops[k + j]?) → RKOps md P ops n B w0 a0 κ cons Res k l →
  ∀ j o, j < l.length → ops[k + j]? = some o → RKOp md P ops n B w0 a0 κ cons Res (k + j) o
 | [], k, _, _, j, o, hj, _ => by simp at hj
 | x :: r, k, hl, h, j, o, hj, ho => by
  have h0 : ops[k]? = some x := by simpa using (hl 0 (by simp)).symm
  cases j with
  | zero =>
   have : x = o := Option.some.inj (h0.symm.trans ho)
   subst this
   exact h.1
  | succ j =>
   have := rkOps_at (n := n) (B := B) (w0 := w0) (κ := κ) (cons := cons) (Res := Res) (a0 := a0) r (k + 1) (fun i hi => by have := hl (i + 1) (by simp; omega); simpa [Nat.add_assoc, Nat.add_comm 1 i] using this) h.2 j o (by simp at hj; omega) (by rw [← ho]; congr 1; omega)
   rw [show k + (j + 1) = k + 1 + j by omega]
   exact this

theorem any_res {Q : Exit → Act → World → Prop} {a : Act} {w : World} {l : List Oper} (n B : Nat) (κ : Nat → (Nat → Value) → FKind) (cons : Nat → Nat → Bool) (Res : Nat → Nat → Prop)
  (hB : kindB .any l.toArray n = true) (hT : tailB .any l.toArray n = true) (hC : consB .any l.toArray n cons = true) (hR : roomB l.toArray n a.tmps.size = true) (hBw : B ≤ w.heap.size) (hst : ∀ i u, i < n → KStable B cons Res (κ i u)) (hcg : ∀ i u u2, i < n → (∀ k, k < n → depOn l.toArray i k = true → u k = u2 k) → κ i u = κ i u2) (hRes : ResFacts n B w Res)
  (hops : RKOps .any P l.toArray n B w.drew a κ cons Res 0 (l.take n))
  (hend : ∀ (u : Nat → Value) (w' : World), Below B w.drew w' → (∀ b, b < w.heap.size → (∀ j, j < n → ¬ Res j b) → w'.heap[b]? = w.heap[b]?) → (∀ i, i < n → (∀ j, j < n → cons j i = false) → (κ i u).φ w' (u i)) → wpList P l.toArray Q (l.drop n) (lexPut u 0 (l.take n) a) w') :
  wpAny P .any l.toArray Q l.toArray.size (Array.replicate l.toArray.size false) a w.drew := by
 have hF := kindB_facts hB
 have hle : n ≤ l.length := by have := hF.le; simpa using this
 have h0 : unl (Array.replicate l.toArray.size false) n = n := unl_new _ n hF.le
 have hRes' : ResFacts n B w.drew Res := ⟨hRes.old, hRes.one⟩
 have h1 := rkinds_any (P := P) (md := .any) (Q := Q) (a0 := a) (B := B) (w0 := w.drew) (κ := κ) (cons := cons) (Res := Res) hRes' hF (consB_facts hC) hT hst hcg (fun j o hj ho => by
   have := rkOps_at (P := P) (ops := l.toArray) (n := n) (B := B) (w0 := w.drew) (κ := κ) (cons := cons) (Res := Res) (a0 := a) (l.take n) 0 (fun i hi => by
    have : i < n := by rw [List.length_take] at hi; omega
    simp [List.getElem?_take_of_lt this]) hops j o (by rw [List.length_take]; omega) (by rw [Nat.zero_add]; exact ho)
   rw [Nat.zero_add] at this
   exact rkindOp_of hF hR hj ho this)
  (fun u w' hw hkp hφ => by
   have hT' := hT
   simp only [tailB, Bool.and_eq_true] at hT'
   have := wpAny_of_seq (P := P) (md := .any) (ops := l.toArray) (Q' := Q) (l.drop n) n (headL l.toArray n) (lexFrame l.toArray a u n) w' (fun j => by simp [List.getElem?_drop]) (by rw [List.length_drop]; exact hT'.2) (by
    have := lexPut_frame (ops := l.toArray) a u (l.take n) 0 (fun j hj => by
     have : j < n := by rw [List.length_take] at hj; omega
     simp [List.getElem?_take_of_lt this])
    rw [List.length_take, Nat.min_eq_left hle, Nat.zero_add] at this
    rw [this]
    exact hend u w' hw hkp hφ)
   rw [List.length_drop] at this
   exact this)
  n (Array.replicate l.toArray.size false) (fun _ => undef) a w.drew h0
  ⟨by simp, (fun j oj _ hl => by rw [getD_replicate_false] at hl; cases hl), (fun t ht htl => by simp at htl; simp [htl])⟩
  (FrameAt.nil (fun i hi => by rw [getD_replicate_false] at hi; exact absurd hi.2 (by decide))) (Below.refl _ _) hBw (fun i _ hi => by rw [getD_replicate_false] at hi; cases hi) (fun i k _ _ _ hi => by rw [getD_replicate_false] at hi; cases hi)
  (fun _ _ _ _ _ => rfl) (fun i j _ _ hi => by rw [getD_replicate_false] at hi; cases hi) (fun i _ hi => by rw [getD_replicate_false] at hi; cases hi) (fun _ _ _ => rfl)
 have e : n + (l.toArray.size - n) = l.toArray.size := by have := hF.le; omega
 rw [e] at h1
 exact h1
/-- A region by kinds, with reserves; behind its first n operations a tail that draws nothing. -/
theorem wp_region_res {id : Nat} {Q : Exit → Act → World → Prop} {a : Act} {w : World} {l : List Oper} (n B : Nat) (κ : Nat → (Nat → Value) → FKind) (cons : Nat → Nat → Bool) (Res : Nat → Nat → Prop) (hm : P.follows .mixedOrders = true)
  (hB : kindB .any l.toArray n = true) (hT : tailB .any l.toArray n = true) (hC : consB .any l.toArray n cons = true) (hR : roomB l.toArray n a.tmps.size = true) (hBw : B ≤ w.heap.size) (hst : ∀ i u, i < n → KStable B cons Res (κ i u)) (hcg : ∀ i u u2, i < n → (∀ k, k < n → depOn l.toArray i k = true → u k = u2 k) → κ i u = κ i u2) (hRes : ResFacts n B w Res)
  (hops : RKOps .any P l.toArray n B w.drew a κ cons Res 0 (l.take n))
  (hend : ∀ (u : Nat → Value) (w' : World), Below B w.drew w' → (∀ b, b < w.heap.size → (∀ j, j < n → ¬ Res j b) → w'.heap[b]? = w.heap[b]?) → (∀ i, i < n → (∀ j, j < n → cons j i = false) → (κ i u).φ w' (u i)) → wpList P l.toArray Q (l.drop n) (lexPut u 0 (l.take n) a) w') :
  (Code.region id l.toArray true).wp P Q a w :=
 wp_region_any hm (any_res n B κ cons Res hB hT hC hR hBw hst hcg hRes hops hend)
theorem rows_in {r n : Nat} {row : String} {args : Array Value} {w : World} {R : Value → World → Prop} (h : Rows P row args w R) : RowsIn (Fence.wide.inRound r) n P row args w R :=
 fun c cs _ => let ⟨v, w', h1, h2⟩ := h c cs; ⟨v, w', h1, stepsIn_wide.2 h2⟩
theorem oper_in {r n : Nat} {o : Oper} {a : Act} {w : World} {K : Act → World → Prop} {Q : Exit → Act → World → Prop} (hnd : ∀ c, o.op ≠ .defer c) (h : o.wp P a w K Q) : o.wpIn (Fence.wide.inRound r) n P a w K Q := by
 refine ⟨fun _ _ => trivial, ?_⟩
 rw [Oper.semAt_eq _ _ _ hnd]
 unfold Oper.wp at h
 generalize (execOp a.eval o).run P w = x at *
 cases x with
 | ok nx w' =>
  cases nx with
  | value v => exact h
  | skip => exact h
  | defer d => exact h
  | enter f args => exact ⟨fun h => (by cases h), CallsIn.inRound r (callsIn_wide.2 h)⟩
  | row row args => exact ⟨fun h => (by cases h), rows_in h⟩
  | _ => exact h.elim
 | halt hx w' =>
  cases hx <;> exact h
def noDefer (l : List Oper) : Bool := l.all fun o => match o.op with
 | .defer _ => false
 | _ => true
theorem any_in {r n : Nat} {l : List Oper} {Q : Exit → Act → World → Prop} (hnd : noDefer l = true) (hQ : ¬ LetsOut Q) : ∀ (m : Nat) (L : Array Bool) (a : Act) (w : World), wpAny P md l.toArray Q m L a w → wpAnyIn (Fence.wide.inRound r) n P md l.toArray Q m L a w
 | 0, _, _, _, h => h
 | m + 1, L, a, w, h => by
  refine ⟨h.1, fun i hi => ?_⟩
  have h2 := h.2 i hi
  unfold wpOp at h2
  unfold wpOpIn
  cases ho : l.toArray[i]? with
  | none =>
   rw [ho] at h2
   exact any_in hnd hQ m _ _ _ h2
  | some o =>
   rw [ho] at h2
   simp only at h2 ⊢
   have hd : ∀ c, o.op ≠ .defer c := fun c e => by
    have hmem : o ∈ l := by
     obtain ⟨hlt, he⟩ := Array.getElem?_eq_some_iff.1 ho
     rw [← he]; simp
    have := List.all_eq_true.1 hnd o hmem
    rw [e] at this
    cases this
   by_cases hw : Region.wanted o (yielded l.toArray a.tmps) = true
   ·rw [if_pos hw] at h2 ⊢
    rcases h2 with h2 | h2
    ·exact Oper.wpIn_mono (fun a' w' h' => any_in hnd hQ m _ _ _ h') (oper_in hd h2)
    ·exact absurd h2.2 hQ
   ·rw [if_neg hw] at h2 ⊢
    exact ⟨fun _ _ => trivial, any_in hnd hQ m _ _ _ h2⟩
/-- the same in a round of a range over a function -/
theorem wpIn_region_res {id r m : Nat} {Q : Exit → Act → World → Prop} {a : Act} {w : World} {l : List Oper} (n B : Nat) (κ : Nat → (Nat → Value) → FKind) (cons : Nat → Nat → Bool) (Res : Nat → Nat → Prop) (hm : P.follows .mixedOrders = true) (hnd : noDefer l = true) (hQ : ¬ LetsOut Q)
  (hB : kindB .any l.toArray n = true) (hT : tailB .any l.toArray n = true) (hC : consB .any l.toArray n cons = true) (hR : roomB l.toArray n a.tmps.size = true) (hBw : B ≤ w.heap.size) (hst : ∀ i u, i < n → KStable B cons Res (κ i u)) (hcg : ∀ i u u2, i < n → (∀ k, k < n → depOn l.toArray i k = true → u k = u2 k) → κ i u = κ i u2) (hRes : ResFacts n B w Res)
  (hops : RKOps .any P l.toArray n B w.drew a κ cons Res 0 (l.take n))
  (hend : ∀ (u : Nat → Value) (w' : World), Below B w.drew w' → (∀ b, b < w.heap.size → (∀ j, j < n → ¬ Res j b) → w'.heap[b]? = w.heap[b]?) → (∀ i, i < n → (∀ j, j < n → cons j i = false) → (κ i u).φ w' (u i)) → wpList P l.toArray Q (l.drop n) (lexPut u 0 (l.take n) a) w') :
  (Code.region id l.toArray true).wpIn (Fence.wide.inRound r) m P Q a w :=
 wpIn_region_any hm (any_in hnd hQ _ _ _ _ (any_res n B κ cons Res hB hT hC hR hBw hst hcg hRes hops hend))
end
end Go.Proofs.YtnkepmfgmfeabaaGreatDoor
set_option linter.unusedVariables false
set_option linter.unusedSimpArgs false
namespace Go.Proofs.YtnkepmfgmfeabaaGreatDoor
open Go Go.RowKit
namespace Av

/-! Regions that draw their order: a head that makes and reads, and calls what only computes; a tail in order. -/
/-- the name that a value holds itself -/
def AV.ref : AV → Option Nat
 | .ptr l _ => some l
 | .ms l _ _ => some l
 | .ep l _ _ _ _ => some l
 | .mp l => some l
 | _ => none
section
variable {tt : TTab} {H H' : AHeap}
theorem aLoad_loc {t : Nat} {a : AV} (h : ∀ l, a.ref = some l → H[l]? = H'[l]?) : aLoad tt H t a = aLoad tt H' t a := by
 unfold aLoad
 cases tt t with
 | none => rfl
 | some ti =>
  cases a with
  | d p => cases p with
   | v x => cases x with
    | map q => cases q <;> rfl
    | slice q n c => cases q <;> cases n <;> cases c <;> rfl
    | _ => rfl
   | sl k l => rfl
  | ptr l off => simp only [AV.ref, Option.some.injEq, forall_eq'] at h; simp only [h]
  | ms l ver n => simp only [AV.ref, Option.some.injEq, forall_eq'] at h; simp only [h]
  | ep l ver n i c => simp only [AV.ref, Option.some.injEq, forall_eq'] at h; simp only [h]
  | mp l => simp only [AV.ref, Option.some.injEq, forall_eq'] at h; simp only [h]
  | _ => rfl
theorem aIndexAddr_loc {t : Nat} {a ix : AV} (h : ∀ l, a.ref = some l → H[l]? = H'[l]?) : aIndexAddr tt H t a ix = aIndexAddr tt H' t a ix := by
 unfold aIndexAddr
 cases tt t with
 | none => rfl
 | some ti =>
 cases intOfA ix with
 | none => rfl
 | some ki =>
 obtain ⟨ki, i⟩ := ki
 obtain ⟨sz, byt, kind, zero, flat⟩ := ti
 cases kind <;> try rfl
 all_goals
   cases a with
   | d p => cases p with
    | v x => cases x with
     | map q => cases q <;> rfl
     | slice q n c => cases q <;> cases n <;> cases c <;> rfl
     | _ => rfl
    | sl k l => rfl
   | ptr l off => simp only [AV.ref, Option.some.injEq, forall_eq'] at h; simp only [h]
   | ms l ver n => simp only [AV.ref, Option.some.injEq, forall_eq'] at h; simp only [h]
   | ep l ver n i c => simp only [AV.ref, Option.some.injEq, forall_eq'] at h; simp only [h]
   | mp l => simp only [AV.ref, Option.some.injEq, forall_eq'] at h; simp only [h]
   | _ => rfl
theorem aSlice_loc {t : Nat} {a : AV} {lo hi mx : Option AV} (h : ∀ l, a.ref = some l → H[l]? = H'[l]?) : aSlice tt H t a lo hi mx = aSlice tt H' t a lo hi mx := by
 unfold aSlice
 cases tt t with
 | none => rfl
 | some ti =>
 obtain ⟨sz, byt, kind, zero, flat⟩ := ti
 cases mx <;> cases kind <;> try rfl
 all_goals
   cases a with
   | d p => cases p with
    | v x => cases x with
     | map q => cases q <;> rfl
     | slice q n c => cases q <;> cases n <;> cases c <;> rfl
     | _ => rfl
    | sl k l => rfl
   | ptr l off => simp only [AV.ref, Option.some.injEq, forall_eq'] at h; simp only [h]
   | ms l ver n => simp only [AV.ref, Option.some.injEq, forall_eq'] at h; simp only [h]
   | ep l ver n i c => simp only [AV.ref, Option.some.injEq, forall_eq'] at h; simp only [h]
   | mp l => simp only [AV.ref, Option.some.injEq, forall_eq'] at h; simp only [h]
   | _ => rfl
theorem aLookup_loc {t : Nat} {a k : AV} {ok : Bool} (h : ∀ l, a.ref = some l → H[l]? = H'[l]?) : aLookup tt H t a k ok = aLookup tt H' t a k ok := by
 unfold aLookup
 cases tt t with
 | none => rfl
 | some ti =>
 cases valOf k with
 | none => rfl
 | some key =>
 obtain ⟨sz, byt, kind, zero, flat⟩ := ti
 cases kind <;> try rfl
 all_goals
   cases a with
   | d p => cases p with
    | v x => cases x with
     | map q => cases q <;> rfl
     | slice q n c => cases q <;> cases n <;> cases c <;> rfl
     | _ => rfl
    | sl k l => rfl
   | ptr l off => simp only [AV.ref, Option.some.injEq, forall_eq'] at h; simp only [h]
   | ms l ver n => simp only [AV.ref, Option.some.injEq, forall_eq'] at h; simp only [h]
   | ep l ver n i c => simp only [AV.ref, Option.some.injEq, forall_eq'] at h; simp only [h]
   | mp l => simp only [AV.ref, Option.some.injEq, forall_eq'] at h; simp only [h]
   | _ => rfl
theorem lenOf_loc {t : Nat} {a : AV} (h : ∀ l, a.ref = some l → H[l]? = H'[l]?) : lenOf tt H t a = lenOf tt H' t a := by
 unfold lenOf
 cases tt t with
 | none => rfl
 | some ti =>
 obtain ⟨sz, byt, kind, zero, flat⟩ := ti
 cases kind <;> try rfl
 all_goals
   cases a with
   | d p => cases p with
    | v x => cases x with
     | map q => cases q <;> rfl
     | slice q n c => cases q <;> cases n <;> cases c <;> rfl
     | _ => rfl
    | sl k l => rfl
   | ptr l off => simp only [AV.ref, Option.some.injEq, forall_eq'] at h; simp only [h]
   | ms l ver n => simp only [AV.ref, Option.some.injEq, forall_eq'] at h; simp only [h]
   | ep l ver n i c => simp only [AV.ref, Option.some.injEq, forall_eq'] at h; simp only [h]
   | mp l => simp only [AV.ref, Option.some.injEq, forall_eq'] at h; simp only [h]
   | _ => rfl
theorem aXItems_loc {k : Nat} {a : AV} (h : ∀ l, a.ref = some l → H[l]? = H'[l]?) : aXItems H k a = aXItems H' k a := by
 unfold aXItems
 cases a with
 | d p => cases p with
  | v x => cases x with
   | map q => cases q <;> rfl
   | slice q n c => cases q <;> cases n <;> cases c <;> rfl
   | _ => rfl
  | sl k l => rfl
 | ptr l off => simp only [AV.ref, Option.some.injEq, forall_eq'] at h; simp only [h]
 | ms l ver n => simp only [AV.ref, Option.some.injEq, forall_eq'] at h; simp only [h]
 | ep l ver n i c => simp only [AV.ref, Option.some.injEq, forall_eq'] at h; simp only [h]
 | mp l => simp only [AV.ref, Option.some.injEq, forall_eq'] at h; simp only [h]
 | _ => rfl
theorem aAppend_loc {t : Nat} {a x : AV} {l : Nat} (h : ∀ l, a.ref = some l → H[l]? = H'[l]?) (hx : ∀ l, x.ref = some l → H[l]? = H'[l]?) : aAppend tt H t a x l = aAppend tt H' t a x l := by
 unfold aAppend
 simp only [aXItems_loc hx]
 cases tt t with
 | none => rfl
 | some ti =>
 obtain ⟨sz, byt, kind, zero, flat⟩ := ti
 cases kind <;> try rfl
 all_goals
   cases a with
   | d p => cases p with
    | v x => cases x with
     | map q => cases q <;> rfl
     | slice q n c => cases q <;> cases n <;> cases c <;> rfl
     | _ => rfl
    | sl k l => rfl
   | ptr l off => simp only [AV.ref, Option.some.injEq, forall_eq'] at h; simp only [h]
   | ms l ver n => simp only [AV.ref, Option.some.injEq, forall_eq'] at h; simp only [h]
   | ep l ver n i c => simp only [AV.ref, Option.some.injEq, forall_eq'] at h; simp only [h]
   | mp l => simp only [AV.ref, Option.some.injEq, forall_eq'] at h; simp only [h]
   | _ => rfl
/-- what may stand in a head -/
def headOp : Op → Bool
 | .store _ _ _ | .mapUpdate _ _ _ _ | .insert _ _ _ _ => false
 | _ => true
theorem aop_loc {l : Nat} {ρ : Operand → AV} {o : Op} (hh : headOp o = true) (h : ∀ x ∈ o.operands, ∀ l, (ρ x).ref = some l → H[l]? = H'[l]?) : aop tt H l ρ o = aop tt H' l ρ o := by
 cases o with
 | load t a => simp only [aop]; rw [aLoad_loc (h a (by simp [Op.operands]))]
 | store t a x => cases hh
 | mapUpdate t a x y => cases hh
 | insert t a x y => cases hh
 | indexAddr t a ix => simp only [aop]; rw [aIndexAddr_loc (h a (by simp [Op.operands]))]
 | slice t x lo hi mx => simp only [aop]; rw [aSlice_loc (h x (by simp [Op.operands]))]
 | lookup t m k ok => simp only [aop]; rw [aLookup_loc (h m (by simp [Op.operands]))]
 | call c =>
  obtain ⟨callee, args, ts⟩ := c
  cases callee with
  | builtin b =>
   simp only [aop]
   have hm : ∀ y ∈ args.toList.map ρ, ∀ l, y.ref = some l → H[l]? = H'[l]? := fun y hy => by
    obtain ⟨x, hx, rfl⟩ := List.mem_map.1 hy
    exact h x (by simp [Op.operands, Call.operands]; simpa using hx)
   unfold aBuiltin
   generalize args.toList.map ρ = az at hm
   split
   ·split
    ·exact aAppend_loc (hm _ (by simp)) (hm _ (by simp))
    ·rfl
   ·rw [lenOf_loc (hm _ (by simp))]
   ·rfl
   ·rfl
   ·rfl
  | _ => rfl
 | _ => rfl
end
/-- a step of the head -/
def headStep (tt : TTab) (H : AHeap) (env : List AV) (o : Op) : Option (AV × Option AObj) :=
 if allocs (aeval env) o = true then match aop tt (H ++ [.free]) H.length (aeval env) o with
  | some (r, some (l, ob)) => if l = H.length then some (r, some ob) else none
  | _ => none
 else match aop tt H 0 (aeval env) o with
  | some (r, none) => some (r, none)
  | _ => none
end Av
end Go.Proofs.YtnkepmfgmfeabaaGreatDoor
set_option linter.unusedVariables false
set_option linter.unusedSimpArgs false
namespace Go.Proofs.YtnkepmfgmfeabaaGreatDoor
open Go Go.RowKit
namespace Av

mutual
def AV.refs : AV → List Nat
 | .ptr l _ => [l]
 | .ms l _ _ => [l]
 | .ep l _ _ _ _ => [l]
 | .mp l => [l]
 | .fn _ a b => refsL a ++ refsL b
 | .agg l => refsL l
 | .tup l => refsL l
 | _ => []
def refsL : List AV → List Nat
 | [] => []
 | a :: r => a.refs ++ refsL r
end
theorem ref_refs {a : AV} {l : Nat} (h : a.ref = some l) : l ∈ a.refs := by
 cases a <;> simp [AV.ref] at h <;> simp [AV.refs, h]
mutual
theorem Rep.refs {s : St} : ∀ (a : AV) (v : Value), Rep s a v → ∀ l ∈ a.refs, ∃ o, s.H[l]? = some o ∧ o ≠ .free
 | .d p, v, h, l, hl => by simp [AV.refs] at hl
 | .undef, v, h, l, hl => by simp [AV.refs] at hl
 | .ptr m off, v, h, l, hl => by
  simp only [AV.refs, List.mem_singleton] at hl; subst hl
  simp only [Rep, PtrRep] at h
  obtain ⟨_, h⟩ := h
  split at h
  ·exact ⟨_, ‹_›, by simp⟩
  ·exact ⟨_, ‹_›, by simp⟩
  ·exact h.elim
 | .ms m ver n, v, h, l, hl => by
  simp only [AV.refs, List.mem_singleton] at hl; subst hl
  simp only [Rep, MsRep] at h
  obtain ⟨_, h⟩ := h
  split at h
  ·exact ⟨_, ‹_›, by simp⟩
  ·exact ⟨_, ‹_›, by simp⟩
  ·exact h.elim
 | .ep m ver n i c, v, h, l, hl => by
  simp only [AV.refs, List.mem_singleton] at hl; subst hl
  simp only [Rep, EpRep] at h
  obtain ⟨_, h⟩ := h
  split at h
  ·exact ⟨_, ‹_›, by simp⟩
  ·exact ⟨_, ‹_›, by simp⟩
  ·exact h.elim
 | .rp cells, v, h, l, hl => by simp [AV.refs] at hl
 | .mp m, v, h, l, hl => by
  simp only [AV.refs, List.mem_singleton] at hl; subst hl
  simp only [Rep, MpRep] at h
  obtain ⟨_, h⟩ := h
  split at h
  ·exact ⟨_, ‹_›, by simp⟩
  ·exact ⟨_, ‹_›, by simp⟩
  ·exact h.elim
 | .fn f a b, v, h, l, hl => by
  simp only [Rep] at h
  obtain ⟨x, y, _, h2, h3⟩ := h
  simp only [AV.refs] at hl
  rcases List.mem_append.1 hl with hl | hl
  ·exact RepL.refs a _ h2 l hl
  ·exact RepL.refs b _ h3 l hl
 | .agg m, v, h, l, hl => by
  simp only [Rep] at h
  obtain ⟨x, _, h2⟩ := h
  simp only [AV.refs] at hl
  exact RepL.refs m _ h2 l hl
 | .tup m, v, h, l, hl => by
  simp only [Rep] at h
  obtain ⟨x, _, h2⟩ := h
  simp only [AV.refs] at hl
  exact RepL.refs m _ h2 l hl
theorem RepL.refs {s : St} : ∀ (az : List AV) (vs : List Value), RepL s az vs → ∀ l ∈ refsL az, ∃ o, s.H[l]? = some o ∧ o ≠ .free
 | [], vs, h, l, hl => by simp [refsL] at hl
 | a :: r, vs, h, l, hl => by
  simp only [RepL] at h
  obtain ⟨x, t, _, h2, h3⟩ := h
  simp only [refsL] at hl
  rcases List.mem_append.1 hl with hl | hl
  ·exact Rep.refs a x h2 l hl
  ·exact RepL.refs r t h3 l hl
end
mutual
theorem bel_refs {n : Nat} : ∀ (a : AV), a.bel n → ∀ l ∈ a.refs, l < n
 | .d p, h, l, hl => by simp [AV.refs] at hl
 | .undef, h, l, hl => by simp [AV.refs] at hl
 | .ptr m off, h, l, hl => by simp only [AV.refs, List.mem_singleton] at hl; subst hl; simpa only [AV.bel] using h
 | .ms m ver n, h, l, hl => by simp only [AV.refs, List.mem_singleton] at hl; subst hl; simpa only [AV.bel] using h
 | .ep m ver n i c, h, l, hl => by simp only [AV.refs, List.mem_singleton] at hl; subst hl; simpa only [AV.bel] using h
 | .rp c, h, l, hl => by simp [AV.refs] at hl
 | .mp m, h, l, hl => by simp only [AV.refs, List.mem_singleton] at hl; subst hl; simpa only [AV.bel] using h
 | .fn f a b, h, l, hl => by
  simp only [AV.bel] at h
  simp only [AV.refs] at hl
  rcases List.mem_append.1 hl with hl | hl
  ·exact belL_refs a h.1 l hl
  ·exact belL_refs b h.2 l hl
 | .agg m, h, l, hl => by simp only [AV.bel] at h; simp only [AV.refs] at hl; exact belL_refs m h l hl
 | .tup m, h, l, hl => by simp only [AV.bel] at h; simp only [AV.refs] at hl; exact belL_refs m h l hl
theorem belL_refs {n : Nat} : ∀ (az : List AV), belL n az → ∀ l ∈ refsL az, l < n
 | [], h, l, hl => by simp [refsL] at hl
 | a :: r, h, l, hl => by
  simp only [belL] at h
  simp only [refsL] at hl
  rcases List.mem_append.1 hl with hl | hl
  ·exact bel_refs a h.1 l hl
  ·exact belL_refs r h.2 l hl
end
mutual
theorem AV.bel.mono {n m : Nat} (hm : n ≤ m) : ∀ (a : AV), a.bel n → a.bel m
 | .d p, h => by simp only [AV.bel]
 | .undef, h => by simp only [AV.bel]
 | .ptr l off, h => by simp only [AV.bel] at h ⊢; omega
 | .ms l ver k, h => by simp only [AV.bel] at h ⊢; omega
 | .ep l ver k i c, h => by simp only [AV.bel] at h ⊢; omega
 | .rp c, h => by simp only [AV.bel]
 | .mp l, h => by simp only [AV.bel] at h ⊢; omega
 | .fn f a b, h => by simp only [AV.bel] at h ⊢; exact ⟨belL.mono hm a h.1, belL.mono hm b h.2⟩
 | .agg l, h => by simp only [AV.bel] at h ⊢; exact belL.mono hm l h
 | .tup l, h => by simp only [AV.bel] at h ⊢; exact belL.mono hm l h
theorem belL.mono {n m : Nat} (hm : n ≤ m) : ∀ (l : List AV), belL n l → belL m l
 | [], h => by simp only [belL]
 | a :: r, h => by simp only [belL] at h ⊢; exact ⟨AV.bel.mono hm a h.1, belL.mono hm r h.2⟩
end
def AHStep (P : Program) (tt : TTab) (base : World) (N0 : Nat) (env : List AV) (H : AHeap) (o : Op) (C : AV → AHeap → Prop) : Prop :=
 match acall env o with
 | some (f, args) => ∃ r, (∀ Hx : AHeap, (∀ l, l < N0 ∨ l ∈ refsL args → Hx[l]? = H[l]?) → CallsA P base f args Hx fun r' H' => r' = r ∧ H' = Hx) ∧ r.bel H.length ∧ C r H
 | none => headOp o = true ∧ match headStep tt H env o with
  | some (r, some ob) => r.bel (H.length + 1) ∧ C r (H ++ [ob])
  | some (r, none) => r.bel H.length ∧ C r H
  | none => False
/-- the head, in the text's order -/
def AHOps (P : Program) (tt : TTab) (base : World) (N0 : Nat) (ops : Array Oper) : List Oper → List AV → AHeap → (List AV → AHeap → Prop) → Prop
 | [], env, H, K => K env H
 | o :: rest, env, H, K => AGuard ops env o.guard (AHStep P tt base N0 env H o.op fun r H' => AHOps P tt base N0 ops rest (aput env o.dst r) H' K) (AHOps P tt base N0 ops rest (aput env o.dst skipV) H K)
section
variable (ops : Array Oper) (env0 : List AV) (H0 : AHeap) (r : Nat → AV) (ob : Nat → Option AObj)
def eP : Nat → List AV
 | 0 => env0
 | k + 1 => aput (eP k) (dstOf ops k) (r k)
def hP : Nat → AHeap
 | 0 => H0
 | k + 1 => hP k ++ (ob k).toList
def ph (L : Array Bool) : Nat → AHeap
 | 0 => []
 | k + 1 => ph L k ++ (match ob k with
  | none => []
  | some o => [if L.getD k false = true then o else .free])
def RunOk (P : Program) (tt : TTab) (base : World) (j : Nat) (o : Oper) : Prop :=
 match acall (eP ops env0 r j) o.op with
 | some (f, args) => (∀ Hx : AHeap, (∀ l, l < H0.length ∨ l ∈ refsL args → Hx[l]? = (hP H0 ob j)[l]?) → CallsA P base f args Hx fun r' H' => r' = r j ∧ H' = Hx) ∧ ob j = none ∧ (r j).bel (hP H0 ob j).length
 | none => headOp o.op = true ∧ headStep tt (hP H0 ob j) (eP ops env0 r j) o.op = some (r j, ob j) ∧ (r j).bel (hP H0 ob (j + 1)).length
def PlanAt (P : Program) (tt : TTab) (base : World) (j : Nat) (o : Oper) : Prop :=
 match o.guard with
 | none => RunOk ops env0 H0 r ob P tt base j o
 | some (g, want) => ∃ y, yieldedA ops (eP ops env0 r j) g = some y ∧ ((wantB y want = true ∧ RunOk ops env0 H0 r ob P tt base j o) ∨ (¬ wantB y want = true ∧ r j = skipV ∧ ob j = none))
end
section
variable {ops : Array Oper} {env0 : List AV} {H0 : AHeap}
theorem eP_congr {r r' : Nat → AV} : ∀ {k : Nat}, (∀ i, i < k → r' i = r i) → eP ops env0 r' k = eP ops env0 r k
 | 0, _ => rfl
 | k + 1, h => by simp only [eP]; rw [eP_congr fun i hi => h i (by omega), h k (by omega)]
theorem hP_congr {ob ob' : Nat → Option AObj} : ∀ {k : Nat}, (∀ i, i < k → ob' i = ob i) → hP H0 ob' k = hP H0 ob k
 | 0, _ => rfl
 | k + 1, h => by simp only [hP]; rw [hP_congr fun i hi => h i (by omega), h k (by omega)]
theorem ahops_plan {P : Program} {tt : TTab} {base : World} {K : List AV → AHeap → Prop} : ∀ (l : List Oper) (k : Nat) (r : Nat → AV) (ob : Nat → Option AObj), (∀ j, j < l.length → l[j]? = ops[k + j]?) → AHOps P tt base H0.length ops l (eP ops env0 r k) (hP H0 ob k) K →
  ∃ r' ob', (∀ i, i < k → r' i = r i ∧ ob' i = ob i) ∧ (∀ j o, k ≤ j → j < k + l.length → ops[j]? = some o → PlanAt ops env0 H0 r' ob' P tt base j o) ∧ K (eP ops env0 r' (k + l.length)) (hP H0 ob' (k + l.length))
 | [], k, r, ob, _, h => ⟨r, ob, fun _ _ => ⟨rfl, rfl⟩, fun j o h1 h2 => by simp at h2; omega, h⟩
 | o :: l, k, r, ob, hl, h => by
  have h0 : ops[k]? = some o := by simpa using (hl 0 (by simp)).symm
  -- go on with a value
  have go : ∀ (v : AV) (q : Option AObj), AHOps P tt base H0.length ops l (aput (eP ops env0 r k) o.dst v) (hP H0 ob k ++ q.toList) K →
    (∀ r' ob', (∀ i, i < k → r' i = r i ∧ ob' i = ob i) → r' k = v → ob' k = q → PlanAt ops env0 H0 r' ob' P tt base k o) →
    ∃ r' ob', (∀ i, i < k → r' i = r i ∧ ob' i = ob i) ∧ (∀ j o', k ≤ j → j < k + (o :: l).length → ops[j]? = some o' → PlanAt ops env0 H0 r' ob' P tt base j o') ∧ K (eP ops env0 r' (k + (o :: l).length)) (hP H0 ob' (k + (o :: l).length)) := by
   intro v q hv hp
   let r1 : Nat → AV := fun i => if i = k then v else r i
   let ob1 : Nat → Option AObj := fun i => if i = k then q else ob i
   have e1 : eP ops env0 r1 (k + 1) = aput (eP ops env0 r k) o.dst v := by
    simp only [eP, dstOf_some h0]
    rw [eP_congr (r := r) (r' := r1) fun i hi => by simp [r1, Nat.ne_of_lt hi]]
    simp [r1]
   have e2 : hP H0 ob1 (k + 1) = hP H0 ob k ++ q.toList := by
    simp only [hP]
    rw [hP_congr (ob := ob) (ob' := ob1) fun i hi => by simp [ob1, Nat.ne_of_lt hi]]
    simp [ob1]
   obtain ⟨r', ob', a1, a2, a3⟩ := ahops_plan l (k + 1) r1 ob1 (fun j hj => by
    have := hl (j + 1) (by simpa using hj)
    rw [show k + 1 + j = k + (j + 1) by omega]
    simpa using this) (by rw [e1, e2]; exact hv)
   have b1 : ∀ i, i < k → r' i = r i ∧ ob' i = ob i := fun i hi => by
    have := a1 i (by omega)
    simp only [r1, ob1, Nat.ne_of_lt hi, if_false] at this
    exact this
   have b2 : r' k = v ∧ ob' k = q := by
    have := a1 k (by omega)
    simpa [r1, ob1] using this
   refine ⟨r', ob', b1, fun j o' h1 h2 h3 => ?_, by rw [List.length_cons, show k + (l.length + 1) = k + 1 + l.length by omega]; exact a3⟩
   by_cases e : j = k
   ·subst e
    rw [h0] at h3
    cases h3
    exact hp r' ob' b1 b2.1 b2.2
   ·exact a2 j o' (by omega) (by simp only [List.length_cons] at h2; omega) h3
  simp only [AHOps, AGuard] at h
  -- the operation itself
  have run : AHStep P tt base H0.length (eP ops env0 r k) (hP H0 ob k) o.op (fun v H' => AHOps P tt base H0.length ops l (aput (eP ops env0 r k) o.dst v) H' K) →
    ∃ v q, AHOps P tt base H0.length ops l (aput (eP ops env0 r k) o.dst v) (hP H0 ob k ++ q.toList) K ∧ ∀ r' ob', (∀ i, i < k → r' i = r i ∧ ob' i = ob i) → r' k = v → ob' k = q → RunOk ops env0 H0 r' ob' P tt base k o := by
   intro h
   unfold AHStep at h
   split at h
   ·rename_i f args hac
    obtain ⟨v, h2, h3, h4⟩ := h
    refine ⟨v, none, by simpa using h4, fun r' ob' hr e1 e2 => ?_⟩
    unfold RunOk
    rw [eP_congr fun i hi => (hr i hi).1, hac, hP_congr fun i hi => (hr i hi).2, e1, e2]
    exact ⟨h2, rfl, h3⟩
   ·rename_i hac
    obtain ⟨h1, h⟩ := h
    split at h
    ·rename_i v q hst
     refine ⟨v, some q, by simpa using h.2, fun r' ob' hr e1 e2 => ?_⟩
     unfold RunOk
     simp only [hP]
     rw [eP_congr fun i hi => (hr i hi).1, hac, hP_congr fun i hi => (hr i hi).2, e1, e2]
     exact ⟨h1, hst, by simpa using h.1⟩
    ·rename_i v hst
     refine ⟨v, none, by simpa using h.2, fun r' ob' hr e1 e2 => ?_⟩
     unfold RunOk
     simp only [hP]
     rw [eP_congr fun i hi => (hr i hi).1, hac, hP_congr fun i hi => (hr i hi).2, e1, e2]
     exact ⟨h1, hst, by simpa using h.1⟩
    ·exact h.elim
  cases hg : o.guard with
  | none =>
   rw [hg] at h
   obtain ⟨v, q, h1, h2⟩ := run h
   exact go v q h1 fun r' ob' hr e1 e2 => by unfold PlanAt; rw [hg]; exact h2 r' ob' hr e1 e2
  | some g =>
   obtain ⟨g, want⟩ := g
   rw [hg] at h
   simp only at h
   split at h
   case h_2 => exact h.elim
   rename_i b hy
   split at h
   ·rename_i hb
    obtain ⟨v, q, h1, h2⟩ := run h
    exact go v q h1 fun r' ob' hr e1 e2 => by
     unfold PlanAt; rw [hg]
     exact ⟨b, by rw [eP_congr fun i hi => (hr i hi).1]; exact hy, .inl ⟨hb, h2 r' ob' hr e1 e2⟩⟩
   ·rename_i hb
    exact go skipV none (by simpa using h) fun r' ob' hr e1 e2 => by
     unfold PlanAt; rw [hg]
     exact ⟨b, by rw [eP_congr fun i hi => (hr i hi).1]; exact hy, .inr ⟨hb, e1, e2⟩⟩
end
end Av
end Go.Proofs.YtnkepmfgmfeabaaGreatDoor
set_option linter.unusedVariables false
set_option linter.unusedSimpArgs false
namespace Go.Proofs.YtnkepmfgmfeabaaGreatDoor
open Go Go.RowKit
namespace Av

section
variable {ops : Array Oper} {env0 : List AV} {H0 : AHeap} {r : Nat → AV} {ob : Nat → Option AObj}
theorem hP_len (k : Nat) : (hP H0 ob k).length ≤ (hP H0 ob (k + 1)).length := by simp [hP]
theorem hP_le {j k : Nat} (h : j ≤ k) : (hP H0 ob j).length ≤ (hP H0 ob k).length := by
 induction k with
 | zero => rw [show j = 0 by omega]; exact Nat.le_refl _
 | succ k ih =>
  rcases Nat.lt_or_ge j (k + 1) with h' | h'
  ·exact Nat.le_trans (ih (by omega)) (hP_len k)
  ·rw [show j = k + 1 by omega]; exact Nat.le_refl _
theorem hP_base (k : Nat) : H0.length ≤ (hP H0 ob k).length := hP_le (Nat.zero_le k)
theorem ph_len (L : Array Bool) (k : Nat) : (H0 ++ ph ob L k).length = (hP H0 ob k).length := by
 induction k with
 | zero => simp [ph, hP]
 | succ k ih =>
  simp only [ph, hP, List.length_append] at ih ⊢
  cases ob k <;> simp <;> omega
theorem hP_old {l k : Nat} (h : l < H0.length) : (hP H0 ob k)[l]? = H0[l]? := by
 induction k with
 | zero => rfl
 | succ k ih =>
  simp only [hP]
  rw [List.getElem?_append_left (Nat.lt_of_lt_of_le h (hP_base k)), ih]
theorem ph_old {L : Array Bool} {l k : Nat} (h : l < H0.length) : (H0 ++ ph ob L k)[l]? = H0[l]? := List.getElem?_append_left h
theorem hP_at {i j : Nat} {o : AObj} (hi : i < j) (ho : ob i = some o) : (hP H0 ob j)[(hP H0 ob i).length]? = some o := by
 induction j with
 | zero => omega
 | succ j ih =>
  simp only [hP]
  rcases Nat.lt_or_ge i j with h | h
  ·rw [List.getElem?_append_left]
   ·exact ih h
   ·have := hP_le (H0 := H0) (ob := ob) (show i + 1 ≤ j by omega)
    simp only [hP, ho, List.length_append, Option.toList_some, List.length_cons, List.length_nil] at this
    omega
  ·have : i = j := by omega
   subst this
   rw [ho]; simp
theorem ph_at {L : Array Bool} {i n : Nat} {o : AObj} (hi : i < n) (ho : ob i = some o) : (H0 ++ ph ob L n)[(hP H0 ob i).length]? = some (if L.getD i false = true then o else .free) := by
 induction n with
 | zero => omega
 | succ n ih =>
  simp only [ph]
  rw [← List.append_assoc]
  rcases Nat.lt_or_ge i n with h | h
  ·rw [List.getElem?_append_left]
   ·exact ih h
   ·rw [ph_len]
    have := hP_le (H0 := H0) (ob := ob) (show i + 1 ≤ n by omega)
    simp only [hP, ho, List.length_append, Option.toList_some, List.length_cons, List.length_nil] at this
    omega
  ·have : i = n := by omega
   subst this
   rw [List.getElem?_append_right (by rw [ph_len]; exact Nat.le_refl _), ph_len, Nat.sub_self, ho]
   rfl
theorem hP_cover {l j : Nat} (h1 : H0.length ≤ l) (h2 : l < (hP H0 ob j).length) : ∃ i o, i < j ∧ ob i = some o ∧ l = (hP H0 ob i).length := by
 induction j with
 | zero => simp only [hP] at h2; omega
 | succ j ih =>
  rcases Nat.lt_or_ge l (hP H0 ob j).length with h | h
  ·obtain ⟨i, o, a, b, c⟩ := ih h
   exact ⟨i, o, by omega, b, c⟩
  ·cases ho : ob j with
   | none => simp only [hP, ho, Option.toList_none, List.append_nil] at h2; omega
   | some o =>
    simp only [hP, ho, List.length_append, Option.toList_some, List.length_cons, List.length_nil] at h2
    exact ⟨j, o, by omega, ho, by omega⟩
theorem ph_set_none {L : Array Bool} {j : Nat} (ho : ob j = none) (n : Nat) : ph ob (L.setIfInBounds j true) n = ph ob L n := by
 induction n with
 | zero => rfl
 | succ n ih =>
  simp only [ph, ih]
  by_cases e : j = n
  ·subst e; rw [ho]
  ·rw [getD_set_ne false e]
theorem ph_set_out {L : Array Bool} {j : Nat} (n : Nat) (h : n ≤ j) : ph ob (L.setIfInBounds j true) n = ph ob L n := by
 induction n with
 | zero => rfl
 | succ n ih => simp only [ph, ih (by omega)]; rw [getD_set_ne false (by omega)]
theorem ph_set {L : Array Bool} {j n : Nat} {o : AObj} (hj : j < n) (hL : j < L.size) (ho : ob j = some o) : H0 ++ ph ob (L.setIfInBounds j true) n = (H0 ++ ph ob L n).set (hP H0 ob j).length o := by
 induction n with
 | zero => omega
 | succ n ih =>
  simp only [ph]
  rw [← List.append_assoc, ← List.append_assoc]
  rcases Nat.lt_or_ge j n with h | h
  ·have hlt : (hP H0 ob j).length < (H0 ++ ph ob L n).length := by
    rw [ph_len]
    have := hP_le (H0 := H0) (ob := ob) (show j + 1 ≤ n by omega)
    simp only [hP, ho, List.length_append, Option.toList_some, List.length_cons, List.length_nil] at this
    omega
   rw [ih h, getD_set_ne false (by omega)]
   exact (List.set_append_left _ _ hlt).symm
  ·have : j = n := by omega
   subst this
   rw [ph_set_out j (Nat.le_refl _), ho, List.set_append_right _ _ (by rw [ph_len]; exact Nat.le_refl _), ph_len, Nat.sub_self]
   have hg : (L.setIfInBounds j true).getD j false = true := by simp [hL]
   simp only [hg, if_true]
   split <;> rfl
theorem ph_full {L : Array Bool} {n : Nat} (h : ∀ i, i < n → L.getD i false = true) : H0 ++ ph ob L n = hP H0 ob n := by
 induction n with
 | zero => simp [ph, hP]
 | succ n ih =>
  simp only [ph, hP]
  rw [← List.append_assoc, ih fun i hi => h i (by omega)]
  cases ob n with
  | none => rfl
  | some o => simp only [h n (by omega), if_true]; rfl
/-- some names more, all of them free -/
theorem Sim.frees {base : World} {μ : Nat → Option Nat} {w : World} {H : AHeap} (hs : Sim base ⟨μ, H, w⟩) : ∀ k, Sim base ⟨μ, H ++ List.replicate k .free, w⟩ ∧ Evo H.length ⟨μ, H, w⟩ ⟨μ, H ++ List.replicate k .free, w⟩
 | 0 => by simp only [List.replicate_zero, List.append_nil]; exact ⟨hs, .refl _ _⟩
 | k + 1 => by
  obtain ⟨h1, h2⟩ := Sim.frees hs k
  obtain ⟨h3, h4⟩ := h1.free
  rw [List.replicate_succ', ← List.append_assoc]
  exact ⟨h3, h2.trans (h4.mono (by simp))⟩
theorem ph_empty (k : Nat) (n : Nat) (hk : ∀ i, (Array.replicate k false).getD i false = false) : ∃ m, ph ob (Array.replicate k false) n = List.replicate m .free := by
 induction n with
 | zero => exact ⟨0, rfl⟩
 | succ n ih =>
  obtain ⟨m, hm⟩ := ih
  simp only [ph, hm]
  cases ob n with
  | none => exact ⟨m, by simp⟩
  | some o => exact ⟨m + 1, by rw [hk n]; simp [List.replicate_succ']⟩
/-- a slot behind k operations, if those that write it have run -/
theorem slot_at {a0 : Act} {u : Nat → Value} {s : St} (he : RepL s env0 a0.tmps.toList) {L : Array Bool} (hr : ∀ i, L.getD i false = true → Rep s (r i) (u i)) (t : Tmp) : ∀ k, (∀ i, i < k → dstOf ops i = some t → L.getD i false = true) →
  Rep s ((eP ops env0 r k).getD t .undef) ((lexFrame ops a0 u k).tmps.getD t Go.undef) ∧ (eP ops env0 r k).length = (lexFrame ops a0 u k).tmps.size
 | 0, _ => by
  have hlen := he.length
  refine ⟨?_, by simpa [eP, lexFrame] using hlen⟩
  simp only [eP, lexFrame]
  exact (EnvRep.mk (a := ⟨a0.tmps, []⟩) rfl he).slot t
 | k + 1, h => by
  obtain ⟨h1, h2⟩ := slot_at he hr t k fun i hi => h i (by omega)
  simp only [eP, lexFrame, aput, Act.put]
  cases hd : dstOf ops k with
  | none => exact ⟨h1, h2⟩
  | some d =>
   simp only
   refine ⟨?_, by simpa using h2⟩
   by_cases e : d = t
   ·subst e
    have hL := h k (by omega) hd
    by_cases hlt : d < (eP ops env0 r k).length
    ·rw [List.getD_eq_getElem?_getD, List.getElem?_set_self hlt, Array.getD_eq_getD_getElem?, Array.getElem?_setIfInBounds_self_of_lt (Nat.lt_of_lt_of_eq hlt h2)]
     exact hr k hL
    ·rw [List.getD_eq_getElem?_getD, List.getElem?_eq_none (by simpa using Nat.le_of_not_lt hlt)]
     simp [Rep]
   ·rw [List.getD_eq_getElem?_getD, List.getElem?_set_ne (by omega), Array.getD_eq_getD_getElem?, Array.getElem?_setIfInBounds_ne (by omega), ← List.getD_eq_getElem?_getD, ← Array.getD_eq_getD_getElem?]
    exact h1
theorem slot_bel (hb : belL H0.length env0) (t : Tmp) : ∀ k, (∀ i, i < k → (r i).bel (hP H0 ob (i + 1)).length) → ((eP ops env0 r k).getD t .undef).bel (hP H0 ob k).length
 | 0, _ => by
  simp only [eP, hP]
  have : ∀ (l : List AV) (t : Nat), belL H0.length l → (l.getD t .undef).bel H0.length := by
   intro l
   induction l with
   | nil => intro t _; simp [AV.bel]
   | cons a l ih =>
    intro t h
    simp only [belL] at h
    cases t with
    | zero => exact h.1
    | succ t => simpa using ih t h.2
  exact this env0 t hb
 | k + 1, h => by
  have h1 := slot_bel hb t k fun i hi => h i (by omega)
  simp only [eP, aput]
  have up := AV.bel.mono (hP_len (H0 := H0) (ob := ob) k) _ h1
  cases hd : dstOf ops k with
  | none => exact up
  | some d =>
   simp only
   by_cases e : d = t
   ·subst e
    by_cases hlt : d < (eP ops env0 r k).length
    ·rw [List.getD_eq_getElem?_getD, List.getElem?_set_self hlt]
     exact h k (by omega)
    ·rw [List.getD_eq_getElem?_getD, List.getElem?_eq_none (by simpa using Nat.le_of_not_lt hlt)]
     simp [AV.bel]
   ·rw [List.getD_eq_getElem?_getD, List.getElem?_set_ne (by omega), ← List.getD_eq_getElem?_getD]
    exact up
theorem aeval_bel {env : List AV} {n : Nat} (h : ∀ t, (env.getD t .undef).bel n) (x : Operand) : (aeval env x).bel n := by
 unfold aeval
 split
 ·exact h _
 ·simp only [AV.bel]
  rename_i l
  induction l.toList with
  | nil => simp [belL]
  | cons a l ih => simp only [List.map_cons, belL, AV.bel, true_and]; exact ih
 ·simp only [AV.bel]
 ·simp only [AV.bel, belL]; exact ⟨trivial, trivial⟩
 ·simp only [AV.bel]
end
end Av
end Go.Proofs.YtnkepmfgmfeabaaGreatDoor
set_option linter.unusedVariables false
set_option linter.unusedSimpArgs false
namespace Go.Proofs.YtnkepmfgmfeabaaGreatDoor
open Go Go.RowKit
namespace Av

section
variable {P : Program} {tt : TTab} {base : World} {ops : Array Oper} {md : Region.Mode} {env0 : List AV} {H0 : AHeap} {r : Nat → AV} {ob : Nat → Option AObj}
/-- one operation of the head, whenever it comes -/
theorem head_op (hT : TabOk P tt) {n j : Nat} {o : Oper} (hjn : j < n) (ho : ops[j]? = some o) (hco : o.op.operands.toList.all constOk = true) (hplan : PlanAt ops env0 H0 r ob P tt base j o) (hbel : ∀ i, i < j → (r i).bel (hP H0 ob (i + 1)).length) (hb0 : belL H0.length env0)
  {a0 : Act} {u : Nat → Value} {L : Array Bool} (hLs : j < L.size) (hLj : L.getD j false = false) (hlook : ∀ i d, i < j → dstOf ops i = some d → d ∈ o.looksAt ops → L.getD i false = true)
  {μ : Nat → Option Nat} {w : World} (hs : Sim base ⟨μ, H0 ++ ph ob L n, w⟩) (he : RepL ⟨μ, H0 ++ ph ob L n, w⟩ env0 a0.tmps.toList) (hr : ∀ i, L.getD i false = true → Rep ⟨μ, H0 ++ ph ob L n, w⟩ (r i) (u i))
  {K : Act → World → Prop} {Q : Exit → Act → World → Prop} {a : Act} (hex : execOp a.eval o = execOp (lexFrame ops a0 u j).eval o) (hwa : Region.wanted o (yielded ops a.tmps) = Region.wanted o (yielded ops (lexFrame ops a0 u j).tmps))
  (hK : ∀ v μ' w', Sim base ⟨μ', H0 ++ ph ob (L.setIfInBounds j true) n, w'⟩ → Rep ⟨μ', H0 ++ ph ob (L.setIfInBounds j true) n, w'⟩ (r j) v → Evo (H0 ++ ph ob L n).length ⟨μ, H0 ++ ph ob L n, w⟩ ⟨μ', H0 ++ ph ob (L.setIfInBounds j true) n, w'⟩ → K (a.put o.dst v) w') :
  wpOp P ops Q j K a w := by
 have slot : ∀ d, d ∈ o.looksAt ops → Rep ⟨μ, H0 ++ ph ob L n, w⟩ ((eP ops env0 r j).getD d .undef) ((lexFrame ops a0 u j).tmps.getD d Go.undef) ∧ (eP ops env0 r j).length = (lexFrame ops a0 u j).tmps.size := fun d hd =>
  slot_at he hr d j fun i hi hid => hlook i d hi hid hd
 have hsb : ∀ t, ((eP ops env0 r j).getD t .undef).bel (hP H0 ob j).length := fun t => slot_bel hb0 t j hbel
 have hρ : ∀ x ∈ o.op.operands, Rep ⟨μ, H0 ++ ph ob L n, w⟩ (aeval (eP ops env0 r j) x) ((lexFrame ops a0 u j).eval x) := fun x hx => by
  have hc := List.all_eq_true.1 hco x (by simpa using hx)
  cases x with
  | tmp d => exact (slot d (List.mem_append_left _ (List.mem_filterMap.2 ⟨.tmp d, by simpa using hx, rfl⟩))).1
  | const v =>
   have h1 := (EnvRep.mk (a := ⟨a0.tmps, []⟩) rfl he).eval (x := .const v) hc
   rwa [show aeval env0 (.const v) = aeval (eP ops env0 r j) (.const v) by cases v <;> rfl] at h1
  | global g => simp only [aeval, Rep]
  | func f => simp only [aeval, Rep]; exact ⟨_, _, rfl, .nil, .nil⟩
 -- the two heaps say the same of what is held
 have same : ∀ (A : AV) (v : Value), Rep ⟨μ, H0 ++ ph ob L n, w⟩ A v → A.bel (hP H0 ob j).length → ∀ l ∈ A.refs, (H0 ++ ph ob L n)[l]? = (hP H0 ob j)[l]? ∧ l < (hP H0 ob j).length := by
  intro A v hA hAb l hl
  have hlt := bel_refs A hAb l hl
  refine ⟨?_, hlt⟩
  rcases Nat.lt_or_ge l H0.length with h | h
  ·rw [ph_old h, hP_old h]
  ·obtain ⟨i, o', hi, hoi, rfl⟩ := hP_cover h hlt
   obtain ⟨x, hx1, hx2⟩ := Rep.refs A v hA _ hl
   rw [hP_at hi hoi]
   have hx1' : (H0 ++ ph ob L n)[(hP H0 ob i).length]? = some x := hx1
   rw [ph_at (by omega : i < n) hoi] at hx1' ⊢
   by_cases hL : L.getD i false = true
   ·rw [if_pos hL]
   ·rw [if_neg hL] at hx1'
    exact absurd (Option.some.inj hx1').symm hx2
 have run : RunOk ops env0 H0 r ob P tt base j o → o.wp P a w K Q := by
  intro h
  unfold RunOk at h
  split at h
  ·rename_i f args hac
   obtain ⟨h1, h2, h3⟩ := h
   unfold acall at hac
   split at hac
   case h_2 => cases hac
   rename_i c hop
   split at hac
   case h_2 => cases hac
   rename_i fo hcal
   split at hac
   case h_2 => cases hac
   rename_i g first caps hfo
   simp only [Option.some.injEq, Prod.mk.injEq] at hac
   obtain ⟨rfl, rfl⟩ := hac
   have hfm : fo ∈ o.op.operands := by rw [hop]; simp [Op.operands, Call.operands, hcal]
   have hf := hρ fo hfm
   have hfb := aeval_bel hsb fo
   rw [hfo] at hf hfb
   have hf' := hf
   simp only [Rep] at hf
   simp only [AV.bel] at hfb
   obtain ⟨vf, vc, hfv, hf1, hf2⟩ := hf
   have hargs := repL_map c.args.toList (ρ := (lexFrame ops a0 u j).eval) (ρA := aeval (eP ops env0 r j)) (s := ⟨μ, H0 ++ ph ob L n, w⟩) fun x hx => hρ x (by rw [hop]; simp [Op.operands, Call.operands]; exact .inr (by simpa using hx))
   have hrep : RepL ⟨μ, H0 ++ ph ob L n, w⟩ (first ++ c.args.toList.map (aeval (eP ops env0 r j)) ++ caps) (vf ++ c.args.map (lexFrame ops a0 u j).eval ++ vc).toList := by
    simpa using (hf1.append hargs).append hf2
   have hbelA : belL (hP H0 ob j).length (first ++ c.args.toList.map (aeval (eP ops env0 r j)) ++ caps) := by
    have app : ∀ (a b : List AV), belL (hP H0 ob j).length a → belL (hP H0 ob j).length b → belL (hP H0 ob j).length (a ++ b) := by
     intro a
     induction a with
     | nil => intro b _ h; exact h
     | cons x a ih => intro b h k; simp only [List.cons_append, belL] at h ⊢; exact ⟨h.1, ih b h.2 k⟩
    refine app _ _ (app _ _ hfb.1 ?_) hfb.2
    generalize c.args.toList = xs
    induction xs with
    | nil => simp [belL]
    | cons x xs ih => simp only [List.map_cons, belL]; exact ⟨aeval_bel hsb x, ih⟩
   have hC := h1 (H0 ++ ph ob L n) fun l hl => by
    rcases hl with hl | hl
    ·rw [ph_old hl, hP_old hl]
    have := same (.agg (first ++ c.args.toList.map (aeval (eP ops env0 r j)) ++ caps)) (.agg (vf ++ c.args.map (lexFrame ops a0 u j).eval ++ vc)) (by simp only [Rep]; exact ⟨_, rfl, hrep⟩) (by simp only [AV.bel]; exact hbelA) l (by simpa only [AV.refs] using hl)
    exact this.1
   have hrun : (execOp (lexFrame ops a0 u j).eval o).run P w = .ok (.enter g (vf ++ c.args.map (lexFrame ops a0 u j).eval ++ vc)) w := by
    obtain ⟨callee, cargs, cts⟩ := c
    simp only at hcal
    subst hcal
    unfold execOp
    rw [hop]
    simp only [resolve, hfv, Deferred.ofValue, Sem.run_bind, Sem.run_pure, Result.andThen_ok, invoke, hC.enter]
   unfold Oper.wp
   rw [hex, hrun, Oper.upon_enter]
   refine (hC.run μ w _ hs hrep).mono ?_
   rintro e w' ⟨v, r', H', μ', rfl, ⟨rfl, rfl⟩, k2, k3, k4, k5⟩
   refine hK v μ' w' ?_ ?_ ?_
   ·rw [ph_set_none h2]; exact k3
   ·rw [ph_set_none h2]; exact k4
   ·rw [ph_set_none h2]; exact k5
  ·obtain ⟨hh, hst, _⟩ := h
   have hloc : ∀ x ∈ o.op.operands, ∀ l, (aeval (eP ops env0 r j) x).ref = some l → (H0 ++ ph ob L n)[l]? = (hP H0 ob j)[l]? ∧ l < (hP H0 ob j).length := fun x hx l hl =>
    same _ _ (hρ x hx) (aeval_bel hsb x) l (ref_refs hl)
   unfold headStep at hst
   split at hst
   ·rename_i hal
    split at hst
    case h_2 => cases hst
    rename_i r' l' ob' hao
    split at hst
    case isFalse => cases hst
    rename_i hl'
    subst hl'
    simp only [Option.some.injEq, Prod.mk.injEq] at hst
    obtain ⟨e1, e2⟩ := hst
    subst e1
    have hob : ob j = some ob' := e2.symm
    have hao2 : aop tt (H0 ++ ph ob L n) (hP H0 ob j).length (aeval (eP ops env0 r j)) o.op = some (r j, some ((hP H0 ob j).length, ob')) := by
     rw [← hao]
     refine aop_loc hh fun x hx l hl => ?_
     have := hloc x hx l hl
     rw [this.1, List.getElem?_append_left this.2]
    have hfree : (H0 ++ ph ob L n)[(hP H0 ob j).length]? = some .free := by
     rw [ph_at hjn hob, if_neg (by rw [hLj]; simp)]
    obtain ⟨nx, v, w', μ', k1, k2, k3, k4, k5⟩ := aop_sound hT hs (o := o) hρ (fun _ => hfree) hao2
    simp only [putO] at k3 k4 k5
    rw [← ph_set hjn hLs hob] at k3 k4 k5
    have hfin := hK v μ' w' k3 k4 k5
    unfold Oper.wp
    rw [hex, k1]
    rcases k2 with rfl | ⟨rfl, rfl⟩
    ·exact hfin
    ·exact hfin
   ·rename_i hal
    split at hst
    case h_2 => cases hst
    rename_i r' hao
    simp only [Option.some.injEq, Prod.mk.injEq] at hst
    obtain ⟨e1, e2⟩ := hst
    subst e1
    have hob : ob j = none := e2.symm
    have hao2 : aop tt (H0 ++ ph ob L n) 0 (aeval (eP ops env0 r j)) o.op = some (r j, none) := by
     rw [← hao]
     exact aop_loc hh fun x hx l hl => (hloc x hx l hl).1
    obtain ⟨nx, v, w', μ', k1, k2, k3, k4, k5⟩ := aop_sound hT hs (o := o) hρ (fun h => absurd h hal) hao2
    simp only [putO] at k3 k4 k5
    have hfin := hK v μ' w' (by rw [ph_set_none hob]; exact k3) (by rw [ph_set_none hob]; exact k4) (by rw [ph_set_none hob]; exact k5)
    unfold Oper.wp
    rw [hex, k1]
    rcases k2 with rfl | ⟨rfl, rfl⟩
    ·exact hfin
    ·exact hfin
 unfold wpOp
 rw [ho]
 simp only
 rw [hwa]
 unfold PlanAt at hplan
 cases hg : o.guard with
 | none =>
  rw [hg] at hplan
  simp only [Region.wanted, hg, if_true]
  exact .inl (run hplan)
 | some gw =>
  obtain ⟨g, want⟩ := gw
  rw [hg] at hplan
  obtain ⟨y, hy, hpl⟩ := hplan
  have hy2 : yielded ops (lexFrame ops a0 u j).tmps g = y := by
   unfold yieldedA at hy
   unfold yielded
   cases hd : (ops[g]?).bind (·.dst) with
   | none => rw [hd] at hy; cases hy
   | some d =>
    rw [hd] at hy
    simp only at hy
    have hs1 := slot d (by simp [Oper.looksAt, hg, hd])
    split at hy
    ·rename_i b' hb
     simp only [Option.some.injEq] at hy
     subst hy
     obtain ⟨h1, h2⟩ := hs1
     rw [hb] at h1
     simp only [Rep, PRep] at h1
     have hlt : d < (lexFrame ops a0 u j).tmps.size := by
      refine Nat.lt_of_not_le fun hge => ?_
      rw [List.getD_eq_getElem?_getD, List.getElem?_eq_none (Nat.le_trans (Nat.le_of_eq h2) hge)] at hb
      simp at hb
     have h3 := h1.1
     rw [Array.getD_eq_getD_getElem?, Array.getElem?_eq_getElem hlt] at h3
     simp only [Option.bind_some, Array.getElem?_eq_getElem hlt]
     simp only [Option.getD_some] at h3
     rw [h3]
    ·rename_i c hb
     simp only [Option.some.injEq] at hy
     subst hy
     obtain ⟨h1, h2⟩ := hs1
     rw [hb] at h1
     simp only [Rep, PRep] at h1
     have hlt : d < (lexFrame ops a0 u j).tmps.size := by
      refine Nat.lt_of_not_le fun hge => ?_
      rw [List.getD_eq_getElem?_getD, List.getElem?_eq_none (Nat.le_trans (Nat.le_of_eq h2) hge)] at hb
      simp at hb
     have h3 := h1.1
     rw [Array.getD_eq_getD_getElem?, Array.getElem?_eq_getElem hlt] at h3
     simp only [Option.bind_some, Array.getElem?_eq_getElem hlt]
     simp only [Option.getD_some] at h3
     rw [h3]
    ·cases hy
  simp only [Region.wanted, hg, hy2]
  rw [wantB_eq] at hpl
  rcases hpl with ⟨hb, hrun⟩ | ⟨hb, h1, h2⟩
  ·rw [if_pos hb]
   exact .inl (run hrun)
  ·rw [if_neg hb]
   refine hK Go.undef μ w (by rw [ph_set_none h2]; exact hs) (by rw [h1]; simp only [skipV, Rep, PRep]; exact ⟨rfl, trivial⟩) (by rw [ph_set_none h2]; exact .refl _ _)
/-- operations that may slip: they only move a slot that nothing writes, and wait for nothing -/
def sinkK (ops : Array Oper) (n : Nat) (ks : List Nat) : Bool :=
 (List.range n).all fun i => ks.contains i || (List.range (n + 1)).any fun j => decide (i < j) && Region.waitsFor .any ops j i
def slipB (ops : Array Oper) (n : Nat) : List Nat → Array Bool → Bool
 | [], _ => true
 | k :: ks, L => decide (k < n) && (match ops[k]? with
  | some o => (match o.op, o.guard with
   | .move (.tmp t), none => (List.range ops.size).all fun i => dstOf ops i != some t
   | _, _ => false)
  | none => false) && (Region.ready .any ops L).contains k && Region.free .any ops L k && slipB ops n ks (L.setIfInBounds k true)
def tailK (ops : Array Oper) (n : Nat) (ks : List Nat) : Bool :=
 (n == ops.size || (sinkK ops n ks && Region.chainB .any ops n)) && Region.seqB .any ops (ops.size - n) n (headL ops n)
theorem tailK_of {n : Nat} (h : tailB .any ops n = true) : tailK ops n [] = true := by
 simp only [tailB, tailK, Bool.and_eq_true, Bool.or_eq_true] at h ⊢
 refine ⟨h.1.imp id fun k => ⟨?_, k.2⟩, h.2⟩
 have := k.1
 unfold Region.sinkB at this
 unfold sinkK
 rw [List.all_eq_true] at this ⊢
 intro i hi
 rw [this i hi]
 simp
theorem tail_waitsK {n : Nat} {ks : List Nat} {listed : Array Bool} (hs : sinkK ops n ks = true) (hc : Region.chainB .any ops n = true) (hn : n < ops.size) (inv : HeadInv .any ops n listed) (hks : ∀ k ∈ ks, listed.getD k false = true) :
  ∀ (d i : Nat), n - i = d → i < n → listed.getD i true = false → ∀ t, n ≤ t → t ∉ Region.ready .any ops listed := by
 intro d
 induction d using Nat.strongRecOn with
 | _ d ih =>
  intro i hd hi hun t ht hr
  obtain ⟨_, ot, hot, hall⟩ := mem_ready.1 hr
  have htlt : t < ops.size := (Array.getElem?_eq_some_iff.1 hot).1
  by_cases htn : t = n
  ·subst htn
   have h1 := List.all_eq_true.1 hs i (List.mem_range.2 hi)
   simp only [Bool.or_eq_true, List.contains_iff_mem] at h1
   rcases h1 with h1 | h1
   ·have := hks i h1
    rw [getD_both hun] at this
    cases this
   obtain ⟨j, hj, hj2⟩ := List.any_eq_true.1 h1
   simp only [Bool.and_eq_true, decide_eq_true_eq] at hj2
   obtain ⟨oj, hoj, e, he, hb, hon⟩ := Region.waitsFor_spec hj2.2
   have hjle : j ≤ t := by have := List.mem_range.1 hj; omega
   by_cases hjt : j = t
   ·subst hjt
    have : oj = ot := Option.some.inj (hoj.symm.trans hot)
    subst this
    have h2 := hall e he hb
    rw [hon, getD_both hun] at h2
    cases h2
   ·cases hl : listed.getD j false with
    | true =>
     have h2 := inv.closed j oj hoj hl e he hb
     rw [hon, getD_both hun] at h2
     cases h2
    | false =>
     have hjs : j < listed.size := by rw [inv.size]; omega
     exact ih (t - j) (by omega) j rfl (by omega) (getD_in hjs hl) t (Nat.le_refl _) hr
  ·have h1 := List.all_eq_true.1 hc t (List.mem_range.2 htlt)
   simp only [Bool.or_eq_true, decide_eq_true_eq] at h1
   rcases h1 with h1 | h1
   ·omega
   ·obtain ⟨o', ho', e, he, hb, hon⟩ := Region.waitsFor_spec h1
    have : o' = ot := Option.some.inj (ho'.symm.trans hot)
    subst this
    have h2 := hall e he hb
    rw [hon, getD_both (inv.tail (t - 1) (by omega) (by omega))] at h2
    cases h2
/-- the head in any order, then the tail -/
theorem heads_any (hT : TabOk P tt) (hm : P.follows .mixedOrders = true) (hc : opsConst ops = true) {n : Nat} {ks : List Nat} (hF : KindFacts .any ops n) (hTl : tailK ops n ks = true) (hb0 : belL H0.length env0)
  (hplan : ∀ j o, j < n → ops[j]? = some o → PlanAt ops env0 H0 r ob P tt base j o) (hbel : ∀ i, i < n → (r i).bel (hP H0 ob (i + 1)).length) {a0 : Act} {Q : Exit → Act → World → Prop} (s0 : St) (N : Nat) (hN : N ≤ H0.length)
  (hend : ∀ (u : Nat → Value) (μ : Nat → Option Nat) (w : World), Sim base ⟨μ, hP H0 ob n, w⟩ → EnvRep ⟨μ, hP H0 ob n, w⟩ (eP ops env0 r n) (lexFrame ops a0 u n) → Evo N s0 ⟨μ, hP H0 ob n, w⟩ → wpAny P .any ops Q (ops.size - n) (headL ops n) (lexFrame ops a0 u n) w) (hd0 : a0.defers = []) :
  ∀ (m : Nat) (L : Array Bool) (u : Nat → Value) (a : Act) (μ : Nat → Option Nat) (w : World), unl L n = m → HeadInv .any ops n L → (∀ k ∈ ks, L.getD k false = true) → FrameAt ops a0 u (fun i => i < n ∧ L.getD i false = true) a →
   Sim base ⟨μ, H0 ++ ph ob L n, w⟩ → RepL ⟨μ, H0 ++ ph ob L n, w⟩ env0 a0.tmps.toList → (∀ i, L.getD i false = true → Rep ⟨μ, H0 ++ ph ob L n, w⟩ (r i) (u i)) → Evo N s0 ⟨μ, H0 ++ ph ob L n, w⟩ → wpAny P .any ops Q (m + (ops.size - n)) L a w := by
 simp only [tailK, Bool.and_eq_true, Bool.or_eq_true, beq_iff_eq] at hTl
 obtain ⟨hT1, hT2⟩ := hTl
 intro m
 induction m with
 | zero =>
  intro L u a μ w hm' inv hks hf hs he hr hev
  have hall := unl_zero L n hm'
  have hle := hF.le
  have hL : L = headL ops n := by
   apply Array.ext
   ·rw [inv.size]; simp [headL]
   ·intro i h1 h2
    by_cases hin : i < n
    ·have := hall i hin
     simp [h1] at this
     simp [headL, hin, this]
    ·have := inv.tail i (by omega) (by rw [← inv.size]; exact h1)
     simp [h1] at this
     simp [headL, hin, this]
  have ht : ∀ i, i < n → L.getD i false = true := fun i hi => by
   have h1 := hall i hi
   have : i < L.size := by rw [inv.size]; omega
   simp [this] at h1 ⊢
   exact h1
  have ha : a = lexFrame ops a0 u n := hf.eq (lexFrame_at hF a0 u n (Nat.le_refl _)) fun i => ⟨fun h => h.1, fun h => ⟨h, ht i h⟩⟩
  rw [Nat.zero_add, ha, hL]
  rw [ph_full ht] at hs he hr hev
  refine hend u μ w hs ⟨?_, ?_⟩ hev
  ·rw [← ha, hf.defers]; exact hd0
  ·have : ∀ k, k ≤ n → RepL ⟨μ, hP H0 ob n, w⟩ (eP ops env0 r k) (lexFrame ops a0 u k).tmps.toList := by
    intro k
    induction k with
    | zero => intro _; exact he
    | succ k ih =>
     intro hk
     have h1 := ih (by omega)
     simp only [eP, lexFrame, aput, Act.put]
     cases hd : dstOf ops k with
     | none => exact h1
     | some d =>
      simp only [Array.toList_setIfInBounds]
      exact RepL.set (hr k (ht k (by omega))) d h1
   exact this n (Nat.le_refl _)
 | succ m ih =>
  intro L u a μ w hm' inv hks hf hs he hr hev
  have hle := hF.le
  obtain ⟨i0, hi0, hu0, hlow⟩ : ∃ i, i < n ∧ L.getD i true = false ∧ ∀ k, k < i → L.getD k true = true := by
   rcases listed_count n L n (Nat.le_refl _) with h | h
   ·exfalso
    have : ∀ k, k ≤ n → unl L k = 0 := by
     intro k
     induction k with
     | zero => intro _; rfl
     | succ k ihk => intro hk; rw [unl, ihk (by omega), h k (by omega)]; rfl
    rw [this n (Nat.le_refl _)] at hm'
    omega
   ·exact h
  have hready : i0 ∈ Region.ready .any ops L := by
   have ho : ops[i0]? = some ops[i0] := Array.getElem?_eq_getElem (by omega)
   refine mem_ready.2 ⟨hu0, _, ho, fun e he hb => ?_⟩
   have h1 := hF.edge i0 _ hi0 ho e he hb
   have h2 := hlow e.on h1
   have : e.on < L.size := by rw [inv.size]; omega
   simp [this] at h2 ⊢
   exact h2
  rw [show m + 1 + (ops.size - n) = (m + (ops.size - n)) + 1 by omega]
  refine ⟨fun h0 => (by rw [h0] at hready; cases hready), fun j hj => ?_⟩
  have hjn : j < n := by
   obtain ⟨_, oj, hoj, _⟩ := mem_ready.1 hj
   have hjs := (Array.getElem?_eq_some_iff.1 hoj).1
   rcases hT1 with h | h
   ·omega
   ·rcases Nat.lt_or_ge j n with h' | h'
    ·exact h'
    ·exact absurd hj (tail_waitsK h.1 h.2 (by omega) inv hks _ i0 rfl hi0 hu0 j h')
  obtain ⟨hjun, oj, hoj, hall⟩ := mem_ready.1 hj
  have hj0 : ¬ L.getD j false = true := by rw [getD_both hjun]; simp
  have hwait : ∀ i, Region.waitsFor .any ops j i = true → L.getD i false = true := fun i hi => by
   obtain ⟨o', ho', e, he, hb, hon⟩ := Region.waitsFor_spec hi
   have : o' = oj := Option.some.inj (ho'.symm.trans hoj)
   subst this
   rw [← hon]
   exact hall e he hb
  have hlex := lexFrame_at hF a0 u j (by omega)
  have hsame : ∀ d, d ∈ oj.looksAt ops → a.tmps[d]? = (lexFrame ops a0 u j).tmps[d]? := fun d hd => by
   by_cases hx : ∃ i, i < n ∧ dstOf ops i = some d
   ·obtain ⟨i, hi, hid⟩ := hx
    have h1 := hF.look i j hi hjn d oj hid hoj hd
    have h2 := hwait i h1.2
    rw [hf.new i d ⟨hi, h2⟩ hid, hlex.new i d h1.1 hid]
   ·rw [hf.old d fun i hi hid => hx ⟨i, hi.1, hid⟩, hlex.old d fun i hi hid => hx ⟨i, by omega, hid⟩]
  have hsel := Region.noSelect_spec hF.sel j
  have hex : execOp a.eval oj = execOp (lexFrame ops a0 u j).eval oj := exec_congr (ops := ops) (fun cs b => hsel oj cs b hoj) hsame
  have hwa : Region.wanted oj (yielded ops a.tmps) = Region.wanted oj (yielded ops (lexFrame ops a0 u j).tmps) := wanted_congr hsame
  have hmem : oj ∈ ops.toList := List.mem_of_getElem? (by simpa using hoj)
  have hjs : j < L.size := by rw [inv.size]; omega
  refine head_op hT hjn hoj (List.all_eq_true.1 hc oj hmem) (hplan j oj hjn hoj) (fun i hi => hbel i (by omega)) hb0 hjs (getD_both hjun) (fun i d hi hid hd => hwait i (hF.look i j (by omega) hjn d oj hid hoj hd).2) hs he hr hex hwa ?_
  intro v μ' w' k1 k2 k3
  have hu' := unl_set L j hjun n
  have hNl : N ≤ (H0 ++ ph ob L n).length := by simp only [List.length_append]; omega
  refine ih (L.setIfInBounds j true) (Go.Proofs.YtnkepmfgmfeabaaGreatDoor.upd u j v) (a.put oj.dst v) μ' w' (by have := hu'.1 hjn; omega) (inv.set hj hjn) (fun k hk => getD_set_true (hks k hk)) ?_ k1 (RepL.evo k3 _ _ he) (fun i hLi => ?_) (hev.trans (k3.mono hNl))
  ·have h1 : FrameAt ops a0 (Go.Proofs.YtnkepmfgmfeabaaGreatDoor.upd u j v) (fun i => i < n ∧ L.getD i false = true) a := hf.congr fun i hi => by
    rw [Go.Proofs.YtnkepmfgmfeabaaGreatDoor.upd_ne u v fun e => hj0 (by rw [← e]; exact hi.2)]
   have h2 := h1.put (T := fun i => i < n ∧ (L.setIfInBounds j true).getD i false = true) j (fun i hi d hd => fun e => hF.apart i j hi.1 hjn (fun e' => hj0 (by rw [← e']; exact hi.2)) d e hd) (fun i => by
    by_cases e : j = i
    ·subst e
     simp [hjs, hjn]
    ·rw [getD_set_ne false e]
     constructor
     ·exact fun h => .inl h
     ·rintro (h | h)
      ·exact h
      ·exact absurd h.symm e)
   rw [Go.Proofs.YtnkepmfgmfeabaaGreatDoor.upd_same, dstOf_some hoj] at h2
   exact h2
  ·by_cases e : j = i
   ·subst e; rw [Go.Proofs.YtnkepmfgmfeabaaGreatDoor.upd_same]; exact k2
   ·rw [getD_set_ne false e] at hLi
    rw [Go.Proofs.YtnkepmfgmfeabaaGreatDoor.upd_ne u v (Ne.symm e)]
    exact Rep.evo k3 _ _ (hr i hLi)
end
section
variable {P : Program} {tt : TTab} {base : World} {ops : Array Oper} {env0 : List AV} {H0 : AHeap} {r : Nat → AV} {ob : Nat → Option AObj}
theorem eP_get {t : Nat} : ∀ {k : Nat}, (∀ i, i < k → dstOf ops i ≠ some t) → (eP ops env0 r k).getD t .undef = env0.getD t .undef
 | 0, _ => rfl
 | k + 1, h => by
  simp only [eP]
  rw [← eP_get (k := k) fun i hi => h i (by omega)]
  cases hd : dstOf ops k with
  | none => rfl
  | some d =>
   have hne : d ≠ t := fun e => h k (by omega) (by rw [hd, e])
   simp only [aput, List.getD_eq_getElem?_getD, List.getElem?_set_ne hne]
theorem slips_any {Q : Exit → Act → World → Prop} (hp : ∀ c a w, ¬ Q (.panic c) a w) {n : Nat} (hF : KindFacts .any ops n)
  (hplan : ∀ j o, j < n → ops[j]? = some o → PlanAt ops env0 H0 r ob P tt base j o) {a0 : Act} {μ : Nat → Option Nat} {w : World} (f : Nat)
  (he : RepL ⟨μ, H0 ++ ph ob (Array.replicate ops.size false) n, w⟩ env0 a0.tmps.toList) :
  ∀ (ks : List Nat) (L : Array Bool) (u : Nat → Value) (a : Act), slipB ops n ks L = true → ph ob L n = ph ob (Array.replicate ops.size false) n → HeadInv .any ops n L → FrameAt ops a0 u (fun i => i < n ∧ L.getD i false = true) a →
   (∀ i, L.getD i false = true → Rep ⟨μ, H0 ++ ph ob (Array.replicate ops.size false) n, w⟩ (r i) (u i)) →
   (∀ (L' : Array Bool) (u' : Nat → Value) (a' : Act), ph ob L' n = ph ob (Array.replicate ops.size false) n → HeadInv .any ops n L' → FrameAt ops a0 u' (fun i => i < n ∧ L'.getD i false = true) a' →
    (∀ i, L'.getD i false = true → Rep ⟨μ, H0 ++ ph ob (Array.replicate ops.size false) n, w⟩ (r i) (u' i)) → (∀ k ∈ ks, L'.getD k false = true) → (∀ k, L.getD k false = true → L'.getD k false = true) → wpAny P .any ops Q (unl L' n + (ops.size - n)) L' a' w) →
   wpAny P .any ops Q (unl L n + (ops.size - n)) L a w
 | [], L, u, a, _, hph, inv, hf, hr, hk => hk L u a hph inv hf hr (fun _ h => by cases h) fun _ h => h
 | k :: ks, L, u, a, hB, hph, inv, hf, hr, hk => by
  simp only [slipB, Bool.and_eq_true, decide_eq_true_eq] at hB
  obtain ⟨⟨⟨⟨hkn, hmv⟩, hrd⟩, hfr⟩, hB⟩ := hB
  have hks : k < ops.size := by have := hF.le; omega
  have ho : ops[k]? = some ops[k] := Array.getElem?_eq_getElem hks
  rw [ho] at hmv
  simp only at hmv
  generalize hok : ops[k] = o at ho hmv
  split at hmv
  case h_2 => cases hmv
  rename_i t hop hgu
  have hnot : ∀ i, i < ops.size → dstOf ops i ≠ some t := fun i hi => by
   have := List.all_eq_true.1 hmv i (List.mem_range.2 hi)
   simpa using this
  have hready : k ∈ Region.ready .any ops L := by simpa using hrd
  have hun := (mem_ready.1 hready).1
  -- what it yields
  have hat : a.tmps[t]? = a0.tmps[t]? := hf.old t fun i hi hid => hnot i (by have := hF.le; omega) hid
  have hrk : r k = env0.getD t .undef ∧ ob k = none := by
   have h1 := hplan k o hkn ho
   unfold PlanAt at h1
   rw [hgu] at h1
   simp only at h1
   unfold RunOk at h1
   rw [hop] at h1
   simp only [acall, headStep, allocs, aop, Bool.false_eq_true, if_false, Option.some.injEq, Prod.mk.injEq, aeval] at h1
   rw [eP_get fun i hi => hnot i (by omega)] at h1
   exact ⟨h1.2.1.1.symm, h1.2.1.2.symm⟩
  have hv : Rep ⟨μ, H0 ++ ph ob (Array.replicate ops.size false) n, w⟩ (r k) (a.eval (.tmp t)) := by
   rw [hrk.1]
   have h1 := (EnvRep.mk (a := ⟨a0.tmps, []⟩) rfl he).slot t
   have e : a.eval (.tmp t) = a0.tmps.getD t Go.undef := by
    show a.tmps.getD t Go.undef = _
    simp only [Array.getD_eq_getD_getElem?, hat]
   rw [e]
   exact h1
  have hu' := unl_set L k hun n
  have e1 : unl L n = unl (L.setIfInBounds k true) n + 1 := by have := hu'.1 hkn; omega
  rw [e1, show unl (L.setIfInBounds k true) n + 1 + (ops.size - n) = (unl (L.setIfInBounds k true) n + (ops.size - n)) + 1 by omega]
  refine wpAny_take ho hF.sel hfr hrd (fun c a w h => absurd h (hp c _ w)) (v := a.eval (.tmp t)) (.inl ⟨by simp [Region.wanted, hgu], fun w => by unfold execOp; rw [hop]; rfl⟩) ?_
  have hkL : k < L.size := by rw [inv.size]; exact hks
  refine slips_any hp hF hplan f he ks _ (Go.Proofs.YtnkepmfgmfeabaaGreatDoor.upd u k (a.eval (.tmp t))) _ hB (by rw [ph_set_none hrk.2]; exact hph) (inv.set hready hkn) ?_ (fun i hLi => ?_) fun L' u' a' q1 q2 q3 q4 q5 q6 => hk L' u' a' q1 q2 q3 q4 (fun x hx => ?_) fun x hx => q6 x (getD_set_true hx)
  ·have hj0 : ¬ L.getD k false = true := by rw [getD_both hun]; simp
   have h1 : FrameAt ops a0 (Go.Proofs.YtnkepmfgmfeabaaGreatDoor.upd u k (a.eval (.tmp t))) (fun i => i < n ∧ L.getD i false = true) a := hf.congr fun i hi => by
    rw [Go.Proofs.YtnkepmfgmfeabaaGreatDoor.upd_ne u _ fun e => hj0 (by rw [← e]; exact hi.2)]
   have h2 := h1.put (T := fun i => i < n ∧ (L.setIfInBounds k true).getD i false = true) k (fun i hi d hd => fun e => hF.apart i k hi.1 hkn (fun e' => hj0 (by rw [← e']; exact hi.2)) d e hd) (fun i => by
    by_cases e : k = i
    ·subst e
     simp [hkL, hkn]
    ·rw [getD_set_ne false e]
     constructor
     ·exact fun h => .inl h
     ·rintro (h | h)
      ·exact h
      ·exact absurd h.symm e)
   rw [Go.Proofs.YtnkepmfgmfeabaaGreatDoor.upd_same, dstOf_some ho] at h2
   exact h2
  ·by_cases e : k = i
   ·subst e; rw [Go.Proofs.YtnkepmfgmfeabaaGreatDoor.upd_same]; exact hv
   ·rw [getD_set_ne false e] at hLi
    rw [Go.Proofs.YtnkepmfgmfeabaaGreatDoor.upd_ne u _ (Ne.symm e)]
    exact hr i hLi
  ·rcases List.mem_cons.1 hx with rfl | hx
   ·exact q6 x (by simp [hkL])
   ·exact q5 x hx
end
theorem aw_drawK {X : Ctx} {Q : Exit → List AV → AHeap → Prop} {env : List AV} {H : AHeap} {id : Nat} {ops : Array Oper} (n : Nat) (ks : List Nat) (hT : TabOk X.P X.tt) (hm : X.P.follows .mixedOrders = true) (hc : opsConst ops = true) (hB : kindB .any ops n = true) (hTl : tailK ops n ks = true) (hS : slipB ops n ks (Array.replicate ops.size false) = true)
  (h : AHOps X.P X.tt X.base H.length ops (ops.toList.take n) env H fun env' H' => AOps X.P X.tt X.base ops (ops.toList.drop n) env' H' fun env H => Q .normal env H) : AW X (.region id ops true) Q env H := by
 intro s0 μ a w hN hs he hev
 have hF := kindB_facts hB
 have hle := hF.le
 have hb0 : belL H.length env := RepL.bel (s := ⟨μ, H, w⟩) _ _ he.rep
 have hlen : (ops.toList.take n).length = n := by rw [List.length_take, Array.length_toList]; omega
 obtain ⟨r, ob, _, hplan, hK⟩ := ahops_plan (ops := ops) (env0 := env) (H0 := H) (ops.toList.take n) 0 (fun _ => .undef) (fun _ => none) (fun j hj => by
  rw [hlen] at hj
  rw [List.getElem?_take_of_lt hj, Nat.zero_add]; simp) h
 rw [hlen, Nat.zero_add] at hK hplan
 have hplan' : ∀ j o, j < n → ops[j]? = some o → PlanAt ops env H r ob X.P X.tt X.base j o := fun j o hj ho => hplan j o (Nat.zero_le _) hj ho
 have hbel : ∀ i, i < n → (r i).bel (hP H ob (i + 1)).length := fun i hi => by
  have ho : ops[i]? = some ops[i] := Array.getElem?_eq_getElem (by omega)
  have hp := hplan' i _ hi ho
  have run : RunOk ops env H r ob X.P X.tt X.base i ops[i] → (r i).bel (hP H ob (i + 1)).length := fun h => by
   unfold RunOk at h
   split at h
   ·exact AV.bel.mono (hP_len i) _ h.2.2
   ·exact h.2.2
  unfold PlanAt at hp
  split at hp
  ·exact run hp
  ·obtain ⟨b, _, hp⟩ := hp
   rcases hp with ⟨_, hp⟩ | ⟨_, hp, _⟩
   ·exact run hp
   ·rw [hp]; simp only [skipV, AV.bel]
 have hw : Sim X.base ⟨μ, H, { w with drawn := w.drawn + 1 }⟩ ∧ Evo H.length ⟨μ, H, w⟩ ⟨μ, H, { w with drawn := w.drawn + 1 }⟩ := hs.heapEq rfl rfl rfl rfl
 obtain ⟨k, hk⟩ := ph_empty (ob := ob) ops.size n (fun i => getD_replicate_false _ _)
 obtain ⟨f1, f2⟩ := Sim.frees hw.1 k
 have hev1 := hw.2.trans f2
 have hev2 : Evo X.N s0 ⟨μ, H ++ List.replicate k .free, { w with drawn := w.drawn + 1 }⟩ := hev.trans (hev1.mono hN)
 let Q0 : Exit → Act → World → Prop := fun x a w => x = .normal ∧ APost X.base X.N s0 Q x a w
 refine Go.wp_mono (Q := Q0) (wp_region_any hm ?_) fun x a w h => h.2
 have h1 := slips_any (P := X.P) (tt := X.tt) (base := X.base) (ops := ops) (env0 := env) (H0 := H) (r := r) (ob := ob) (Q := Q0) (fun c a w h => by cases h.1) hF hplan' (a0 := a) (μ := μ) (w := { w with drawn := w.drawn + 1 }) 0 (by rw [hk]; exact RepL.evo hev1 _ _ he.rep) ks
  (Array.replicate ops.size false) (fun _ => Go.undef) a hS rfl ⟨by simp, (fun j oj _ hl => by rw [getD_replicate_false] at hl; cases hl), (fun t ht htl => by simp [htl])⟩
  (FrameAt.nil (fun i hi => by rw [getD_replicate_false] at hi; exact absurd hi.2 (by decide))) (fun i hi => by rw [getD_replicate_false] at hi; cases hi)
  fun L' u' a' q1 q2 q3 q4 q5 _ => heads_any (P := X.P) (tt := X.tt) (base := X.base) (ops := ops) (env0 := env) (H0 := H) (r := r) (ob := ob) (a0 := a) (Q := Q0) (ks := ks) hT hm hc hF hTl hb0 hplan' hbel s0 X.N hN
  (fun u μ w hs he hev => by
   have hT' := hTl
   simp only [tailK, Bool.and_eq_true] at hT'
   have hNn : X.N ≤ (hP H ob n).length := Nat.le_trans hN (hP_base n)
   have ht := aops_wp hT hc (Q := Q0) s0 X.N (fun env H μ w a h hN hs he hev => ⟨rfl, μ, env, H, h, hN, hs, he, hev⟩) (ops.toList.drop n) n rfl _ _ μ w _ hK hNn hs he hev
   rw [wpOps_eq_wpList _ n (fun j => by simp [List.getElem?_drop])] at ht
   have := wpAny_of_seq (P := X.P) (md := .any) (ops := ops) (Q' := Q0) (ops.toList.drop n) n (headL ops n) _ w (fun j => by simp [List.getElem?_drop]) (by rw [List.length_drop, Array.length_toList]; exact hT'.2) ht
   rw [List.length_drop, Array.length_toList] at this
   exact this) he.defers
  (unl L' n) L' u' a' μ _ rfl q2 q5 q3 (by rw [q1, hk]; exact f1) (by rw [q1, hk]; exact RepL.evo hev1 _ _ he.rep) (fun i hi => by rw [q1]; exact q4 i hi) (by rw [q1, hk]; exact hev2)
 rw [unl_new _ n hF.le] at h1
 have e : n + (ops.size - n) = ops.size := by omega
 rw [e] at h1
 exact h1
theorem aw_draw {X : Ctx} {Q : Exit → List AV → AHeap → Prop} {env : List AV} {H : AHeap} {id : Nat} {ops : Array Oper} (n : Nat) (hT : TabOk X.P X.tt) (hm : X.P.follows .mixedOrders = true) (hc : opsConst ops = true) (hB : kindB .any ops n = true) (hTl : tailB .any ops n = true)
  (h : AHOps X.P X.tt X.base H.length ops (ops.toList.take n) env H fun env' H' => AOps X.P X.tt X.base ops (ops.toList.drop n) env' H' fun env H => Q .normal env H) : AW X (.region id ops true) Q env H :=
 aw_drawK n [] hT hm hc hB (tailK_of hTl) rfl h
end Av
end Go.Proofs.YtnkepmfgmfeabaaGreatDoor
set_option linter.unusedVariables false
set_option linter.unusedSimpArgs false
namespace Go.Proofs.YtnkepmfgmfeabaaGreatDoor
open Go Go.RowKit
namespace Av

/-! Calls: what only computes; rows of one's own that are looked at. -/
mutual
def viewA (H : AHeap) : AV → Option AV
 | .ms l ver m => match H[l]? with
  | some (.row _ k ver' items) => if ver = ver' ∧ m = items.length then (unI items).map fun L => .d (.sl k L) else none
  | _ => none
 | .d p => some (.d p)
 | .agg l => (viewL H l).map .agg
 | _ => none
def viewL (H : AHeap) : List AV → Option (List AV)
 | [] => some []
 | a :: r => (viewA H a).bind fun a' => (viewL H r).map fun r' => a' :: r'
end
mutual
def flatA : AV → Bool
 | .d (.v _) => true
 | .agg l => flatL l
 | .tup l => flatL l
 | _ => false
def flatL : List AV → Bool
 | [] => true
 | a :: r => flatA a && flatL r
end
mutual
theorem flat_rep {s s' : St} : ∀ (a : AV) (v : Value), flatA a = true → Rep s a v → Rep s' a v
 | .d (.v x), v, _, h => by simp only [Rep, PRep] at h ⊢; exact h
 | .d (.sl _ _), v, e, _ => by simp [flatA] at e
 | .agg l, v, e, h => by
  simp only [flatA] at e
  simp only [Rep] at h ⊢
  obtain ⟨c, h1, h2⟩ := h
  exact ⟨c, h1, flatL_rep l _ e h2⟩
 | .tup l, v, e, h => by
  simp only [flatA] at e
  simp only [Rep] at h ⊢
  obtain ⟨c, h1, h2⟩ := h
  exact ⟨c, h1, flatL_rep l _ e h2⟩
 | .undef, _, e, _ => by simp [flatA] at e
 | .ptr _ _, _, e, _ => by simp [flatA] at e
 | .ms _ _ _, _, e, _ => by simp [flatA] at e
 | .ep _ _ _ _ _, _, e, _ => by simp [flatA] at e
 | .rp _, _, e, _ => by simp [flatA] at e
 | .mp _, _, e, _ => by simp [flatA] at e
 | .fn _ _ _, _, e, _ => by simp [flatA] at e
theorem flatL_rep {s s' : St} : ∀ (l : List AV) (vs : List Value), flatL l = true → RepL s l vs → RepL s' l vs
 | [], _, _, h => by simp only [RepL] at h ⊢; exact h
 | a :: r, vs, e, h => by
  simp only [flatL, Bool.and_eq_true] at e
  simp only [RepL] at h ⊢
  obtain ⟨x, t, h1, h2, h3⟩ := h
  exact ⟨x, t, h1, flat_rep a x e.1 h2, flatL_rep r t e.2 h3⟩
end
def bare (s : St) : St := ⟨s.μ, [], s.w⟩
theorem bare_imm {s : St} {b : Nat} : (bare s).imm b ↔ b < s.w.heap.size := ⟨fun h => h.1, fun h => ⟨h, fun ⟨l, o, h1, _⟩ => by simp [bare] at h1⟩⟩
mutual
theorem view_rep {base : World} {s : St} (hs : Sim base s) : ∀ (a a' : AV) (v : Value), Rep s a v → viewA s.H a = some a' → Rep (bare s) a' v
 | .ms l ver m, a', v, h, e => by
  simp only [viewA] at e
  split at e
  case h_2 => cases e
  rename_i ty k ver' items ho
  split at e
  case isFalse => cases e
  rename_i c
  simp only [Option.map_eq_some_iff] at e
  obtain ⟨L, e1, rfl⟩ := e
  have hi := unI_eq e1
  simp only [Rep, MsRep, ho] at h
  obtain ⟨_, _, h⟩ := h
  simp only [Rep, PRep]
  have hLl : L.length = items.length := by rw [hi]; simp [dI]
  rcases h c.1 c.2 with ⟨m1, rfl, m3⟩ | ⟨b, cap, m1, rfl, m3, m4, m5⟩
  ·have : L = [] := List.eq_nil_of_length_eq_zero (by omega)
   subst this
   exact ⟨none, 0, rfl, Nat.le_refl _, by unfold maxLen; omega, .inl rfl⟩
  ·obtain ⟨h0, h9, hobj⟩ := hs.obj l _ ho
   rcases hobj with ⟨q1, _⟩ | ⟨b', arr, f, rs, q1, q2, q3, q4, q5⟩
   ·rw [m1] at q1; cases q1
   ·rw [m1] at q1; cases q1
    refine ⟨some ⟨b, 0, none⟩, cap, by rw [hLl, c.2], by rw [hLl, ← c.2]; exact m3, m4, .inr ⟨b, 0, rfl, bare_imm.2 (Array.getElem?_eq_some_iff.1 q3).1, ?_⟩⟩
    subst hi
    have := seal_rows q3 L 0 f (fun j v hj => by
     have h1 : arr.toList[j]? = some v := by rw [q4, List.getElem?_append_left (List.getElem?_eq_some_iff.1 hj).1]; exact hj
     simpa using h1) h0 h9 q5
    -- what is immutable there is immutable here
    have up : ∀ (L : List (List PD)) (b k o : Nat), PRows s.w s.imm L b k o → PRows s.w (bare s).imm L b k o := by
     intro L
     induction L with
     | nil => intro b k o _; simp only [PRows]
     | cons it L ih =>
      intro b k o h
      simp only [PRows] at h ⊢
      have cells : ∀ (l : List PD) (o : Nat), PCells s.w s.imm l b o → PCells s.w (bare s).imm l b o := by
       intro l
       induction l with
       | nil => intro o _; simp only [PCells]
       | cons p l ih =>
        intro o h
        simp only [PCells] at h ⊢
        obtain ⟨⟨h0, c, h1, h2⟩, h3⟩ := h
        exact ⟨⟨h0, c, h1, PRep.on (fun b hb => bare_imm.2 hb.1) (fun _ _ => rfl) p c h2⟩, ih _ h3⟩
      exact ⟨h.1, cells it o h.2.1, ih b k _ h.2.2⟩
    exact up L b k 0 this
 | .d p, a', v, h, e => by
  simp only [viewA, Option.some.injEq] at e; subst e
  simp only [Rep] at h ⊢
  exact PRep.on (fun b hb => bare_imm.2 hb.1) (fun _ _ => rfl) p v h
 | .agg l, a', v, h, e => by
  simp only [viewA, Option.map_eq_some_iff] at e
  obtain ⟨y, e2, rfl⟩ := e
  simp only [Rep] at h ⊢
  obtain ⟨p, h1, h2⟩ := h
  exact ⟨p, h1, viewL_rep hs l y _ h2 e2⟩
 | .undef, _, _, _, e => by simp [viewA] at e
 | .ptr _ _, _, _, _, e => by simp [viewA] at e
 | .ep _ _ _ _ _, _, _, _, e => by simp [viewA] at e
 | .rp _, _, _, _, e => by simp [viewA] at e
 | .mp _, _, _, _, e => by simp [viewA] at e
 | .fn _ _ _, _, _, _, e => by simp [viewA] at e
 | .tup _, _, _, _, e => by simp [viewA] at e
theorem viewL_rep {base : World} {s : St} (hs : Sim base s) : ∀ (l l' : List AV) (vs : List Value), RepL s l vs → viewL s.H l = some l' → RepL (bare s) l' vs
 | [], l', vs, h, e => by simp only [viewL, Option.some.injEq] at e; subst e; simp only [RepL] at h ⊢; exact h
 | a :: r, l', vs, h, e => by
  simp only [viewL] at e
  obtain ⟨x, e1, e2⟩ := Option.bind_eq_some_iff.1 e
  simp only [Option.map_eq_some_iff] at e2
  obtain ⟨y, e2, rfl⟩ := e2
  simp only [RepL] at h ⊢
  obtain ⟨p, q, h1, h2, h3⟩ := h
  exact ⟨p, q, h1, view_rep hs a x _ h2 e1, viewL_rep hs r y _ h3 e2⟩
end
/-- a call with rows of one's own, that yields no rows -/
theorem view_call {P : Program} {base : World} {f : FuncId} {args args' : List AV} {r : AV} {H : AHeap} (hv : viewL H args = some args') (hf : flatA r = true) (h : PureA P base f args' r) :
  CallsA P base f args H fun r' H' => r' = r ∧ H' = H := by
 refine ⟨(h []).enter, fun μ w vs hs ha => ?_⟩
 have hb : Sim base (bare ⟨μ, H, w⟩) := ⟨hs.below, fun l o ho => by simp [bare] at ho, fun l l' o o' b ho => by simp [bare] at ho⟩
 have hr := viewL_rep hs args args' _ ha hv
 refine ((h []).run μ w vs hb hr).mono ?_
 rintro e w' ⟨v, r', H', μ', rfl, ⟨rfl, rfl⟩, _, h3, h4, h5⟩
 have hB : Below w.heap.size w w' := ⟨h3.below.os.trans hs.below.os.symm, h3.below.tape.trans hs.below.tape.symm, h3.below.output.trans hs.below.output.symm, h5.keeps.size, fun k hk => h5.keeps.heap k ((bare_imm (s := ⟨μ, H, w⟩)).2 hk)⟩
 have hs' := hs.below' (s := ⟨μ, H, w⟩) hB
 exact ⟨v, r', H, μ, rfl, ⟨rfl, rfl⟩, Nat.le_refl _, hs'.1, flat_rep _ _ hf h4, hs'.2⟩
/-! at a call -/
section
variable {P : Program} {base : World} {f : FuncId} {args args' : List AV} {r : AV} {H : AHeap} {C : AV → AHeap → Prop} {N0 : Nat}
theorem at_pure (h : PureA P base f args r) (k : C r H) : ∃ R, CallsA P base f args H R ∧ ∀ r H', R r H' → H.length ≤ H'.length → C r H' :=
 ⟨_, h H, fun r' H' ⟨e1, e2⟩ _ => by rw [e1, e2]; exact k⟩
theorem at_view (h : PureA P base f args' r) (hv : viewL H args = some args') (hf : flatA r = true) (k : C r H) : ∃ R, CallsA P base f args H R ∧ ∀ r H', R r H' → H.length ≤ H'.length → C r H' :=
 ⟨_, view_call hv hf h, fun r' H' ⟨e1, e2⟩ _ => by rw [e1, e2]; exact k⟩
theorem hd_pure (h : PureA P base f args r) (hb : r.bel H.length) (k : C r H) : ∃ r, (∀ Hx : AHeap, (∀ l, l < N0 ∨ l ∈ refsL args → Hx[l]? = H[l]?) → CallsA P base f args Hx fun r' H' => r' = r ∧ H' = Hx) ∧ r.bel H.length ∧ C r H :=
 ⟨r, fun Hx _ => h Hx, hb, k⟩
end
/-- a contract of the elder kind, that ends in what kept all blocks -/
theorem pure_of_calls {P : Program} {base : World} {f : FuncId} {args : List AV} {p : PD} (hcall : ∀ (vs : Array Value) (w : World), (callFunc f vs).run P w = .ok (.enter f vs) w)
  (h : ∀ (s : St) (vs : Array Value), Sim base s → RepL s args vs.toList → Calls P f vs s.w fun e w' => ∃ v, e = .returned v ∧ Below s.w.heap.size s.w w' ∧ PRep w' (fun b => b < w'.heap.size ∧ (b < s.w.heap.size → s.imm b)) p v) : PureA P base f args (.d p) := fun H =>
 ⟨hcall, fun μ w vs hs ha => (h ⟨μ, H, w⟩ vs hs ha).mono fun e w' ⟨v, h1, h2, h3⟩ => by
  have hs' := hs.below' (s := ⟨μ, H, w⟩) h2
  refine ⟨v, .d p, H, μ, h1, ⟨rfl, rfl⟩, Nat.le_refl _, hs'.1, ?_, hs'.2⟩
  simp only [Rep]
  refine PRep.on (fun b hb => ⟨hb.1, fun hl => ?_⟩) (fun _ _ => rfl) p v h3
  have hlt := (hs.live_ge (s := ⟨μ, H, w⟩) hl).2
  exact (hb.2 hlt).2 hl⟩
end Av
end Go.Proofs.YtnkepmfgmfeabaaGreatDoor
set_option linter.unusedVariables false
set_option linter.unusedSimpArgs false
namespace Go.Proofs.YtnkepmfgmfeabaaGreatDoor
open Go Go.RowKit
namespace Av

/-! What simp needs to evaluate. -/
theorem arr_list {α : Type} (l : List α) : l.toArray.toList = l := rfl
theorem H_get (H G : AHeap) (i : Nat) : (H ++ G)[H.length + i]? = G[i]? := by
 rw [List.getElem?_append_right (by omega)]; congr 1; omega
theorem H_get0 (H G : AHeap) : (H ++ G)[H.length]? = G[0]? := H_get H G 0
theorem H_set (H G : AHeap) (i : Nat) (o : AObj) : (H ++ G).set (H.length + i) o = H ++ G.set i o := by
 rw [List.set_append_right _ _ (by omega)]; congr 2; omega
theorem H_set0 (H G : AHeap) (o : AObj) : (H ++ G).set H.length o = H ++ G.set 0 o := H_set H G 0 o
theorem arr_get {α : Type} (l : List α) (i : Nat) : l.toArray[i]? = l[i]? := by simp
theorem l_set0 {α : Type} (a b : α) (l : List α) : (a :: l).set 0 b = b :: l := rfl
theorem l_setS {α : Type} (a b : α) (n : Nat) (l : List α) : (a :: l).set (n + 1) b = a :: l.set n b := rfl
theorem l_getD0 {α : Type} (a d : α) (l : List α) : (a :: l).getD 0 d = a := rfl
theorem l_getDS {α : Type} (a d : α) (n : Nat) (l : List α) : (a :: l).getD (n + 1) d = l.getD n d := rfl
theorem l_get0 {α : Type} (a : α) (l : List α) : (a :: l)[0]? = some a := rfl
theorem l_getS {α : Type} (a : α) (n : Nat) (l : List α) : (a :: l)[n + 1]? = l[n]? := rfl
theorem o_mapS {α β : Type} (f : α → β) (a : α) : (some a).map f = some (f a) := rfl
theorem o_mapN {α β : Type} (f : α → β) : (none : Option α).map f = none := rfl
theorem o_bindS {α β : Type} (f : α → Option β) (a : α) : (some a).bind f = f a := rfl
theorem o_bindN {α β : Type} (f : α → Option β) : (none : Option α).bind f = none := rfl
theorem l_mapC {α β : Type} (f : α → β) (a : α) (l : List α) : (a :: l).map f = f a :: l.map f := rfl
theorem l_mapN {α β : Type} (f : α → β) : ([] : List α).map f = [] := rfl
theorem l_lenA {α : Type} (a b : List α) : (a ++ b).length = a.length + b.length := List.length_append
theorem l_lenC {α : Type} (a : α) (l : List α) : (a :: l).length = l.length + 1 := rfl
theorem l_lenN {α : Type} : ([] : List α).length = 0 := rfl
theorem l_appA {α : Type} (a b c : List α) : a ++ b ++ c = a ++ (b ++ c) := List.append_assoc _ _ _
theorem l_appC {α : Type} (a : α) (l m : List α) : a :: l ++ m = a :: (l ++ m) := rfl
theorem l_appN {α : Type} (l : List α) : [] ++ l = l := rfl
theorem l_appE {α : Type} (l : List α) : l ++ [] = l := List.append_nil _
theorem l_allC {α : Type} (p : α → Bool) (a : α) (l : List α) : (a :: l).all p = (p a && l.all p) := rfl
theorem l_allN {α : Type} (p : α → Bool) : ([] : List α).all p = true := rfl
theorem i_t {α : Type} {_ : Decidable True} (a b : α) : (if True then a else b) = a := by simp
theorem i_f {α : Type} {_ : Decidable False} (a b : α) : (if False then a else b) = b := by simp
theorem i_tp {_ : Decidable True} (a b : Prop) : (if True then a else b) = a := by simp
theorem i_fp {_ : Decidable False} (a b : Prop) : (if False then a else b) = b := by simp
theorem ite_tt {α : Type} (a b : α) : (if true = true then a else b) = a := rfl
theorem ite_ft {α : Type} (a b : α) : (if false = true then a else b) = b := rfl
theorem lt_a (n i j : Nat) : (n + i < n + j) = (i < j) := by simp
theorem lt_a0 (n j : Nat) : (n < n + (j + 1)) = True := by simp
theorem o_tlS {α : Type} (a : α) : (some a).toList = [a] := rfl
theorem o_tlN {α : Type} : (none : Option α).toList = [] := rfl
theorem o_gdS {α : Type} (a d : α) : (some a).getD d = a := rfl
theorem b_self (n : Nat) : (n == n) = true := by simp
theorem ne_S (n : Nat) : (n + 1 ≠ 0) = True := by simp
theorem lt_S (n : Nat) : (0 < n + 1) = True := by simp
theorem e_self {α : Type} (a : α) : (a = a) = True := by simp
theorem t_and (p : Prop) : (True ∧ p) = p := by simp
theorem and_t (p : Prop) : (p ∧ True) = p := by simp
theorem l_drop0 {α : Type} (l : List α) : l.drop 0 = l := rfl
theorem l_dropS {α : Type} (n : Nat) (a : α) (l : List α) : (a :: l).drop (n + 1) = l.drop n := rfl
theorem l_take0 {α : Type} (l : List α) : l.take 0 = [] := by simp
theorem l_takeS {α : Type} (n : Nat) (a : α) (l : List α) : (a :: l).take (n + 1) = a :: l.take n := rfl
theorem l_dropN {α : Type} (n : Nat) : ([] : List α).drop n = [] := by simp
theorem l_takeN {α : Type} (n : Nat) : ([] : List α).take n = [] := by simp
theorem n_a0 (n : Nat) : n + 0 = n := rfl
theorem n_0a (n : Nat) : 0 + n = n := Nat.zero_add n
theorem l_lenM {α β : Type} (f : α → β) (l : List α) : (l.map f).length = l.length := List.length_map _
theorem avs : type_of% (And.intro @acall.eq_def <| And.intro @astep.eq_def <| And.intro @allocs.eq_def <| And.intro @aop.eq_def <|
  And.intro @aeval.eq_def <| And.intro @aput.eq_def <| And.intro @putO.eq_def <| And.intro @yieldedA.eq_def <| And.intro @wantB.eq_def <| And.intro @skipV.eq_def <| And.intro @aLoad.eq_def <| And.intro @aPart.eq_def <| And.intro @aStore.eq_def <| And.intro @splice.eq_def <| And.intro @aFieldAddr.eq_def <|
  And.intro @aField.eq_def <| And.intro @aIndexAddr.eq_def <| And.intro @aIndex.eq_def <| And.intro @aExtract.eq_def <| And.intro @aBox.eq_def <| And.intro @AV.cells.eq_def <| And.intro @AV.one.eq_def <| And.intro @PD.one.eq_def <|
  And.intro @Value.oneCell'.eq_def <| And.intro @aAlloc.eq_def <| And.intro @zCells.eq_def <| And.intro @aBuild.eq_def <| And.intro @aFill.eq_1 <| And.intro @aFill.eq_2 <| And.intro @bsOk.eq_1 <| And.intro @bsOk.eq_2 <| And.intro @b_self <| And.intro @aBuildSlice.eq_def <| And.intro @aMakeSlice.eq_def <|
  And.intro @aMakeMap.eq_def <| And.intro @ksOf.eq_def <| And.intro @aSlice.eq_def <| And.intro @bndOf.eq_def <| And.intro @intOfA.eq_def <| And.intro @binA.eq_def <| And.intro @binV.eq_def <| And.intro @intV.eq_def <| And.intro @strV.eq_def <|
  And.intro @nilKind.eq_def <| And.intro @eqRes.eq_def <| And.intro @unV.eq_def <| And.intro @convV.eq_def <| And.intro @minV.eq_def <| And.intro @maxV.eq_def <| And.intro @aMinMax.eq_def <| And.intro @aBuiltin.eq_def <| And.intro @aAppend.eq_def <|
  And.intro @aXItems.eq_def <| And.intro @lenOf.eq_def <| And.intro @aLookup.eq_def <| And.intro @aMapUpdate.eq_def <| And.intro @zeroA.eq_def <| And.intro @TI.agg.eq_def <| And.intro @valOf.eq_def <| And.intro @valsL.eq_1 <| And.intro @valsL.eq_2 <|
  And.intro @arr_list <| And.intro @H_get <| And.intro @H_get0 <| And.intro @H_set <| And.intro @H_set0 <| And.intro @l_set0 <| And.intro @l_setS <| And.intro @l_getD0 <| And.intro @l_getDS <|
  And.intro @l_get0 <| And.intro @l_getS <| And.intro @o_mapS <| And.intro @o_mapN <| And.intro @o_bindS <| And.intro @o_bindN <| And.intro @l_mapC <| And.intro @l_mapN <|
  And.intro @l_lenA <| And.intro @l_lenC <| And.intro @l_lenN <| And.intro @l_appA <| And.intro @l_appC <| And.intro @l_appN <| And.intro @l_appE <|
  And.intro @l_allC <| And.intro @l_allN <| And.intro @Bool.and_true <| And.intro @Bool.true_and <| And.intro @Bool.false_eq_true <| And.intro @i_t <| And.intro @i_f <| And.intro @i_tp <| And.intro @i_fp <| And.intro @ite_tt <| And.intro @ite_ft <| And.intro @headStep.eq_def <| And.intro @headOp.eq_def <| And.intro @AV.bel.eq_def <| And.intro @belL.eq_1 <| And.intro @belL.eq_2 <| And.intro @lt_a <| And.intro @lt_a0 <| And.intro @o_tlS <| And.intro @o_tlN <| And.intro @o_gdS <| And.intro @ne_S <| And.intro @lt_S <| And.intro @e_self <| And.intro @t_and <| And.intro @and_t <| And.intro @l_drop0 <| And.intro @l_dropS <| And.intro @l_take0 <| And.intro @l_takeS <| And.intro @l_dropN <| And.intro @l_takeN <| And.intro @n_a0 <| And.intro @n_0a <| And.intro @l_lenM <| And.intro @arr_get trivial) :=
 And.intro @acall.eq_def <| And.intro @astep.eq_def <| And.intro @allocs.eq_def <| And.intro @aop.eq_def <|
  And.intro @aeval.eq_def <| And.intro @aput.eq_def <| And.intro @putO.eq_def <| And.intro @yieldedA.eq_def <| And.intro @wantB.eq_def <| And.intro @skipV.eq_def <| And.intro @aLoad.eq_def <| And.intro @aPart.eq_def <| And.intro @aStore.eq_def <| And.intro @splice.eq_def <| And.intro @aFieldAddr.eq_def <|
  And.intro @aField.eq_def <| And.intro @aIndexAddr.eq_def <| And.intro @aIndex.eq_def <| And.intro @aExtract.eq_def <| And.intro @aBox.eq_def <| And.intro @AV.cells.eq_def <| And.intro @AV.one.eq_def <| And.intro @PD.one.eq_def <|
  And.intro @Value.oneCell'.eq_def <| And.intro @aAlloc.eq_def <| And.intro @zCells.eq_def <| And.intro @aBuild.eq_def <| And.intro @aFill.eq_1 <| And.intro @aFill.eq_2 <| And.intro @bsOk.eq_1 <| And.intro @bsOk.eq_2 <| And.intro @b_self <| And.intro @aBuildSlice.eq_def <| And.intro @aMakeSlice.eq_def <|
  And.intro @aMakeMap.eq_def <| And.intro @ksOf.eq_def <| And.intro @aSlice.eq_def <| And.intro @bndOf.eq_def <| And.intro @intOfA.eq_def <| And.intro @binA.eq_def <| And.intro @binV.eq_def <| And.intro @intV.eq_def <| And.intro @strV.eq_def <|
  And.intro @nilKind.eq_def <| And.intro @eqRes.eq_def <| And.intro @unV.eq_def <| And.intro @convV.eq_def <| And.intro @minV.eq_def <| And.intro @maxV.eq_def <| And.intro @aMinMax.eq_def <| And.intro @aBuiltin.eq_def <| And.intro @aAppend.eq_def <|
  And.intro @aXItems.eq_def <| And.intro @lenOf.eq_def <| And.intro @aLookup.eq_def <| And.intro @aMapUpdate.eq_def <| And.intro @zeroA.eq_def <| And.intro @TI.agg.eq_def <| And.intro @valOf.eq_def <| And.intro @valsL.eq_1 <| And.intro @valsL.eq_2 <|
  And.intro @arr_list <| And.intro @H_get <| And.intro @H_get0 <| And.intro @H_set <| And.intro @H_set0 <| And.intro @l_set0 <| And.intro @l_setS <| And.intro @l_getD0 <| And.intro @l_getDS <|
  And.intro @l_get0 <| And.intro @l_getS <| And.intro @o_mapS <| And.intro @o_mapN <| And.intro @o_bindS <| And.intro @o_bindN <| And.intro @l_mapC <| And.intro @l_mapN <|
  And.intro @l_lenA <| And.intro @l_lenC <| And.intro @l_lenN <| And.intro @l_appA <| And.intro @l_appC <| And.intro @l_appN <| And.intro @l_appE <|
  And.intro @l_allC <| And.intro @l_allN <| And.intro @Bool.and_true <| And.intro @Bool.true_and <| And.intro @Bool.false_eq_true <| And.intro @i_t <| And.intro @i_f <| And.intro @i_tp <| And.intro @i_fp <| And.intro @ite_tt <| And.intro @ite_ft <| And.intro @headStep.eq_def <| And.intro @headOp.eq_def <| And.intro @AV.bel.eq_def <| And.intro @belL.eq_1 <| And.intro @belL.eq_2 <| And.intro @lt_a <| And.intro @lt_a0 <| And.intro @o_tlS <| And.intro @o_tlN <| And.intro @o_gdS <| And.intro @ne_S <| And.intro @lt_S <| And.intro @e_self <| And.intro @t_and <| And.intro @and_t <| And.intro @l_drop0 <| And.intro @l_dropS <| And.intro @l_take0 <| And.intro @l_takeS <| And.intro @l_dropN <| And.intro @l_takeN <| And.intro @n_a0 <| And.intro @n_0a <| And.intro @l_lenM <| And.intro @arr_get trivial
end Av
end Go.Proofs.YtnkepmfgmfeabaaGreatDoor
set_option linter.unusedVariables false
set_option linter.unusedSimpArgs false
namespace Go.Proofs.YtnkepmfgmfeabaaGreatDoor
open Go Go.RowKit
namespace Av

/-! Runs of operations without calls. -/
theorem belM.mono {n m : Nat} (hm : n ≤ m) : ∀ (es : List (Value × AV)), belM n es → belM m es
 | [], h => h
 | p :: r, h => ⟨AV.bel.mono hm _ h.1, belM.mono hm r h.2⟩
theorem AObj.bel.mono {n m : Nat} (hm : n ≤ m) {o : AObj} (h : o.bel n) : o.bel m := by
 cases o with
 | box ty cells => exact belL.mono hm _ h
 | row ty k ver items => exact belL.mono hm _ h
 | mp kt et ks es => exact belM.mono hm _ h
 | free => trivial
 | dead => trivial
theorem HBel.mono {n m : Nat} {H : AHeap} (hm : n ≤ m) (h : HBel n H) : HBel m H := fun o ho => (h o ho).mono hm
theorem HBel.more {H G : AHeap} (h : HBel H.length H) (k : HBel (H ++ G).length G) : HBel (H ++ G).length (H ++ G) := (h.mono (by simp)).append k
theorem HBel.nil {n : Nat} : HBel n [] := fun _ h => nomatch h
theorem HBel.cons {n : Nat} {o : AObj} {H : AHeap} (h : o.bel n) (k : HBel n H) : HBel n (o :: H) := fun x hx => by
 rcases List.mem_cons.1 hx with rfl | hx
 ·exact h
 ·exact k x hx
theorem belL_app {n : Nat} : ∀ {a b : List AV}, belL n a → belL n b → belL n (a ++ b)
 | [], _, _, k => k
 | x :: a, b, h, k => by simp only [List.cons_append, belL] at h ⊢; exact ⟨h.1, belL_app h.2 k⟩
theorem belL_dL {n : Nat} : ∀ (l : List PD), belL n (dL l)
 | [] => by simp [dL, belL]
 | p :: l => by simp only [dL, List.map_cons, belL, AV.bel]; exact ⟨trivial, belL_dL l⟩
theorem bel_dI {n ty k ver : Nat} : ∀ (L : List (List PD)), (AObj.row ty k ver (dI L)).bel n
 | [] => by simp [AObj.bel, dI, belL]
 | it :: L => by
  show belL n ((dI (it :: L)).flatten)
  simp only [dI, List.map_cons, List.flatten_cons]
  exact belL_app (belL_dL it) (bel_dI (ty := ty) (k := k) (ver := ver) L)
theorem dI_len (L : List (List PD)) : (dI L).length = L.length := by simp [dI]
theorem dI_app (L M : List (List PD)) : dI L ++ dI M = dI (L ++ M) := by simp [dI]
def estep (tt : TTab) (ops : Array Oper) (o : Oper) : Option (List AV × AHeap) → Option (List AV × AHeap)
 | none => none
 | some (env, H) => match o.guard with
  | none => (astep tt H env o.op).map fun p => (aput env o.dst p.1, p.2)
  | some (j, want) => match yieldedA ops env j with
   | some y => if wantB y want = true then (astep tt H env o.op).map fun p => (aput env o.dst p.1, p.2) else some (aput env o.dst skipV, H)
   | none => none
def erun (tt : TTab) (ops : Array Oper) : Nat → List Oper → Option (List AV × AHeap) → Option (List AV × AHeap)
 | 0, _, s => s
 | _ + 1, [], s => s
 | n + 1, o :: l, s => match acall ((s.map (·.1)).getD []) o.op with
  | some _ => none
  | none => erun tt ops n l (estep tt ops o s)
def eall (tt : TTab) (ops : Array Oper) : List Oper → Option (List AV × AHeap) → Option (List AV × AHeap)
 | [], s => s
 | o :: l, s => match acall ((s.map (·.1)).getD []) o.op with
  | some _ => none
  | none => eall tt ops l (estep tt ops o s)
theorem eall_erun {tt : TTab} {ops : Array Oper} : ∀ (l : List Oper) (s : Option (List AV × AHeap)), eall tt ops l s = erun tt ops l.length l s
 | [], s => rfl
 | o :: l, s => by
  simp only [eall, List.length_cons, erun]
  split
  ·rfl
  ·exact eall_erun l _
def hstep (tt : TTab) (ops : Array Oper) (o : Oper) : Option (List AV × AHeap × Prop) → Option (List AV × AHeap × Prop)
 | none => none
 | some (env, H, C) => if headOp o.op = true then match o.guard with
  | none => (headStep tt H env o.op).map fun p => (aput env o.dst p.1, H ++ p.2.toList, C ∧ p.1.bel (H ++ p.2.toList).length)
  | some (j, want) => match yieldedA ops env j with
   | some y => if wantB y want = true then (headStep tt H env o.op).map fun p => (aput env o.dst p.1, H ++ p.2.toList, C ∧ p.1.bel (H ++ p.2.toList).length) else some (aput env o.dst skipV, H, C)
   | none => none
  else none
def hrun (tt : TTab) (ops : Array Oper) : Nat → List Oper → Option (List AV × AHeap × Prop) → Option (List AV × AHeap × Prop)
 | 0, _, s => s
 | _ + 1, [], s => s
 | n + 1, o :: l, s => match acall ((s.map (·.1)).getD []) o.op with
  | some _ => none
  | none => hrun tt ops n l (hstep tt ops o s)
section
variable {P : Program} {tt : TTab} {base : World} {ops : Array Oper} {N0 : Nat} {K : List AV → AHeap → Prop}

theorem erun_none : ∀ (n : Nat) (l : List Oper), erun tt ops n l none = none
 | 0, _ => rfl
 | _ + 1, [] => rfl
 | n + 1, o :: l => by
  simp only [erun]
  split
  ·rfl
  ·exact erun_none n l
theorem hrun_none : ∀ (n : Nat) (l : List Oper), hrun tt ops n l none = none
 | 0, _ => rfl
 | _ + 1, [] => rfl
 | n + 1, o :: l => by
  simp only [hrun]
  split
  ·rfl
  ·exact hrun_none n l
theorem aops_run : ∀ (n : Nat) {l : List Oper} {env env' : List AV} {H H' : AHeap}, erun tt ops n l (some (env, H)) = some (env', H') → AOps P tt base ops (l.drop n) env' H' K → AOps P tt base ops l env H K
 | 0, l, env, env', H, H', h, k => by
  simp only [erun, Option.some.injEq, Prod.mk.injEq] at h
  obtain ⟨rfl, rfl⟩ := h
  exact k
 | n + 1, [], env, env', H, H', h, k => by
  simp only [erun, Option.some.injEq, Prod.mk.injEq] at h
  obtain ⟨rfl, rfl⟩ := h
  exact k
 | n + 1, o :: l, env, env', H, H', h, k => by
  simp only [erun, Option.map_some, Option.getD_some] at h
  split at h
  ·cases h
  ·rename_i hc
   simp only [AOps, AGuard]
   unfold estep at h
   simp only at h
   cases hg : o.guard with
   | none =>
    rw [hg] at h
    simp only at h
    simp only [AStep, hc]
    cases hs : astep tt H env o.op with
    | none => rw [hs] at h; simp only [Option.map_none] at h; rw [erun_none] at h; cases h
    | some p =>
     rw [hs] at h
     obtain ⟨r, H2⟩ := p
     exact aops_run n h k
   | some g =>
    obtain ⟨j, want⟩ := g
    rw [hg] at h
    simp only at h ⊢
    cases hy : yieldedA ops env j with
    | none => rw [hy] at h; simp only at h; rw [erun_none] at h; cases h
    | some b =>
     rw [hy] at h
     simp only at h ⊢
     by_cases hb : wantB b want = true
     ·rw [if_pos hb] at h ⊢
      simp only [AStep, hc]
      cases hs : astep tt H env o.op with
      | none => rw [hs] at h; simp only [Option.map_none] at h; rw [erun_none] at h; cases h
      | some p =>
       rw [hs] at h
       obtain ⟨r, H2⟩ := p
       exact aops_run n h k
     ·rw [if_neg hb] at h ⊢
      exact aops_run n h k
theorem ahops_run_C : ∀ (n : Nat) {l : List Oper} {env env' : List AV} {H H' : AHeap} {C C' : Prop}, hrun tt ops n l (some (env, H, C)) = some (env', H', C') → C' → C
 | 0, l, env, env', H, H', C, C', h, hC => by
  simp only [hrun, Option.some.injEq, Prod.mk.injEq] at h
  obtain ⟨_, _, rfl⟩ := h
  exact hC
 | n + 1, [], env, env', H, H', C, C', h, hC => by
  simp only [hrun, Option.some.injEq, Prod.mk.injEq] at h
  obtain ⟨_, _, rfl⟩ := h
  exact hC
 | n + 1, o :: l, env, env', H, H', C, C', h, hC => by
  simp only [hrun, Option.map_some, Option.getD_some] at h
  split at h
  ·cases h
  ·unfold hstep at h
   by_cases hh : headOp o.op = true
   ·simp only [hh, if_true] at h
    have go : ∀ x : Option (AV × Option AObj), hrun tt ops n l (x.map fun p => (aput env o.dst p.1, H ++ p.2.toList, C ∧ p.1.bel (H ++ p.2.toList).length)) = some (env', H', C') → C := fun x hx => by
     cases x with
     | none => simp only [Option.map_none] at hx; rw [hrun_none] at hx; cases hx
     | some p => exact (ahops_run_C n hx hC).1
    split at h
    ·exact go _ h
    ·split at h
     ·split at h
      ·exact go _ h
      ·exact ahops_run_C n h hC
     ·rw [hrun_none] at h; cases h
   ·simp only [if_neg hh] at h; rw [hrun_none] at h; cases h
theorem ahops_run : ∀ (n : Nat) {l : List Oper} {env env' : List AV} {H H' : AHeap} {C C' : Prop}, hrun tt ops n l (some (env, H, C)) = some (env', H', C') → C' → AHOps P tt base N0 ops (l.drop n) env' H' K → AHOps P tt base N0 ops l env H K
 | 0, l, env, env', H, H', C, C', h, hC, k => by
  simp only [hrun, Option.some.injEq, Prod.mk.injEq] at h
  obtain ⟨rfl, rfl, _⟩ := h
  exact k
 | n + 1, [], env, env', H, H', C, C', h, hC, k => by
  simp only [hrun, Option.some.injEq, Prod.mk.injEq] at h
  obtain ⟨rfl, rfl, _⟩ := h
  exact k
 | n + 1, o :: l, env, env', H, H', C, C', h, hC, k => by
  simp only [hrun, Option.map_some, Option.getD_some] at h
  split at h
  ·cases h
  ·rename_i hc
   simp only [AHOps, AGuard]
   unfold hstep at h
   by_cases hh : headOp o.op = true
   ·simp only [hh, if_true] at h
    have go : hrun tt ops n l ((headStep tt H env o.op).map fun p => (aput env o.dst p.1, H ++ p.2.toList, C ∧ p.1.bel (H ++ p.2.toList).length)) = some (env', H', C') →
      AHStep P tt base N0 env H o.op fun r H' => AHOps P tt base N0 ops l (aput env o.dst r) H' K := fun hx => by
     simp only [AHStep, hc, hh, true_and]
     cases hs : headStep tt H env o.op with
     | none => rw [hs] at hx; simp only [Option.map_none] at hx; rw [hrun_none] at hx; cases hx
     | some p =>
      rw [hs] at hx
      obtain ⟨r, q⟩ := p
      simp only [Option.map_some] at hx
      have hb := (ahops_run_C n hx hC).2
      have hk := ahops_run n hx hC k
      cases q with
      | none =>
       simp only [Option.toList_none, List.append_nil] at hb hk
       exact ⟨hb, hk⟩
      | some ob =>
       simp only [Option.toList_some] at hb hk
       exact ⟨by simpa using hb, hk⟩
    cases hg : o.guard with
    | none => rw [hg] at h; exact go h
    | some g =>
     obtain ⟨j, want⟩ := g
     rw [hg] at h
     simp only at h ⊢
     cases hy : yieldedA ops env j with
     | none => rw [hy] at h; simp only at h; rw [hrun_none] at h; cases h
     | some b =>
      rw [hy] at h
      simp only at h ⊢
      by_cases hb : wantB b want = true
      ·rw [if_pos hb] at h ⊢; exact go h
      ·rw [if_neg hb] at h ⊢; exact ahops_run n h hC k
   ·simp only [if_neg hh] at h; rw [hrun_none] at h; cases h
theorem ahops_runT (n : Nat) {l : List Oper} {env env' : List AV} {H H' : AHeap} (h : hrun tt ops n l (some (env, H, True)) = some (env', H', True)) (k : AHOps P tt base N0 ops (l.drop n) env' H' K) : AHOps P tt base N0 ops l env H K := ahops_run n h trivial k
theorem aops_nil {env : List AV} {H : AHeap} (k : K env H) : AOps P tt base ops [] env H K := k
theorem ahops_nil {env : List AV} {H : AHeap} (k : K env H) : AHOps P tt base N0 ops [] env H K := k
theorem aops_call {o : Oper} {rest : List Oper} {env : List AV} {H : AHeap} {f : FuncId} {args : List AV} (hg : o.guard = none) (hc : acall env o.op = some (f, args)) (h : ∃ R, CallsA P base f args H R ∧ ∀ r H', R r H' → H.length ≤ H'.length → AOps P tt base ops rest (aput env o.dst r) H' K) : AOps P tt base ops (o :: rest) env H K := by
 simp only [AOps, AGuard, hg, AStep, hc]
 exact h
theorem ahops_call {o : Oper} {rest : List Oper} {env : List AV} {H : AHeap} {f : FuncId} {args : List AV} (hg : o.guard = none) (hc : acall env o.op = some (f, args)) (h : ∃ r, (∀ Hx : AHeap, (∀ l, l < N0 ∨ l ∈ refsL args → Hx[l]? = H[l]?) → CallsA P base f args Hx fun r' H' => r' = r ∧ H' = Hx) ∧ r.bel H.length ∧ AHOps P tt base N0 ops rest (aput env o.dst r) H K) : AHOps P tt base N0 ops (o :: rest) env H K := by
 simp only [AHOps, AGuard, hg, AHStep, hc]
 exact h
theorem aops_pure {o : Oper} {rest : List Oper} {env env' : List AV} {H : AHeap} {f : FuncId} {args : List AV} {r : AV} (hg : o.guard = none) (hc : acall env o.op = some (f, args)) (h : PureA P base f args r) (he : aput env o.dst r = env') (k : AOps P tt base ops rest env' H K) : AOps P tt base ops (o :: rest) env H K :=
 aops_call hg hc (at_pure h (by rw [he]; exact k))
theorem aops_view {o : Oper} {rest : List Oper} {env env' : List AV} {H : AHeap} {f : FuncId} {args args' : List AV} {r : AV} (hg : o.guard = none) (hc : acall env o.op = some (f, args)) (h : PureA P base f args' r) (hv : viewL H args = some args') (hf : flatA r = true) (he : aput env o.dst r = env') (k : AOps P tt base ops rest env' H K) : AOps P tt base ops (o :: rest) env H K :=
 aops_call hg hc (at_view h hv hf (by rw [he]; exact k))
theorem ahops_pure {o : Oper} {rest : List Oper} {env env' : List AV} {H : AHeap} {f : FuncId} {args : List AV} {r : AV} (hg : o.guard = none) (hc : acall env o.op = some (f, args)) (h : PureA P base f args r) (hb : r.bel H.length) (he : aput env o.dst r = env') (k : AHOps P tt base N0 ops rest env' H K) : AHOps P tt base N0 ops (o :: rest) env H K :=
 ahops_call hg hc (hd_pure (C := fun r H => AHOps P tt base N0 ops rest (aput env o.dst r) H K) h hb (by rw [he]; exact k))
/-- a function that reads what lies there, and leaves it -/
def ReadA (P : Program) (base : World) (f : FuncId) (args : List AV) (H : AHeap) (r : AV) : Prop := CallsA P base f args H fun r' H' => r' = r ∧ H' = H
theorem aops_read {o : Oper} {rest : List Oper} {env env' : List AV} {H : AHeap} {f : FuncId} {args : List AV} {r : AV} (hg : o.guard = none) (hc : acall env o.op = some (f, args)) (h : ReadA P base f args H r) (he : aput env o.dst r = env') (k : AOps P tt base ops rest env' H K) : AOps P tt base ops (o :: rest) env H K :=
 aops_call hg hc ⟨_, h, fun r' H' ⟨e1, e2⟩ _ => by rw [e1, e2, he]; exact k⟩
theorem ahops_read {o : Oper} {rest : List Oper} {env env' : List AV} {H : AHeap} {f : FuncId} {args : List AV} {r : AV} (hg : o.guard = none) (hc : acall env o.op = some (f, args)) (h : ∀ Hx : AHeap, (∀ l, l < N0 ∨ l ∈ refsL args → Hx[l]? = H[l]?) → ReadA P base f args Hx r) (hb : r.bel H.length) (he : aput env o.dst r = env') (k : AHOps P tt base N0 ops rest env' H K) : AHOps P tt base N0 ops (o :: rest) env H K :=
 ahops_call hg hc ⟨r, h, hb, by rw [he]; exact k⟩
theorem aops_on {o : Oper} {rest : List Oper} {env : List AV} {H : AHeap} {j : Nat} {want : Bool} (hg : o.guard = some (j, want)) (hy : yieldedA ops env j = some (some want)) (h : AOps P tt base ops ({ o with guard := none } :: rest) env H K) : AOps P tt base ops (o :: rest) env H K := by
 have hw : wantB (some want) want = true := by cases want <;> rfl
 simp only [AOps, AGuard, hg, hy, hw, if_true] at h ⊢
 exact h
theorem ahops_on {o : Oper} {rest : List Oper} {env : List AV} {H : AHeap} {j : Nat} {want : Bool} (hg : o.guard = some (j, want)) (hy : yieldedA ops env j = some (some want)) (h : AHOps P tt base N0 ops ({ o with guard := none } :: rest) env H K) : AHOps P tt base N0 ops (o :: rest) env H K := by
 have hw : wantB (some want) want = true := by cases want <;> rfl
 simp only [AHOps, AGuard, hg, hy, hw, if_true] at h ⊢
 exact h
end
section
variable {X : Ctx} {Q : Exit → List AV → AHeap → Prop} {env env' : List AV} {H H' : AHeap}
/-- a region without calls -/
theorem aw_run {id : Nat} {ops : Array Oper} (hT : TabOk X.P X.tt) (hc : opsConst ops = true) (h : eall X.tt ops ops.toList (some (env, H)) = some (env', H')) (k : Q .normal env' H') : AW X (.region id ops false) Q env H :=
 aw_region hT hc (aops_run ops.toList.length (by rw [← eall_erun]; exact h) (by rw [List.drop_of_length_le (by simp)]; exact k))
theorem aw_drun {id : Nat} {ops : Array Oper} {env'' : List AV} {H'' : AHeap} (n : Nat) (hT : TabOk X.P X.tt) (hm : X.P.follows .mixedOrders = true) (hc : opsConst ops = true) (hB : kindB .any ops n = true) (hTl : tailB .any ops n = true)
  (h : hrun X.tt ops n (ops.toList.take n) (some (env, H, True)) = some (env', H', True)) (ht : eall X.tt ops (ops.toList.drop n) (some (env', H')) = some (env'', H'')) (k : Q .normal env'' H'') : AW X (.region id ops true) Q env H :=
 aw_draw n hT hm hc hB hTl (ahops_runT n h (by
  rw [List.drop_of_length_le (by rw [List.length_take]; exact Nat.min_le_left _ _)]
  exact aops_run (ops.toList.drop n).length (by rw [← eall_erun]; exact ht) (by rw [List.drop_of_length_le (Nat.le_refl _)]; exact k)))
end
end Av
end Go.Proofs.YtnkepmfgmfeabaaGreatDoor
set_option linter.unusedVariables false
namespace Go.Proofs.YtnkepmfgmfeabaaGreatDoor
open Go Go.RowKit

/-! the mixing of 64 bits -/
def mixB (z : BitVec 64) : BitVec 64 :=
 let a := z * 2862933555777941757#64
 let b := (a ^^^ (a >>> 32)) * 3935559000370003845#64
 b ^^^ (b >>> 29)

def mixI (z : Int) : Int :=
 bits BinOp.xor IntKind.u64 (IntKind.u64.wrap (bits BinOp.xor IntKind.u64 (IntKind.u64.wrap (z * 2862933555777941757)) (IntKind.u64.wrap (z * 2862933555777941757) / 4294967296) * 3935559000370003845))
  (IntKind.u64.wrap (bits BinOp.xor IntKind.u64 (IntKind.u64.wrap (z * 2862933555777941757)) (IntKind.u64.wrap (z * 2862933555777941757) / 4294967296) * 3935559000370003845) / 536870912)

theorem wrapU (n : Int) : IntKind.u64.wrap n = n % 18446744073709551616 := by simp [IntKind.wrap, IntKind.bits, IntKind.signed]
theorem wrap_toNat (v : BitVec 64) : IntKind.u64.wrap (v.toNat : Int) = (v.toNat : Int) := by rw [wrapU]; have := v.isLt; omega
theorem xorB (a b : BitVec 64) : bits BinOp.xor IntKind.u64 (a.toNat : Int) (b.toNat : Int) = ((a ^^^ b).toNat : Int) := by
 have ha : BitVec.ofInt IntKind.u64.bits (a.toNat : Int) = a := by rw [BitVec.ofInt_natCast]; exact BitVec.ofNat_toNat 64 a ▸ (by simp [IntKind.bits])
 have hb : BitVec.ofInt IntKind.u64.bits (b.toNat : Int) = b := by rw [BitVec.ofInt_natCast]; exact BitVec.ofNat_toNat 64 b ▸ (by simp [IntKind.bits])
 simp only [bits, ha, hb]
 exact wrap_toNat _
theorem mulB (a : BitVec 64) (c : Nat) : IntKind.u64.wrap ((a.toNat : Int) * (c : Int)) = ((a * BitVec.ofNat 64 c).toNat : Int) := by
 rw [wrapU, BitVec.toNat_mul, BitVec.toNat_ofNat, Nat.mul_mod_mod, Int.natCast_emod, Int.natCast_mul]
 rfl
theorem shrB32 (a : BitVec 64) (d : Int) (hd : d = 4294967296) : (a.toNat : Int) / d = ((a >>> 32).toNat : Int) := by
 subst hd
 rw [BitVec.toNat_ushiftRight, Nat.shiftRight_eq_div_pow]; rfl
theorem shrB29 (a : BitVec 64) (d : Int) (hd : d = 536870912) : (a.toNat : Int) / d = ((a >>> 29).toNat : Int) := by
 subst hd
 rw [BitVec.toNat_ushiftRight, Nat.shiftRight_eq_div_pow]; rfl
theorem mixI_eq (z : BitVec 64) : mixI (z.toNat : Int) = ((mixB z).toNat : Int) := by
 unfold mixI mixB
 rw [show ((2862933555777941757 : Int)) = ((2862933555777941757 : Nat) : Int) from rfl, show ((3935559000370003845 : Int)) = ((3935559000370003845 : Nat) : Int) from rfl]
 rw [mulB, shrB32 _ _ rfl, xorB, mulB, shrB29 _ _ rfl, xorB]

end Go.Proofs.YtnkepmfgmfeabaaGreatDoor
set_option linter.unusedVariables false
namespace Go.Proofs.YtnkepmfgmfeabaaGreatDoor
open Go Go.RowKit

/-! blocks, states, digits -/
def byteAt (t : List UInt8) (i : Nat) : Nat := (t[i]?.getD 0).toNat
def blk (t : List UInt8) (f : Nat) : Nat → Nat
 | 0 => 0
 | k + 1 => blk t f k * 256 + byteAt t (f + k)
def st (t : List UInt8) : Nat → BitVec 64
 | 0 => 2611923443488327891#64 ^^^ BitVec.ofNat 64 t.length
 | j + 1 => mixB (st t j ^^^ BitVec.ofNat 64 (blk t (8 * j) 8))
def endSt (t : List UInt8) : BitVec 64 := st t (t.length / 8 + 1)
def dig (n : Nat) : UInt8 := if n < 10 then UInt8.ofNat (48 + n) else UInt8.ofNat (87 + n)
def low : Nat → Nat → List UInt8
 | 0, _ => []
 | k + 1, n => dig (n / 16 ^ k % 16) :: low k n
def hexLen (n : Nat) : Nat := if n < 16 then 1 else hexLen (n / 16) + 1
termination_by n
def sumL (t : List UInt8) : List UInt8 := low 16 (endSt t).toNat
def sumS (t : ByteArray) : ByteArray := ⟨(sumL t.data.toList).toArray⟩

theorem byteAt_lt (t : List UInt8) (i : Nat) : byteAt t i < 256 := by
 unfold byteAt; exact UInt8.toNat_lt _
theorem blk_lt (t : List UInt8) (f k : Nat) : blk t f k < 256 ^ k := by
 induction k with
 | zero => simp [blk]
 | succ k ih => simp only [blk]; have := byteAt_lt t (f + k); rw [Nat.pow_succ]; omega
theorem blk8_lt (t : List UInt8) (f : Nat) : blk t f 8 < 18446744073709551616 := by
 have := blk_lt t f 8; simpa using this
theorem low_length (k n : Nat) : (low k n).length = k := by
 induction k with
 | zero => rfl
 | succ k ih => simp [low, ih]
theorem dig_toNat (n : Nat) (h : n < 16) : (dig n).toNat = if n < 10 then 48 + n else 87 + n := by
 have : ∀ m : Fin 16, (dig m.val).toNat = if m.val < 10 then 48 + m.val else 87 + m.val := by decide
 exact this ⟨n, h⟩
theorem dig_inj {n m : Nat} (hn : n < 16) (hm : m < 16) (h : dig n = dig m) : n = m := by
 have := congrArg UInt8.toNat h
 rw [dig_toNat n hn, dig_toNat m hm] at this
 split at this <;> split at this <;> omega
theorem low_inj (k : Nat) : ∀ {n m : Nat}, n < 16 ^ k → m < 16 ^ k → low k n = low k m → n = m := by
 induction k with
 | zero => intro n m hn hm _; simp at hn hm; omega
 | succ k ih =>
  intro n m hn hm h
  simp only [low, List.cons.injEq] at h
  have hp : 0 < 16 ^ k := Nat.two_pow_pos 0 |> fun _ => Nat.pow_pos (by decide)
  have en : n / 16 ^ k < 16 := by rw [Nat.pow_succ] at hn; exact (Nat.div_lt_iff_lt_mul hp).2 (by omega)
  have em : m / 16 ^ k < 16 := by rw [Nat.pow_succ] at hm; exact (Nat.div_lt_iff_lt_mul hp).2 (by omega)
  have h1 := dig_inj (Nat.mod_lt _ (by decide)) (Nat.mod_lt _ (by decide)) h.1
  rw [Nat.mod_eq_of_lt en, Nat.mod_eq_of_lt em] at h1
  have lowmod : ∀ j q, j ≤ k → low j q = low j (q % 16 ^ k) := by
   intro j
   induction j with
   | zero => intro q _; rfl
   | succ j ihj =>
    intro q hj
    simp only [low]
    rw [← ihj q (by omega)]
    have : q / 16 ^ j % 16 = q % 16 ^ k / 16 ^ j % 16 := by
     have hk : 16 ^ k = 16 ^ j * (16 * 16 ^ (k - j - 1)) := by rw [← Nat.mul_assoc, ← Nat.pow_succ, ← Nat.pow_add]; congr 1; omega
     rw [hk, Nat.mod_mul_right_div_self, Nat.mod_mul_right_mod]
    rw [this]
  have h2 := ih (Nat.mod_lt n hp) (Nat.mod_lt m hp) (by rw [← lowmod k n (Nat.le_refl _), ← lowmod k m (Nat.le_refl _)]; exact h.2)
  rw [← Nat.div_add_mod n (16 ^ k), ← Nat.div_add_mod m (16 ^ k), h1, h2]

theorem hexLen_pos (n : Nat) : 1 ≤ hexLen n := by unfold hexLen; split <;> omega
theorem hexLen_spec (n : Nat) : n < 16 ^ hexLen n := by
 induction n using Nat.strongRecOn with
 | _ n ih =>
  unfold hexLen
  split
  ·simpa using by assumption
  ·have := ih (n / 16) (by omega)
   rw [Nat.pow_succ]
   omega
theorem hexLen_le (k n : Nat) (h : n < 16 ^ (k + 1)) : hexLen n ≤ k + 1 := by
 induction k generalizing n with
 | zero => unfold hexLen; simp at h; rw [if_pos h]; omega
 | succ k ih =>
  unfold hexLen
  split
  ·omega
  ·have := ih (n / 16) (by rw [Nat.pow_succ] at h; omega)
   omega
theorem hexLen_le16 (n : Nat) (h : n < 18446744073709551616) : hexLen n ≤ 16 := hexLen_le 15 n (by simpa using h)
theorem hexLen_small (n : Nat) (h : n < 16) : hexLen n = 1 := by unfold hexLen; rw [if_pos h]
theorem hexLen_big (n : Nat) (h : 16 ≤ n) : hexLen n = hexLen (n / 16) + 1 := by
 conv => lhs; unfold hexLen
 rw [if_neg (by omega)]
theorem low_high (m k n : Nat) (h : n < 16 ^ m) : low (k + m) n = List.replicate k 48 ++ low m n := by
 induction k with
 | zero => simp
 | succ k ih =>
  rw [show k + 1 + m = (k + m) + 1 by omega, low, ih, List.replicate_succ, List.cons_append]
  have : n / 16 ^ (k + m) = 0 := Nat.div_eq_of_lt (Nat.lt_of_lt_of_le h (Nat.pow_le_pow_right (by decide) (by omega)))
  rw [this]; rfl
theorem low_pad (n : Nat) (h : n < 18446744073709551616) : low 16 n = List.replicate (16 - hexLen n) 48 ++ low (hexLen n) n := by
 have h16 := hexLen_le16 n h
 have := low_high (hexLen n) (16 - hexLen n) n (hexLen_spec n)
 rwa [show 16 - hexLen n + hexLen n = 16 by omega] at this

theorem sumL_length (t : List UInt8) : (sumL t).length = 16 := low_length _ _
end Go.Proofs.YtnkepmfgmfeabaaGreatDoor
set_option linter.unusedVariables false
namespace Go.Proofs.YtnkepmfgmfeabaaGreatDoor
open Go Go.RowKit

/-! equal digests of short texts, of texts that differ in one block -/
theorem toNat_small (n : Nat) (h : n < 18446744073709551616) : (BitVec.ofNat 64 n).toNat = n := by
 rw [BitVec.toNat_ofNat]; exact Nat.mod_eq_of_lt (by simpa using h)
theorem byteAt_ge {t : List UInt8} {i : Nat} (h : t.length ≤ i) : byteAt t i = 0 := by
 unfold byteAt; rw [List.getElem?_eq_none h]; rfl
end Go.Proofs.YtnkepmfgmfeabaaGreatDoor
set_option linter.unusedVariables false
namespace Go.Proofs.YtnkepmfgmfeabaaGreatDoor
open Go Go.RowKit

/-! lists, chains, the form of a digest -/
def joinL : List (List UInt8) → List UInt8
 | [] => []
 | s :: r => Lib.decDigits s.length ++ 58 :: (s ++ joinL r)
def chainL (t : List UInt8) : Nat → List UInt8
 | 0 => t
 | n + 1 => sumL (chainL t n)
def hexd (c : UInt8) : Bool := (48 ≤ c.toNat && c.toNat ≤ 57) || (97 ≤ c.toNat && c.toNat ≤ 102)
def isL (t : List UInt8) : Bool := t.length == 16 && t.all hexd

theorem chainL_succ (t : List UInt8) (n : Nat) : chainL t (n + 1) = sumL (chainL t n) := rfl
theorem chainL_add (t : List UInt8) (a b : Nat) : chainL (chainL t a) b = chainL t (a + b) := by
 induction b with
 | zero => rfl
 | succ b ih => rw [chainL_succ, ih, ← Nat.add_assoc, chainL_succ]
theorem chainL_tail (t : List UInt8) (n : Nat) : chainL (sumL t) n = chainL t (n + 1) := by
 rw [Nat.add_comm]; exact chainL_add t 1 n

theorem hexd_dig (n : Nat) (h : n < 16) : hexd (dig n) = true := by
 have : ∀ m : Fin 16, hexd (dig m.val) = true := by decide
 exact this ⟨n, h⟩
theorem low_hexd (k n : Nat) : (low k n).all hexd = true := by
 induction k with
 | zero => rfl
 | succ k ih => simp only [low, List.all_cons, ih, hexd_dig _ (Nat.mod_lt _ (by decide : 0 < 16)), Bool.and_self]
theorem isL_sum (t : List UInt8) : isL (sumL t) = true := by
 unfold isL
 rw [sumL_length]
 simp only [sumL, low_hexd]
 rfl
theorem dec_toNat (n : Nat) (h : n < 10) : (UInt8.ofNat (48 + n)).toNat = 48 + n := by
 have : ∀ m : Fin 10, (UInt8.ofNat (48 + m.val)).toNat = 48 + m.val := by decide
 exact this ⟨n, h⟩
theorem joinL_append (l m : List (List UInt8)) : joinL (l ++ m) = joinL l ++ joinL m := by
 induction l with
 | nil => rfl
 | cons s r ih => simp only [List.cons_append, joinL, ih, List.append_assoc]

end Go.Proofs.YtnkepmfgmfeabaaGreatDoor
set_option linter.unusedVariables false
namespace Go.Proofs
open Go.Shelf
def Tryz.lays169_ren : Go.Shelf.Ren := ⟨fun | 169 => 58 | n => n, fun | 70 => 98 | 9 => 9 | 0 => 0 | 72 => 100 | 37 => 64 | 127 => 128 | 3 => 3 | 5 => 5 | n => n, fun | n => n⟩
theorem Tryz.lays169 : Go.Proofs.Lays.n169 Tryz.prog Tryz.lays169_ren := {
 mixed := by kernel_rfl
 f169 := Tryz.func58.trans (congrArg some (by kernel_rfl))
 t0 := Tryz.underlying0
 a0 := Tryz.isAgg0
 z0 := Tryz.sizeOf0
 v0 := Tryz.zeroValue0
 t3 := Tryz.underlying3
 a3 := Tryz.isAgg3
 z3 := Tryz.sizeOf3
 v3 := Tryz.zeroValue3
 t9 := Tryz.underlying9
 a9 := Tryz.isAgg9
 z9 := Tryz.sizeOf9
 v9 := Tryz.zeroValue9
 t37 := Tryz.underlying64
 a37 := Tryz.isAgg64
 z37 := Tryz.sizeOf64
 v37 := Tryz.zeroValue64
 t70 := Tryz.underlying98
 a70 := Tryz.isAgg98
 z70 := Tryz.sizeOf98
 v70 := Tryz.zeroValue98
 t72 := Tryz.underlying100
 a72 := Tryz.isAgg100
 z72 := Tryz.sizeOf100
 v72 := Tryz.zeroValue100
 t127 := Tryz.underlying128
 a127 := Tryz.isAgg128
 z127 := Tryz.sizeOf128
 v127 := Tryz.zeroValue128 }
theorem Tryz.Builder_Extra_169 : Builder.Extra Tryz.prog Tryz.lays169_ren := {
 sizeBuilder := by kernel_rfl
 liesBuilder := by kernel_rfl
 t5 := Tryz.underlying5
 a5 := Tryz.isAgg5
 z5 := Tryz.sizeOf5
 v5 := Tryz.zeroValue5
 infoByte := by kernel_rfl
 cellsByte := by kernel_rfl
 sizeByte := by kernel_rfl
 neB5 := by decide }
open Go.RowKit in
/-- (*strings.Builder).String: "String returns the accumulated string.": WHATEVER THE BUILDER HOLDS. (LAID: no walk: one application.) -/
theorem Tryz.Builder_String_any (B b : Nat) (l : List UInt8) (w : World) (h : Lib.IsBuilder 100 5 B b (Lib.byteCells l) w) (hBw : B ≤ w.heap.size) :
  Calls Tryz.prog 58 #[.pointer (some ⟨b, 0, none⟩)] w fun e w' => e = .returned (.string ⟨l.toArray⟩) ∧ Below B w w' := Any.Builder_String_any Tryz.lays169 Tryz.Builder_Extra_169 B b l w h hBw
def Tryz.lays160_ren : Go.Shelf.Ren := ⟨fun | 160 => 64 | 232 => 94 | 231 => 93 | 227 => 95 | 234 => 97 | 233 => 96 | 236 => 99 | 235 => 98 | 228 => 119 | 271 => 122 | 151 => 121 | 197 => 120 | 120 => 132 | 152 => 131 | 260 => 130 | 137 => 110 | 119 => 137 | 224 => 138 | 225 => 139 | 217 => 127 | 266 => 136 | n => n, fun | 9 => 9 | 4 => 4 | 3 => 3 | 5 => 5 | 117 => 142 | 116 => 141 | 0 => 0 | 124 => 145 | 21 => 21 | 105 => 163 | 46 => 108 | 119 => 177 | 139 => 180 | 138 => 179 | n => n, fun | 3 => 4 | 4 => 5 | n => n⟩
theorem Tryz.lays160 : Go.Proofs.Lays.n160 Tryz.prog Tryz.lays160_ren := {
 mixed := by kernel_rfl
 f119 := Tryz.func137.trans (congrArg some (by kernel_rfl))
 f120 := Tryz.func132.trans (congrArg some (by kernel_rfl))
 f137 := Tryz.func110.trans (congrArg some (by kernel_rfl))
 f151 := Tryz.func121.trans (congrArg some (by kernel_rfl))
 f152 := Tryz.func131.trans (congrArg some (by kernel_rfl))
 f160 := Tryz.func64.trans (congrArg some (by kernel_rfl))
 f197 := Tryz.func120.trans (congrArg some (by kernel_rfl))
 f217 := Tryz.func127.trans (congrArg some (by kernel_rfl))
 f224 := Tryz.func138.trans (congrArg some (by kernel_rfl))
 f225 := Tryz.func139.trans (congrArg some (by kernel_rfl))
 f227 := Tryz.func95.trans (congrArg some (by kernel_rfl))
 f228 := Tryz.func119.trans (congrArg some (by kernel_rfl))
 f231 := Tryz.func93.trans (congrArg some (by kernel_rfl))
 f232 := Tryz.func94.trans (congrArg some (by kernel_rfl))
 f233 := Tryz.func96.trans (congrArg some (by kernel_rfl))
 f234 := Tryz.func97.trans (congrArg some (by kernel_rfl))
 f235 := Tryz.func98.trans (congrArg some (by kernel_rfl))
 f236 := Tryz.func99.trans (congrArg some (by kernel_rfl))
 f260 := Tryz.func130.trans (congrArg some (by kernel_rfl))
 f266 := Tryz.func136.trans (congrArg some (by kernel_rfl))
 f271 := Tryz.func122.trans (congrArg some (by kernel_rfl))
 t0 := Tryz.underlying0
 a0 := Tryz.isAgg0
 z0 := Tryz.sizeOf0
 v0 := Tryz.zeroValue0
 t3 := Tryz.underlying3
 a3 := Tryz.isAgg3
 z3 := Tryz.sizeOf3
 v3 := Tryz.zeroValue3
 t4 := Tryz.underlying4
 a4 := Tryz.isAgg4
 z4 := Tryz.sizeOf4
 v4 := Tryz.zeroValue4
 t5 := Tryz.underlying5
 a5 := Tryz.isAgg5
 z5 := Tryz.sizeOf5
 v5 := Tryz.zeroValue5
 t9 := Tryz.underlying9
 a9 := Tryz.isAgg9
 z9 := Tryz.sizeOf9
 v9 := Tryz.zeroValue9
 t21 := Tryz.underlying21
 a21 := Tryz.isAgg21
 z21 := Tryz.sizeOf21
 v21 := Tryz.zeroValue21
 t46 := Tryz.underlying108
 a46 := Tryz.isAgg108
 z46 := Tryz.sizeOf108
 v46 := Tryz.zeroValue108
 t105 := Tryz.underlying163
 a105 := Tryz.isAgg163
 z105 := Tryz.sizeOf163
 v105 := Tryz.zeroValue163
 t116 := Tryz.underlying141
 a116 := Tryz.isAgg141
 z116 := Tryz.sizeOf141
 t117 := Tryz.underlying142
 a117 := Tryz.isAgg142
 z117 := Tryz.sizeOf142
 v117 := Tryz.zeroValue142
 t119 := Tryz.underlying177
 a119 := Tryz.isAgg177
 z119 := Tryz.sizeOf177
 t124 := Tryz.underlying145
 a124 := Tryz.isAgg145
 z124 := Tryz.sizeOf145
 v124 := Tryz.zeroValue145
 t138 := Tryz.underlying179
 a138 := Tryz.isAgg179
 z138 := Tryz.sizeOf179
 v138 := Tryz.zeroValue179
 t139 := Tryz.underlying180
 a139 := Tryz.isAgg180
 z139 := Tryz.sizeOf180
 v139 := Tryz.zeroValue180
 g3 := by kernel_rfl
 g4 := by kernel_rfl }
def Tryz.lays137_ren : Go.Shelf.Ren := ⟨fun | 137 => 110 | 217 => 127 | 266 => 136 | n => n, fun | 9 => 9 | 5 => 5 | 3 => 3 | n => n, fun | n => n⟩
theorem Tryz.lays137 : Go.Proofs.Lays.n137 Tryz.prog Tryz.lays137_ren := {
 mixed := by kernel_rfl
 f137 := Tryz.func110.trans (congrArg some (by kernel_rfl))
 f217 := Tryz.func127.trans (congrArg some (by kernel_rfl))
 f266 := Tryz.func136.trans (congrArg some (by kernel_rfl))
 t3 := Tryz.underlying3
 a3 := Tryz.isAgg3
 z3 := Tryz.sizeOf3
 v3 := Tryz.zeroValue3
 t5 := Tryz.underlying5
 a5 := Tryz.isAgg5
 z5 := Tryz.sizeOf5
 v5 := Tryz.zeroValue5
 t9 := Tryz.underlying9
 a9 := Tryz.isAgg9
 z9 := Tryz.sizeOf9
 v9 := Tryz.zeroValue9 }
open Go.RowKit in
/-- strings.IndexByte: "IndexByte returns the index of the first instance of c in s, or -1 if c is not present in s.": IT RETURNS 'Lib.indexByte s c'; the world is az it was. (LAID: no walk: one application.) -/
theorem Tryz.strings_IndexByte (s : ByteArray) (c : Int) (w : World) :
  Calls Tryz.prog 110 #[.string s, .int .u8 c] w fun e w' => e = .returned (.int .i64 (Lib.indexByte s.data.toList c.toNat.toUInt8)) ∧ w' = w := Any.strings_IndexByte Tryz.lays137 s c w
def Tryz.laysM171_ren : Go.Shelf.Ren := ⟨fun | 171 => 31 | 243 => 55 | 246 => 83 | 283 => 85 | 284 => 86 | 285 => 87 | 286 => 88 | 129 => 114 | 317 => 113 | 318 => 115 | 319 => 116 | 320 => 117 | 337 => 128 | 338 => 129 | n => n, fun | 3 => 3 | 9 => 9 | 2 => 2 | 4 => 4 | 171 => 129 | 0 => 0 | 53 => 66 | 37 => 64 | 5 => 5 | 173 => 132 | 212 => 158 | 51 => 134 | 20 => 20 | 213 => 159 | 46 => 108 | 232 => 175 | 233 => 176 | n => n, fun | 17 => 0 | 18 => 2 | 19 => 3 | n => n⟩
theorem Tryz.laysM171 : Go.Proofs.LaysM.n171 Tryz.prog Tryz.laysM171_ren := {
 mixed := by kernel_rfl
 f129 := Tryz.func114.trans (congrArg some (by kernel_rfl))
 f171 := Tryz.func31.trans (congrArg some (by kernel_rfl))
 f243 := Tryz.func55.trans (congrArg some (by kernel_rfl))
 f246 := Tryz.func83.trans (congrArg some (by kernel_rfl))
 f283 := Tryz.func85.trans (congrArg some (by kernel_rfl))
 f284 := Tryz.func86.trans (congrArg some (by kernel_rfl))
 f285 := Tryz.func87.trans (congrArg some (by kernel_rfl))
 f286 := Tryz.func88.trans (congrArg some (by kernel_rfl))
 f317 := Tryz.func113.trans (congrArg some (by kernel_rfl))
 f318 := Tryz.func115.trans (congrArg some (by kernel_rfl))
 f319 := Tryz.func116.trans (congrArg some (by kernel_rfl))
 f320 := Tryz.func117.trans (congrArg some (by kernel_rfl))
 f337 := Tryz.func128.trans (congrArg some (by kernel_rfl))
 f338 := Tryz.func129.trans (congrArg some (by kernel_rfl))
 t0 := Tryz.underlying0
 a0 := Tryz.isAgg0
 z0 := Tryz.sizeOf0
 v0 := Tryz.zeroValue0
 t2 := Tryz.underlying2
 a2 := Tryz.isAgg2
 z2 := Tryz.sizeOf2
 v2 := Tryz.zeroValue2
 t3 := Tryz.underlying3
 a3 := Tryz.isAgg3
 z3 := Tryz.sizeOf3
 v3 := Tryz.zeroValue3
 t4 := Tryz.underlying4
 a4 := Tryz.isAgg4
 z4 := Tryz.sizeOf4
 v4 := Tryz.zeroValue4
 t5 := Tryz.underlying5
 a5 := Tryz.isAgg5
 z5 := Tryz.sizeOf5
 v5 := Tryz.zeroValue5
 t9 := Tryz.underlying9
 a9 := Tryz.isAgg9
 z9 := Tryz.sizeOf9
 v9 := Tryz.zeroValue9
 t20 := Tryz.underlying20
 a20 := Tryz.isAgg20
 z20 := Tryz.sizeOf20
 v20 := Tryz.zeroValue20
 t37 := Tryz.underlying64
 a37 := Tryz.isAgg64
 z37 := Tryz.sizeOf64
 v37 := Tryz.zeroValue64
 t46 := Tryz.underlying108
 a46 := Tryz.isAgg108
 z46 := Tryz.sizeOf108
 v46 := Tryz.zeroValue108
 t51 := Tryz.underlying134
 a51 := Tryz.isAgg134
 z51 := Tryz.sizeOf134
 v51 := Tryz.zeroValue134
 t53 := Tryz.underlying66
 a53 := Tryz.isAgg66
 z53 := Tryz.sizeOf66
 v53 := Tryz.zeroValue66
 t171 := Tryz.underlying129
 a171 := Tryz.isAgg129
 z171 := Tryz.sizeOf129
 v171 := Tryz.zeroValue129
 t173 := Tryz.underlying132
 a173 := Tryz.isAgg132
 z173 := Tryz.sizeOf132
 v173 := Tryz.zeroValue132
 t212 := Tryz.underlying158
 a212 := Tryz.isAgg158
 z212 := Tryz.sizeOf158
 v212 := Tryz.zeroValue158
 t213 := Tryz.underlying159
 a213 := Tryz.isAgg159
 z213 := Tryz.sizeOf159
 t232 := Tryz.underlying175
 a232 := Tryz.isAgg175
 z232 := Tryz.sizeOf175
 v232 := Tryz.zeroValue175
 t233 := Tryz.underlying176
 a233 := Tryz.isAgg176
 z233 := Tryz.sizeOf176
 v233 := Tryz.zeroValue176
 g17 := by kernel_rfl
 g18 := by kernel_rfl
 g19 := by kernel_rfl
 i0 := by kernel_rfl
 i2 := by kernel_rfl
 i3 := by kernel_rfl
 i4 := by kernel_rfl
 i5 := by kernel_rfl
 i9 := by kernel_rfl
 i20 := by kernel_rfl
 i37 := by kernel_rfl
 i46 := by kernel_rfl
 i51 := by kernel_rfl
 i53 := by kernel_rfl
 i171 := by kernel_rfl
 i173 := by kernel_rfl
 i212 := by kernel_rfl
 i232 := by kernel_rfl
 i233 := by kernel_rfl
 m17 := by kernel_rfl
 m18 := by kernel_rfl
 m19 := by kernel_rfl }
open Go.RowKit Go.Sort Go.Lib in
/-- strconv.Itoa: "Itoa is equivalent to FormatInt(int64(i), 10).": i's DECIMAL NUMERAL ('Lib.itoa': a '-' where i is negative, then the digits), FOR EVERY int. The world behind the call: the world before it, new blocks behind the heap (the library's 'var a [24]byte'), draws. (LAID: no walk: one application.) -/
theorem Tryz.strconv_Itoa (n : Int) (h0 : -9223372036854775808 ≤ n) (h1 : n ≤ 9223372036854775807) (w : World) (htab : Lib.TabIs Tryz.prog w "internal/strconv.uint64pow10" .u64 Lib.pow10Tab) :
  Calls Tryz.prog 31 #[.int .i64 n] w fun e w' => e = .returned (.string ⟨(Lib.itoa n).toArray⟩) ∧ ∃ k os, w' = grow (w.drewN k) os := Any.strconv_Itoa Tryz.laysM171 n h0 h1 w htab
open Go.RowKit Go.Sort Go.Lib in
def Tryz.lays105_ren : Go.Shelf.Ren := ⟨fun | 105 => 36 | 212 => 60 | 99 => 61 | 165 => 62 | 166 => 56 | 170 => 63 | 169 => 58 | 263 => 89 | 264 => 90 | 206 => 91 | 240 => 84 | 241 => 92 | 276 => 112 | 277 => 118 | n => n, fun | 9 => 9 | 3 => 3 | 4 => 4 | 20 => 20 | 0 => 0 | 46 => 108 | 109 => 109 | 5 => 5 | 72 => 100 | 76 => 103 | 51 => 134 | 146 => 135 | 53 => 66 | 148 => 137 | 70 => 98 | 37 => 64 | 75 => 102 | 127 => 128 | 164 => 155 | 80 => 90 | n => n, fun | n => n⟩
theorem Tryz.lays105 : Go.Proofs.Lays.n105 Tryz.prog Tryz.lays105_ren := {
 mixed := by kernel_rfl
 f99 := Tryz.func61.trans (congrArg some (by kernel_rfl))
 f105 := Tryz.func36.trans (congrArg some (by kernel_rfl))
 f165 := Tryz.func62.trans (congrArg some (by kernel_rfl))
 f166 := Tryz.func56.trans (congrArg some (by kernel_rfl))
 f169 := Tryz.func58.trans (congrArg some (by kernel_rfl))
 f170 := Tryz.func63.trans (congrArg some (by kernel_rfl))
 f206 := Tryz.func91.trans (congrArg some (by kernel_rfl))
 f212 := Tryz.func60.trans (congrArg some (by kernel_rfl))
 f240 := Tryz.func84.trans (congrArg some (by kernel_rfl))
 f241 := Tryz.func92.trans (congrArg some (by kernel_rfl))
 f263 := Tryz.func89.trans (congrArg some (by kernel_rfl))
 f264 := Tryz.func90.trans (congrArg some (by kernel_rfl))
 f276 := Tryz.func112.trans (congrArg some (by kernel_rfl))
 f277 := Tryz.func118.trans (congrArg some (by kernel_rfl))
 t0 := Tryz.underlying0
 a0 := Tryz.isAgg0
 z0 := Tryz.sizeOf0
 v0 := Tryz.zeroValue0
 t3 := Tryz.underlying3
 a3 := Tryz.isAgg3
 z3 := Tryz.sizeOf3
 v3 := Tryz.zeroValue3
 t4 := Tryz.underlying4
 a4 := Tryz.isAgg4
 z4 := Tryz.sizeOf4
 v4 := Tryz.zeroValue4
 t5 := Tryz.underlying5
 a5 := Tryz.isAgg5
 z5 := Tryz.sizeOf5
 v5 := Tryz.zeroValue5
 t9 := Tryz.underlying9
 a9 := Tryz.isAgg9
 z9 := Tryz.sizeOf9
 v9 := Tryz.zeroValue9
 t20 := Tryz.underlying20
 a20 := Tryz.isAgg20
 z20 := Tryz.sizeOf20
 v20 := Tryz.zeroValue20
 t37 := Tryz.underlying64
 a37 := Tryz.isAgg64
 z37 := Tryz.sizeOf64
 v37 := Tryz.zeroValue64
 t46 := Tryz.underlying108
 a46 := Tryz.isAgg108
 z46 := Tryz.sizeOf108
 v46 := Tryz.zeroValue108
 t51 := Tryz.underlying134
 a51 := Tryz.isAgg134
 z51 := Tryz.sizeOf134
 v51 := Tryz.zeroValue134
 t53 := Tryz.underlying66
 a53 := Tryz.isAgg66
 z53 := Tryz.sizeOf66
 v53 := Tryz.zeroValue66
 t70 := Tryz.underlying98
 a70 := Tryz.isAgg98
 z70 := Tryz.sizeOf98
 v70 := Tryz.zeroValue98
 t72 := Tryz.underlying100
 a72 := Tryz.isAgg100
 z72 := Tryz.sizeOf100
 v72 := Tryz.zeroValue100
 t75 := Tryz.underlying102
 a75 := Tryz.isAgg102
 z75 := Tryz.sizeOf102
 v75 := Tryz.zeroValue102
 t76 := Tryz.underlying103
 a76 := Tryz.isAgg103
 z76 := Tryz.sizeOf103
 v76 := Tryz.zeroValue103
 t109 := Tryz.underlying109
 a109 := Tryz.isAgg109
 z109 := Tryz.sizeOf109
 v109 := Tryz.zeroValue109
 t127 := Tryz.underlying128
 a127 := Tryz.isAgg128
 z127 := Tryz.sizeOf128
 v127 := Tryz.zeroValue128
 t146 := Tryz.underlying135
 a146 := Tryz.isAgg135
 z146 := Tryz.sizeOf135
 v146 := Tryz.zeroValue135
 t148 := Tryz.underlying137
 a148 := Tryz.isAgg137
 z148 := Tryz.sizeOf137
 v148 := Tryz.zeroValue137
 t164 := Tryz.underlying155
 a164 := Tryz.isAgg155
 z164 := Tryz.sizeOf155
 v164 := Tryz.zeroValue155 }
theorem Tryz.Builder_Extra_105 : Builder.Extra Tryz.prog Tryz.lays105_ren := {
 sizeBuilder := by kernel_rfl
 liesBuilder := by kernel_rfl
 t5 := Tryz.underlying5
 a5 := Tryz.isAgg5
 z5 := Tryz.sizeOf5
 v5 := Tryz.zeroValue5
 infoByte := by kernel_rfl
 cellsByte := by kernel_rfl
 sizeByte := by kernel_rfl
 neB5 := by decide }
open Go.RowKit Go.Lib in
/-- **strings.Repeat: count ≥ 0, the result within one allocation: count copies of s.** (LAID: no walk: one application.) -/
theorem Tryz.strings_Repeat (s : ByteArray) (c : Nat) (w : World) (hc : c ≤ 9223372036854775807) (hlen : s.size * c ≤ 140737488355328) :
  Calls Tryz.prog 36 #[.string s, .int .i64 c] w fun e w' => e = .returned (.string ⟨(Lib.repeatL s.data.toList c).toArray⟩) ∧ Below w.heap.size w w' := Any.strings_Repeat Tryz.lays105 Tryz.Builder_Extra_105 s c w hc hlen
def Tryz.laysNm217_ren : Go.Shelf.Ren := ⟨fun | 17 => 111 | n => n, fun | 24 => 22 | 9 => 9 | 3 => 3 | 4 => 4 | 0 => 0 | n => n, fun | n => n⟩
theorem Tryz.laysNm217 : Go.Proofs.Lays2.n17 Tryz.prog Tryz.laysNm217_ren := {
 mixed := by kernel_rfl
 f17 := Tryz.func111.trans (congrArg some (by kernel_rfl))
 t0 := Tryz.underlying0
 a0 := Tryz.isAgg0
 z0 := Tryz.sizeOf0
 v0 := Tryz.zeroValue0
 t3 := Tryz.underlying3
 a3 := Tryz.isAgg3
 z3 := Tryz.sizeOf3
 v3 := Tryz.zeroValue3
 t4 := Tryz.underlying4
 a4 := Tryz.isAgg4
 z4 := Tryz.sizeOf4
 v4 := Tryz.zeroValue4
 t9 := Tryz.underlying9
 a9 := Tryz.isAgg9
 z9 := Tryz.sizeOf9
 v9 := Tryz.zeroValue9
 t24 := Tryz.underlying22
 a24 := Tryz.isAgg22
 z24 := Tryz.sizeOf22
 v24 := Tryz.zeroValue22 }
open Go.RowKit Go.Lib Go.Sort in
/-- The same at a slice of length 0, a nil one too: nothing is read, nothing written, nothing drawn. (LAID: no walk: one application.) -/
theorem Tryz.slices_Reverse_string_empty (a : Option Addr) (cap : Nat) (w : World) :
  Calls Tryz.prog 111 #[.slice a 0 cap] w fun e w' => e = .returned (.tuple #[]) ∧ w' = w := Any.slices_Reverse_string_empty Tryz.laysNm217 a cap w
def Tryz.laysNm216_ren : Go.Shelf.Ren := ⟨fun | 16 => 40 | n => n, fun | 24 => 22 | 9 => 9 | 4 => 4 | n => n, fun | n => n⟩
theorem Tryz.laysNm216 : Go.Proofs.Lays2.n16 Tryz.prog Tryz.laysNm216_ren := {
 mixed := by kernel_rfl
 f16 := Tryz.func40.trans (congrArg some (by kernel_rfl))
 t4 := Tryz.underlying4
 a4 := Tryz.isAgg4
 z4 := Tryz.sizeOf4
 v4 := Tryz.zeroValue4
 t9 := Tryz.underlying9
 a9 := Tryz.isAgg9
 z9 := Tryz.sizeOf9
 v9 := Tryz.zeroValue9
 t24 := Tryz.underlying22
 a24 := Tryz.isAgg22
 z24 := Tryz.sizeOf22
 v24 := Tryz.zeroValue22
 i9 := by kernel_rfl }
open Go.RowKit Go.Lib in
/-- slices.Clone at []string: "Clone returns a copy of the slice. The elements are copied using assignment, so this is a shallow clone. The result may have additional unused capacity. The result preserves the nilness of s.": OF A SLICE THAT IS NOT nil IT RETURNS A SLICE THAT IS NOT nil, OF THE SAME ELEMENTS, IN MEMORY OF THE CALL's OWN: in the how-to's words (6f): 'w'.ownsRow B e 1 v' n cells': v' begins at the head of a row among the blocks from B on (B: the heap's size at the call), not frozen, whose first cells are the elements · 'Below B w w'': below B all is az it was. The capacity is whatever the run-time gives. 'zs': what the cells behind the slice's address hold; 'zs.take n': its elements. (LAID: no walk: one application.) -/
theorem Tryz.slices_Clone_string (b off n c : Nat) (zs : List ByteArray) (w : World) (hz : n ≤ zs.length) (hbig : n * 16 ≤ 140737488355328) (hc : ∀ j, j < zs.length → w.cell? ⟨b, off + j, none⟩ = some (.string (zs.getD j ByteArray.empty))) :
  Calls Tryz.prog 40 #[.slice (some ⟨b, off, none⟩) n c] w fun e w' => ∃ v', e = .returned v' ∧ w'.ownsRow w.heap.size 9 1 v' n ((zs.take n).map (Value.string)) ∧ v' ≠ .slice none 0 0 ∧ Below w.heap.size w w' := Any.slices_Clone_string Tryz.laysNm216 b off n c zs w hz hbig hc
open Go.RowKit Go.Lib in
/-- The same at nil: nil comes back; the world is az it was. (LAID: no walk: one application.) -/
theorem Tryz.slices_Clone_string_nil (n c : Nat) (w : World) :
  Calls Tryz.prog 40 #[.slice none n c] w fun e w' => e = .returned (.slice none 0 0) ∧ w' = w := Any.slices_Clone_string_nil Tryz.laysNm216 n c w
open Go.RowKit Go.Lib in
/-- The same at a slice of length 0 that is not nil, WHATEVER ITS ADDRESS (no cell is asked for): a slice that is not nil and owns nothing comes back. (LAID: no walk: one application.) -/
theorem Tryz.slices_Clone_string_zero (a : Addr) (c : Nat) (w : World) :
  Calls Tryz.prog 40 #[.slice (some a) 0 c] w fun e w' => ∃ v', e = .returned v' ∧ w'.ownsRow w.heap.size 9 1 v' 0 [] ∧ v' ≠ .slice none 0 0 ∧ Below w.heap.size w w' := Any.slices_Clone_string_zero Tryz.laysNm216 a c w
open Go.RowKit Go.Lib Go.Sort in
/-- slices.Reverse at []string, of an argument. (LAID: no walk: one application.) -/
theorem Tryz.slices_Reverse_string_cells (b off n c : Nat) (Sx : Nat → ByteArray) (w : World) (hbig : n ≤ 9223372036854775807) (hc : ∀ i, i < n → w.cell? ⟨b, off + i, none⟩ = some (.string (Sx i))) (hf : ∀ j, j < n → w.frozen? ⟨b, off + j, none⟩ = false) :
  Calls Tryz.prog 111 #[.slice (some ⟨b, off, none⟩) n c] w fun e w' => e = .returned (.tuple #[]) ∧ ∃ q, w' = (w.drewN q).setCells b off ((Lib.strsOf Sx n).reverse.map encStr) := Any.slices_Reverse_string_cells Tryz.laysNm217 b off n c Sx w hbig hc hf

def Tryz.builder_ren : Go.Shelf.Ren := ⟨fun | 167 => 57 | 105 => 36 | 212 => 60 | 99 => 61 | 165 => 62 | 166 => 56 | 170 => 63 | 169 => 58 | 263 => 89 | 264 => 90 | 206 => 91 | 240 => 84 | 241 => 92 | 276 => 112 | 277 => 118 | n => n, fun | 9 => 9 | 3 => 3 | 4 => 4 | 20 => 20 | 0 => 0 | 46 => 108 | 109 => 109 | 5 => 5 | 72 => 100 | 76 => 103 | 51 => 134 | 146 => 135 | 53 => 66 | 148 => 137 | 70 => 98 | 37 => 64 | 75 => 102 | 127 => 128 | 164 => 155 | 80 => 90 | n => n, fun | n => n⟩
theorem Tryz.builder166 : Go.Proofs.Lays.n166 Tryz.prog Tryz.builder_ren := {
 mixed := by kernel_rfl
 f166 := Tryz.func56.trans (congrArg some (by kernel_rfl))
 f240 := Tryz.func84.trans (congrArg some (by kernel_rfl))
 f276 := Tryz.func112.trans (congrArg some (by kernel_rfl))
 t0 := Tryz.underlying0
 a0 := Tryz.isAgg0
 z0 := Tryz.sizeOf0
 v0 := Tryz.zeroValue0
 t3 := Tryz.underlying3
 a3 := Tryz.isAgg3
 z3 := Tryz.sizeOf3
 v3 := Tryz.zeroValue3
 t4 := Tryz.underlying4
 a4 := Tryz.isAgg4
 z4 := Tryz.sizeOf4
 v4 := Tryz.zeroValue4
 t9 := Tryz.underlying9
 a9 := Tryz.isAgg9
 z9 := Tryz.sizeOf9
 v9 := Tryz.zeroValue9
 t20 := Tryz.underlying20
 a20 := Tryz.isAgg20
 z20 := Tryz.sizeOf20
 v20 := Tryz.zeroValue20
 t37 := Tryz.underlying64
 a37 := Tryz.isAgg64
 z37 := Tryz.sizeOf64
 v37 := Tryz.zeroValue64
 t70 := Tryz.underlying98
 a70 := Tryz.isAgg98
 z70 := Tryz.sizeOf98
 v70 := Tryz.zeroValue98
 t72 := Tryz.underlying100
 a72 := Tryz.isAgg100
 z72 := Tryz.sizeOf100
 v72 := Tryz.zeroValue100
 t75 := Tryz.underlying102
 a75 := Tryz.isAgg102
 z75 := Tryz.sizeOf102
 v75 := Tryz.zeroValue102
 t164 := Tryz.underlying155
 a164 := Tryz.isAgg155
 z164 := Tryz.sizeOf155
 v164 := Tryz.zeroValue155 }
theorem Tryz.builder167 : Go.Proofs.Lays.n167 Tryz.prog Tryz.builder_ren := {
 mixed := by kernel_rfl
 f167 := Tryz.func57.trans (congrArg some (by kernel_rfl))
 f240 := Tryz.func84.trans (congrArg some (by kernel_rfl))
 f276 := Tryz.func112.trans (congrArg some (by kernel_rfl))
 t0 := Tryz.underlying0
 a0 := Tryz.isAgg0
 z0 := Tryz.sizeOf0
 v0 := Tryz.zeroValue0
 t4 := Tryz.underlying4
 a4 := Tryz.isAgg4
 z4 := Tryz.sizeOf4
 v4 := Tryz.zeroValue4
 t5 := Tryz.underlying5
 a5 := Tryz.isAgg5
 z5 := Tryz.sizeOf5
 v5 := Tryz.zeroValue5
 t9 := Tryz.underlying9
 a9 := Tryz.isAgg9
 z9 := Tryz.sizeOf9
 v9 := Tryz.zeroValue9
 t20 := Tryz.underlying20
 a20 := Tryz.isAgg20
 z20 := Tryz.sizeOf20
 v20 := Tryz.zeroValue20
 t37 := Tryz.underlying64
 a37 := Tryz.isAgg64
 z37 := Tryz.sizeOf64
 v37 := Tryz.zeroValue64
 t70 := Tryz.underlying98
 a70 := Tryz.isAgg98
 z70 := Tryz.sizeOf98
 v70 := Tryz.zeroValue98
 t72 := Tryz.underlying100
 a72 := Tryz.isAgg100
 z72 := Tryz.sizeOf100
 v72 := Tryz.zeroValue100
 t75 := Tryz.underlying102
 a75 := Tryz.isAgg102
 z75 := Tryz.sizeOf102
 v75 := Tryz.zeroValue102
 t164 := Tryz.underlying155
 a164 := Tryz.isAgg155
 z164 := Tryz.sizeOf155
 v164 := Tryz.zeroValue155 }
theorem Tryz.builder_extra : Builder.Extra Tryz.prog Tryz.builder_ren := {
 sizeBuilder := by kernel_rfl
 liesBuilder := by kernel_rfl
 t5 := Tryz.underlying5
 a5 := Tryz.isAgg5
 z5 := Tryz.sizeOf5
 v5 := Tryz.zeroValue5
 infoByte := by kernel_rfl
 cellsByte := by kernel_rfl
 sizeByte := by kernel_rfl
 neB5 := by decide }
theorem Tryz.Builder_WriteByte (B b : Nat) (bs : List Value) (c : Int) (w : World) (h : Lib.IsBuilder 100 5 B b bs w) (hlen : bs.length + 1 ≤ 140737488355328) (hBw : B ≤ w.heap.size) :
  Calls Tryz.prog 57 #[.pointer (some ⟨b, 0, none⟩), .int .u8 c] w fun e w' => e = .returned .nilIface ∧ (Lib.BuilderAt 100 5 B b (.pointer (some ⟨b, 0, none⟩)) (bs ++ [.int .u8 c]) w' ∧ RowKit.Below B w w') := Any.Builder_WriteByte Tryz.builder167 Tryz.builder_extra B b bs c w h hlen hBw
theorem Tryz.Builder_WriteString (B b : Nat) (bs : List Value) (s : ByteArray) (w : World) (h : Lib.IsBuilder 100 5 B b bs w) (hlen : bs.length + s.size ≤ 140737488355328) (hBw : B ≤ w.heap.size) :
  Calls Tryz.prog 56 #[.pointer (some ⟨b, 0, none⟩), .string s] w fun e w' => e = .returned (.tuple #[.int .i64 s.size, .nilIface]) ∧ (Lib.BuilderAt 100 5 B b (.pointer (some ⟨b, 0, none⟩)) (bs ++ Lib.strCells s) w' ∧ RowKit.Below B w w') := Any.Builder_WriteString Tryz.builder166 Tryz.builder_extra B b bs s w h hlen hBw
end Go.Proofs
set_option linter.unusedVariables false
namespace Go.Proofs.YtnkepmfgmfeabaaGreatDoor
open Go Go.RowKit

/-! what the walks read of the library's tables -/
def Tabs (w : World) : Prop :=
 Lib.TabIs Tryz.prog w "internal/strconv.uint64pow10" .u64 Lib.pow10Tab ∧ w.cell? ⟨3, 15, none⟩ = some (.int .u8 4) ∧ 3 < w.heap.size
theorem Tabs.stays {w w' : World} {B : Nat} (h : Tabs w) (hb : Below B w w') (hB : w.heap.size ≤ B) : Tabs w' := by
 obtain ⟨h1, h2, h3⟩ := h
 refine ⟨Joins.tab_stays (g := 0) (by kernel_rfl) h1 hb hB, ?_, ?_⟩
 ·rw [hb.cell (by show 3 < B; omega)]; exact h2
 ·exact Nat.lt_of_lt_of_le h3 hb.size
theorem Tabs.on {w w' : World} (h : Tabs w) (hb : Below w.heap.size w w') : Tabs w' := h.stays hb (Nat.le_refl _)

theorem pow2_16 (w : World) : Calls Tryz.prog 116 #[.int .i64 16] w fun e w' => e = .returned (.bool true) ∧ w' = w := by
 have h0 : (bits BinOp.and IntKind.i64 16 15 == 0) = true := by decide
 go_enter Tryz.func116, Tryz.ntmps116
 go_wp2
 go_ret
 exact ⟨rfl, rfl⟩
theorem tz64_16 (w : World) (h : w.cell? ⟨3, 15, none⟩ = some (.int .u8 4)) :
  Calls Tryz.prog 129 #[.int .u64 16] w fun e w' => e = .returned (.int .i64 4) ∧ w' = w := by
 have key : IntKind.u64.wrap (bits BinOp.and IntKind.u64 16 (IntKind.u64.wrap (-16)) * 285870213051353865) / 288230376151711744 = 15 := by decide
 go_enter Tryz.func129, Tryz.ntmps129
 go_wp2_with (simp only [key])
 go_ret
 exact ⟨rfl, rfl⟩
theorem tz_16 (w : World) (h : w.cell? ⟨3, 15, none⟩ = some (.int .u8 4)) :
  Calls Tryz.prog 117 #[.int .u64 16] w fun e w' => e = .returned (.int .i64 4) ∧ w' = w := by
 go_enter Tryz.func117, Tryz.ntmps117
 go_wp2_with fail
 refine (tz64_16 w h).mono ?_
 rintro e w1 ⟨rfl, rfl⟩
 go_wp2
 go_ret
 exact ⟨rfl, rfl⟩

theorem idx36 (t : TypeId) (ht : Tryz.prog.underlying t = some .string) (k : IntKind) (z : Int) (v : Nat) (hz : z = (v : Int)) (hv : v < 16) (w : World) :
  (Instr.index t (.string Lib.digits36) (.int k z)).run Tryz.prog w = .ok (.int .u8 ((dig v).toNat : Int)) w := by
 subst hz
 have hs : Lib.digits36.size = 36 := by decide +kernel
 rw [run_index_string w t Lib.digits36 k _ ht, dif_pos ⟨by omega, by rw [hs]; omega⟩]
 have e : ((v : Int)).toNat = v := by omega
 simp only [e]
 have h16 : ∀ m : Fin 16, Lib.digits36.data[m.val]? = some (dig m.val) := by decide +kernel
 have := h16 ⟨v, hv⟩
 have h2 : Lib.digits36[v]'(by rw [hs]; omega) = dig v := by
  have h3 := Array.getElem?_eq_some_iff.1 this
  obtain ⟨h4, h5⟩ := h3
  exact h5
 rw [h2]

theorem andB (a b : BitVec 64) : bits BinOp.and IntKind.u64 (a.toNat : Int) (b.toNat : Int) = ((a &&& b).toNat : Int) := by
 have ha : BitVec.ofInt IntKind.u64.bits (a.toNat : Int) = a := by rw [BitVec.ofInt_natCast]; exact BitVec.ofNat_toNat 64 a ▸ (by simp [IntKind.bits])
 have hb : BitVec.ofInt IntKind.u64.bits (b.toNat : Int) = b := by rw [BitVec.ofInt_natCast]; exact BitVec.ofNat_toNat 64 b ▸ (by simp [IntKind.bits])
 simp only [bits, ha, hb]
 exact wrap_toNat _
theorem and15 (v : Nat) (hv : v < 18446744073709551616) : bits BinOp.and IntKind.u64 (v : Int) 15 = ((v % 16 : Nat) : Int) := by
 have h := andB (BitVec.ofNat 64 v) 15#64
 rw [toNat_small v hv] at h
 have e : (BitVec.ofNat 64 v &&& 15#64).toNat = v % 16 := by
  rw [BitVec.toNat_and, toNat_small v hv, BitVec.toNat_ofNat, show 15 % 2 ^ 64 = 2 ^ 4 - 1 by decide, Nat.and_two_pow_sub_one_eq_mod]
 rw [e] at h
 exact h

/-- the array of 65 bytes of which the last k hold the last k digits of n -/
structure Arr (b n k : Nat) (w W : World) : Prop where
 below : Below b w W
 cell : ∀ j, j < 65 → ∃ c : Int, W.cell? ⟨b, j, none⟩ = some (.int .u8 c)
 frozen : ∀ j, j < 65 → W.frozen? ⟨b, j, none⟩ = false
 digits : ∀ j (hj : j < k), W.cell? ⟨b, 65 - k + j, none⟩ = some (.int .u8 (((low k n)[j]'(by rw [low_length]; exact hj)).toNat : Int))
theorem Arr.step {b n k m : Nat} {w W : World} (h : Arr b n k w W) (hm : m + (k + 1) = 65) (hb : b = w.heap.size) (d : Nat) (hd : d = n / 16 ^ k % 16) :
  Arr b n (k + 1) w (W.setCell ⟨b, m, none⟩ (.int .u8 ((dig d).toNat : Int))) := by
 refine ⟨h.below.setCell (Nat.le_refl _) _, ?_, ?_, ?_⟩
 ·intro j hj
  by_cases hjm : j = m
  ·subst hjm
   obtain ⟨c, hc⟩ := h.cell j hj
   exact ⟨_, World.cell?_setCell_same _ _ _ hc⟩
  ·obtain ⟨c, hc⟩ := h.cell j hj
   exact ⟨c, by rw [World.cell?_setCell_other _ _ _ _ (by simp)]; exact hc⟩
 ·intro j hj
  rw [World.frozen?_setCell]; exact h.frozen j hj
 ·intro j hj
  cases j with
  | zero =>
   obtain ⟨c, hc⟩ := h.cell m (by omega)
   rw [show 65 - (k + 1) + 0 = m by omega]
   rw [World.cell?_setCell_same _ _ _ hc]
   simp only [low, List.getElem_cons_zero, hd]
  | succ j =>
   have := h.digits j (by omega)
   rw [show 65 - (k + 1) + (j + 1) = 65 - k + j by omega]
   rw [World.cell?_setCell_other _ _ _ _ (by intro e; injection e with _ e2 _; omega)]
   simp only [low, List.getElem_cons_succ]
   exact this
end Go.Proofs.YtnkepmfgmfeabaaGreatDoor
set_option linter.unusedVariables false
namespace Go.Proofs.YtnkepmfgmfeabaaGreatDoor
open Go Go.RowKit

theorem slice65 (b m : Nat) (hm : m < 65) (W : World) :
  (Instr.sliceAt 159 (.pointer (some ⟨b, 0, none⟩)) (some (.int .i64 (m : Int))) none none).run Tryz.prog W = .ok (.slice (some ⟨b, m, none⟩) (65 - m) (65 - m)) W := by
 have hal : Tryz.prog.arrayLen 159 = 65 := by kernel_rfl
 have hel : Tryz.prog.elem 159 = 5 := by kernel_rfl
 rw [run_sliceAt_array_l W 159 ⟨b, 0, none⟩ (by kernel_rfl) .i64 (m : Int) (by omega) (by rw [hal]; omega), hal, hel, Tryz.sizeOf5]
 simp [slicedAt, Lib.add_plain, Result.andThen]
 omega
set_option maxHeartbeats 2000000 in
set_option maxRecDepth 100000 in
theorem formatBits16 (n : Nat) (hn : n < 18446744073709551616) (w : World) (hT : Tabs w) :
  Calls Tryz.prog 88 #[.slice none 0 0, .int .u64 n, .int .i64 16, .bool false, .bool false] w fun e w' =>
   e = .returned (.tuple #[.slice none 0 0, .string ⟨(low (hexLen n) n).toArray⟩]) ∧ Below w.heap.size w w' := by
 have HT := Lib.hid hT
 clear hT
 go_enter Tryz.func88, Tryz.ntmps88
 go_name_bytes S0 hS0
 clear hS0
 go_name_bytes SM hSM
 have eSM : SM = Lib.digits36 := by rw [← hSM]; decide +kernel
 subst eSM
 clear hSM
 go_wp2_with fail
 have HA : Arr w.heap.size n 0 w (w.alloc (.cells Tryz.zeroCells159 159)) := by
  have zc : ∀ j, j < 65 → Tryz.zeroCells159[j]? = some (.int .u8 0) := by
   have e : Tryz.zeroCells159 = Array.replicate 65 (.int .u8 0) := rfl
   intro j hj
   rw [e, Array.getElem?_replicate, if_pos hj]
  refine ⟨(Below.refl _ _).alloc (Nat.le_refl _) _, fun j hj => ⟨0, ?_⟩, fun j hj => World.frozen?_alloc_new _ _ _ _, fun j hj => by omega⟩
  rw [World.cell?_alloc_new]; exact zc j hj
 have HA := Lib.hid HA
 have HT1 : Hid (Tabs (w.alloc (.cells Tryz.zeroCells159 159))) := Lib.hid (HT.out.on HA.out.below)
 generalize (w.alloc (.cells Tryz.zeroCells159 159)) = W0 at *
 refine (pow2_16 W0).mono ?_
 rintro e w1 ⟨rfl, rfl⟩
 go_wp2_with fail
 refine (tz_16 _ HT1.out.2.1).mono ?_
 rintro e w1 ⟨rfl, rfl⟩
 go_wp2
 clear HT HT1
 go_loopw [1, 13] (fun vu vi W => ∃ k m v : Nat, vu = .int .u64 (v : Int) ∧ vi = .int .i64 (m : Int) ∧ m + k = 65 ∧ v < 18446744073709551616 ∧ Hid (v = n / 16 ^ k ∧ k < hexLen n ∧ hexLen v + k = hexLen n ∧ Arr w.heap.size n k w W)) (fun vu _ _ => (RowKit.intOf vu).toNat)
 case atStart =>
  refine ⟨0, 65, n, rfl, rfl, rfl, hn, by simp, hexLen_pos n, by simp, HA.out⟩
 case round =>
  obtain ⟨k, m, v, rfl, rfl, hmk, hv64, HI⟩ := hrel
  have hle := hexLen_le16 n hn
  have hk := HI.out.2.1
  obtain ⟨m, rfl⟩ : ∃ m', m = m' + 1 := ⟨m - 1, by omega⟩
  obtain ⟨c, hc⟩ := HI.out.2.2.2.cell m (by omega)
  have hf := HI.out.2.2.2.frozen m (by omega)
  by_cases h16 : 16 ≤ v
  ·obtain ⟨d, hd⟩ : ∃ d, d = v % 16 := ⟨_, rfl⟩
   have hand : bits BinOp.and IntKind.u64 (v : Int) 15 = (d : Int) := by rw [hd]; exact and15 v hv64
   have hd16 : d < 16 := by omega
   have hidx : ∀ W, (Instr.index 9 (.string Lib.digits36) (.int .u64 (d : Int))).run Tryz.prog W = .ok (.int .u8 ((dig d).toNat : Int)) W := fun W => idx36 _ Tryz.underlying9 _ _ _ rfl hd16 W
   have hb := hexLen_big _ h16
   have hdd : v / 16 = n / 16 ^ (k + 1) := by rw [HI.out.1, Nat.div_div_eq_div_mul, Nat.pow_succ]
   have HI2 : Hid (v / 16 = n / 16 ^ (k + 1) ∧ k + 1 < hexLen n ∧ hexLen (v / 16) + (k + 1) = hexLen n ∧ Arr w.heap.size n (k + 1) w (wr.setCell ⟨w.heap.size, m, none⟩ (.int .u8 ((dig d).toNat : Int)))) :=
    Lib.hid ⟨hdd, by have := HI.out.2.2.1; have := hexLen_pos (v / 16); omega, by have := HI.out.2.2.1; omega, HI.out.2.2.2.step (by omega) rfl d (by rw [hd, HI.out.1])⟩
   have HD := Lib.hid hd
   clear HI hd hb hdd
   go_wp2
   go_round
   case rel => exact ⟨k + 1, m, v / 16, by rfl, by rfl, by omega, by omega, HI2⟩
   case measure => simp only [RowKit.intOf]; omega
  ·have hlt : v < 16 := by omega
   have hidx : ∀ W, (Instr.index 9 (.string Lib.digits36) (.int .u64 (v : Int))).run Tryz.prog W = .ok (.int .u8 ((dig v).toNat : Int)) W := fun W => idx36 _ Tryz.underlying9 _ _ _ rfl hlt W
   have hs := hexLen_small v hlt
   have e1 := HI.out.2.2.1
   have hK : hexLen n = k + 1 := by omega
   have HA2 := HI.out.2.2.2.step (m := m) (by omega) rfl v (by rw [← HI.out.1]; exact (Nat.mod_eq_of_lt hlt).symm)
   have hcv : (convert 64 9 (.slice (some ⟨w.heap.size, m, none⟩) (k + 1) (k + 1))).run Tryz.prog (wr.setCell ⟨w.heap.size, m, none⟩ (.int .u8 ((dig v).toNat : Int))) =
     .ok (.string ⟨(low (hexLen n) n).toArray⟩) (wr.setCell ⟨w.heap.size, m, none⟩ (.int .u8 ((dig v).toNat : Int))) := by
    have h := run_convert_bytes_back (P := Tryz.prog) (wr.setCell ⟨w.heap.size, m, none⟩ (.int .u8 ((dig v).toNat : Int))) 64 9 5 ⟨w.heap.size, m, none⟩ (k + 1) (low (k + 1) n) Tryz.underlying64 Tryz.underlying5 Tryz.underlying9 (fun j hj => by
     rw [Lib.add_plain]
     have hj' : j < k + 1 := by rw [low_length] at hj; exact hj
     have := HA2.digits j hj'
     rw [show 65 - (k + 1) + j = m + j by omega] at this
     exact this)
    rw [low_length] at h
    rw [hK]
    exact h
   have hsl : ∀ W, (Instr.sliceAt 159 (.pointer (some ⟨w.heap.size, 0, none⟩)) (some (.int .i64 (m : Int))) none none).run Tryz.prog W = .ok (.slice (some ⟨w.heap.size, m, none⟩) (k + 1) (k + 1)) W := fun W => by
    have := slice65 w.heap.size m (by omega) W
    rw [show 65 - m = k + 1 by omega] at this
    exact this
   have HB := Lib.hid HA2.below
   clear HI HA2 e1 hs
   go_wp2
   go_ret2
   exact ⟨by rw [hK]; rfl, HB.out⟩

theorem formatUint16i (n : Nat) (hn : n < 18446744073709551616) (w : World) (hT : Tabs w) :
  Calls Tryz.prog 59 #[.int .u64 n, .int .i64 16] w fun e w' =>
   e = .returned (.string ⟨(low (hexLen n) n).toArray⟩) ∧ Below w.heap.size w w' := by
 go_enter Tryz.func59, Tryz.ntmps59
 go_wp2_with fail
 refine (formatBits16 n hn w hT).mono ?_
 rintro e w1 ⟨rfl, hb⟩
 go_wp2
 go_ret
 exact ⟨rfl, hb⟩
theorem formatUint16 (n : Nat) (hn : n < 18446744073709551616) (w : World) (hT : Tabs w) :
  Calls Tryz.prog 35 #[.int .u64 n, .int .i64 16] w fun e w' =>
   e = .returned (.string ⟨(low (hexLen n) n).toArray⟩) ∧ Below w.heap.size w w' := by
 go_enter Tryz.func35, Tryz.ntmps35
 go_wp2_with fail
 refine (formatUint16i n hn w hT).mono ?_
 rintro e w1 ⟨rfl, hb⟩
 go_wp2
 go_ret
 exact ⟨rfl, hb⟩
end Go.Proofs.YtnkepmfgmfeabaaGreatDoor
set_option linter.unusedVariables false
namespace Go.Proofs.YtnkepmfgmfeabaaGreatDoor
open Go Go.RowKit

def blkF (c : Nat → Nat) : Nat → Nat
 | 0 => 0
 | k + 1 => blkF c k * 256 + c k
theorem blkF_blk (t : List UInt8) (f k : Nat) : blkF (fun i => byteAt t (f + i)) k = blk t f k := by
 induction k with
 | zero => rfl
 | succ k ih => simp only [blkF, blk, ih]
theorem blkF_lt (c : Nat → Nat) (h : ∀ i, c i < 256) (k : Nat) : blkF c k < 256 ^ k := by
 induction k with
 | zero => simp [blkF]
 | succ k ih => simp only [blkF]; have := h k; rw [Nat.pow_succ]; omega
def cells8 (c : Nat → Nat) : Array Value :=
 #[.int .u8 (c 0 : Nat), .int .u8 (c 1 : Nat), .int .u8 (c 2 : Nat), .int .u8 (c 3 : Nat), .int .u8 (c 4 : Nat), .int .u8 (c 5 : Nat), .int .u8 (c 6 : Nat), .int .u8 (c 7 : Nat)]
theorem cells8_at (c : Nat → Nat) (j : Nat) (h : j < 8) : (cells8 c)[j]? = some (.int .u8 (c j : Nat)) := by
 match j, h with
 | 0, _ => rfl
 | 1, _ => rfl
 | 2, _ => rfl
 | 3, _ => rfl
 | 4, _ => rfl
 | 5, _ => rfl
 | 6, _ => rfl
 | 7, _ => rfl

/-- the state's cell b, made by the call that began in w0 -/
structure StAt (b : Nat) (x : BitVec 64) (w0 w : World) : Prop where
 below : Below b w0 w
 lt : b < w.heap.size
 cell : w.cell? ⟨b, 0, none⟩ = some (.int .u64 (x.toNat : Int))
 frozen : w.frozen? ⟨b, 0, none⟩ = false
theorem StAt.alloc {b : Nat} {x : BitVec 64} {w0 w : World} (h : StAt b x w0 w) (o : Obj) : StAt b x w0 (w.alloc o) :=
 ⟨h.below.alloc (Nat.le_of_lt h.lt) o, by rw [World.size_alloc]; have := h.lt; omega, by rw [World.cell?_alloc_old _ _ _ (Nat.ne_of_lt h.lt)]; exact h.cell, by rw [World.frozen?_alloc_old _ _ _ (Nat.ne_of_lt h.lt)]; exact h.frozen⟩
theorem StAt.set {b : Nat} {x : BitVec 64} {w0 w : World} (h : StAt b x w0 w) (y : BitVec 64) : StAt b y w0 (w.setCell ⟨b, 0, none⟩ (.int .u64 (y.toNat : Int))) :=
 ⟨h.below.setCell (Nat.le_refl _) _, by rw [World.size_setCell]; exact h.lt, World.cell?_setCell_same _ _ _ h.cell, by rw [World.frozen?_setCell]; exact h.frozen⟩

theorem orB (n c k : Nat) (hn : n < 256 ^ k) (hk : k < 8) (hc : c < 256) : bits BinOp.or IntKind.u64 ((n : Int) * 256) (c : Int) = ((n * 256 + c : Nat) : Int) := by
 have h7 : n < 256 ^ 7 := Nat.lt_of_lt_of_le hn (Nat.pow_le_pow_right (by decide) (by omega))
 simp at h7
 rw [bits_join IntKind.u64 64 (by decide) (fun z h0 h1 => by rw [wrapU]; exact Int.emod_eq_of_lt h0 (by simpa using h1)) 8 ((n : Int) * 256) (c : Int) (by omega) (by omega) (by omega) (by omega) (by omega) (by omega)]
 omega

set_option maxRecDepth 100000 in
theorem take_calls (b : Nat) (x : BitVec 64) (c : Nat → Nat) (h256 : ∀ i, c i < 256) (w0 w : World) (h : StAt b x w0 w) :
  Calls Tryz.prog 34 #[.pointer (some ⟨b, 0, none⟩), .agg (cells8 c)] w fun e w' =>
   e = .returned (.tuple #[]) ∧ StAt b (mixB (x ^^^ BitVec.ofNat 64 (blkF c 8))) w0 w' := by
 have H := Lib.hid h
 clear h
 have H2 := Lib.hid h256
 clear h256
 go_enter Tryz.func34, Tryz.ntmps34
 go_wp2_with fail
 have HC : Hid (∀ j, j < 8 → (w.alloc (.cells (cells8 c) 106)).cell? ⟨w.heap.size, j, none⟩ = some (.int .u8 (c j : Nat))) :=
  Lib.hid fun j hj => by rw [World.cell?_alloc_new]; exact cells8_at c j hj
 have H3 : Hid (StAt b x w0 (w.alloc (.cells (cells8 c) 106))) := Lib.hid (H.out.alloc _)
 generalize (w.alloc (.cells (cells8 c) 106)) = W1 at *
 generalize w.heap.size = ab at *
 clear H
 go_loop [4, 7] (fun vn vi => ∃ i : Nat, vn = .int .u64 (blkF c i : Nat) ∧ vi = .int .i64 (i : Int) ∧ i ≤ 8) (fun _ vi => 8 - (RowKit.intOf vi).toNat)
 case atStart => exact ⟨0, rfl, rfl, by omega⟩
 case round =>
  obtain ⟨i, rfl, rfl, hi8⟩ := hrel
  by_cases hi : i < 8
  ·have hc := HC.out i hi
   have hor := orB (blkF c i) (c i) i (blkF_lt c H2.out i) hi (H2.out i)
   have hlt : blkF c i < 72057594037927936 := by
    have := Nat.lt_of_lt_of_le (blkF_lt c H2.out i) (Nat.pow_le_pow_right (n := 256) (by decide) (show i ≤ 7 by omega)); simpa using this
   have hci := H2.out i
   have HR := Lib.hid (show blkF c (i + 1) = blkF c i * 256 + c i from rfl)
   generalize blkF c i = n0 at *
   go_wp2
   refine ⟨⟨i + 1, ?_, rfl, by omega⟩, ?_⟩
   ·rw [HR.out]; rfl
   ·simp only [RowKit.intOf]; omega
  ·have e8 : i = 8 := by omega
   subst e8
   have hc0 := H3.out.cell
   have hf0 := H3.out.frozen
   have hx := xorB x (BitVec.ofNat 64 (blkF c 8))
   have h64 : blkF c 8 < 18446744073709551616 := by simpa using blkF_lt c H2.out 8
   rw [toNat_small _ h64] at hx
   have hS := H3.out.set (mixB (x ^^^ BitVec.ofNat 64 (blkF c 8)))
   obtain ⟨z, hz⟩ : ∃ z : Int, z = ((x ^^^ BitVec.ofNat 64 (blkF c 8)).toNat : Int) := ⟨_, rfl⟩
   rw [← mixI_eq, ← hz] at hS
   rw [← hz] at hx
   have HS := Lib.hid hS
   have hlo : (0 : Int) ≤ z := by rw [hz]; exact Int.natCast_nonneg _
   clear hS h64 hz
   obtain ⟨n8, hn8⟩ : ∃ n, n = blkF c 8 := ⟨_, rfl⟩
   rw [← hn8] at hx ⊢
   have HN := Lib.hid hn8
   clear hn8
   go_wp2
   go_end0
   exact ⟨rfl, HS.out⟩
end Go.Proofs.YtnkepmfgmfeabaaGreatDoor
set_option linter.unusedVariables false
namespace Go.Proofs.YtnkepmfgmfeabaaGreatDoor
open Go Go.RowKit

theorem cells8_size (c : Nat → Nat) : (cells8 c).size = 8 := rfl
theorem cells8_ext {a : Array Value} {c : Nat → Nat} (hs : a.size = 8) (h : ∀ j, j < 8 → a[j]? = some (.int .u8 (c j : Nat))) : a = cells8 c := by
 apply Array.ext_getElem?
 intro i
 by_cases hi : i < 8
 ·rw [h i hi, cells8_at c i hi]
 ·rw [Array.getElem?_eq_none (by omega), Array.getElem?_eq_none (by rw [cells8_size]; omega)]

/-- 'copy(block[:], s)' into eight fresh bytes. -/
theorem step_copy8 {ops : Array Oper} {o : Oper} {a : Act} {w : World} {K : Act → World → Prop} {Q : Exit → Act → World → Prop} {E : Prop}
  (hg : o.guard = none) (d x : Operand) (hop : o.op = Op.call { callee := Callee.builtin Builtin.copy, args := #[d, x], argTypes := #[64, 9] })
  (b cap : Nat) (hd : a.eval d = .slice (some ⟨b, 0, none⟩) 8 cap) (t : ByteArray) (hx : a.eval x = .string t)
  (hb : w.heap[b]? = some (.cells (cells8 fun _ => 0) 106 (0, 0)))
  (hK : ∀ v w', w'.heap[b]? = some (.cells (cells8 fun i => byteAt t.data.toList i) 106 (0, 0)) → w.grownBy w' (some b) → w'.heap.size = w.heap.size → K (a.put o.dst v) w') :
  if Region.wanted o (yielded ops a.tmps) = true then Oper.wp Tryz.prog o a w K Q else E := by
 have hw : Region.wanted o (yielded ops a.tmps) = true := by simp [Region.wanted, hg]
 rw [if_pos hw]
 have hz : ∀ w, (Go.sizeOf 5).run Tryz.prog w = .ok 1 w := Tryz.sizeOf5
 have hu := Tryz.underlying64
 have hsz : t.size = t.data.toList.length := Lib.size_eq t
 have hst := run_storeCells_at Tryz.prog b 0 106 ((t.data.toList.map fun x => Value.int .u8 (x.toNat : Int)).take (Nat.min t.size 8)) 0 (cells8 fun _ => 0) w hb
  (by simp only [List.length_take, List.length_map, cells8_size]; simp only [Nat.min_def]; split <;> split <;> omega)
  (by
    intro v hv
    obtain ⟨x, _, rfl⟩ := List.mem_map.1 (List.mem_of_mem_take hv)
    rfl)
 have hrow : ((cells8 fun _ => 0).toList.take (0 + 0) ++ ((t.data.toList.map fun x => Value.int .u8 (x.toNat : Int)).take (Nat.min t.size 8)) ++ (cells8 fun _ => 0).toList.drop (0 + 0 + ((t.data.toList.map fun x => Value.int .u8 (x.toNat : Int)).take (Nat.min t.size 8)).length)).toArray = cells8 fun i => byteAt t.data.toList i := by
  apply cells8_ext
  ·simp only [Nat.add_zero, List.take_zero, List.nil_append, List.size_toArray, List.length_append, List.length_take, List.length_map, List.length_drop, Nat.zero_add, ← hsz]
   have : (cells8 fun _ => 0).toList.length = 8 := rfl
   rw [this]
   simp only [Nat.min_def]
   split <;> split <;> omega
  ·intro j hj
   simp only [Nat.add_zero, List.take_zero, List.nil_append, List.getElem?_toArray, Nat.zero_add]
   have hl : ((t.data.toList.map fun x => Value.int .u8 (x.toNat : Int)).take (Nat.min t.size 8)).length = Nat.min t.size 8 := by
    simp only [List.length_take, List.length_map, ← hsz]
    simp only [Nat.min_def]; split <;> split <;> omega
   by_cases hjt : j < t.size
   ·have hjm : j < Nat.min t.size 8 := by simp only [Nat.min_def]; split <;> omega
    rw [List.getElem?_append_left (by rw [hl]; exact hjm), List.getElem?_take_of_lt hjm, List.getElem?_map]
    unfold byteAt
    rw [List.getElem?_eq_getElem (by omega)]
    rfl
   ·have hm : Nat.min t.size 8 = t.size := by simp only [Nat.min_def]; split <;> omega
    rw [List.getElem?_append_right (by rw [hl, hm]; omega), hl, hm, List.getElem?_drop, byteAt_ge (by omega)]
    rw [show t.size + (j - t.size) = j by omega]
    have := cells8_at (fun _ => 0) j hj
    simpa using this
 rw [hrow] at hst
 have hrun : (Builtin.copy_ #[64, 9] o.type #[.slice (some ⟨b, 0, none⟩) 8 cap, .string t]).run Tryz.prog w = .ok (goInt (Nat.min t.size 8)) (w.setRow b (cells8 fun i => byteAt t.data.toList i)) := by
  simp [Builtin.copy_, run_underlying hu, Builtin.lenOf, Builtin.firstCells, hz]
  have hst' := hst
  simp only [Nat.min_def] at hst' ⊢
  rw [hst']
  rfl
 unfold Oper.wp
 simp [execOp, hop, resolve, invoke, builtin, hd, hx, hrun, Result.andThen]
 exact hK _ _ (setRow_heap w b _ _ _ _ hb) ⟨rfl, rfl, rfl, by simp, fun k _ hne => setRow_other w b k _ (by intro e; subst e; simp at hne)⟩ (by simp)
end Go.Proofs.YtnkepmfgmfeabaaGreatDoor
set_option linter.unusedVariables false
namespace Go.Proofs.YtnkepmfgmfeabaaGreatDoor
open Go Go.RowKit

theorem StAt.grown {b g : Nat} {x : BitVec 64} {w0 w w' : World} (h : StAt b x w0 w) (hg : w.grownBy w' (some g)) (hgb : b < g) (hs : w'.heap.size = w.heap.size) : StAt b x w0 w' := by
 have hb : w'.heap[b]? = w.heap[b]? := hg.block b h.lt (by simp; omega)
 refine ⟨⟨hg.os.trans h.below.os, hg.tape.trans h.below.tape, hg.output.trans h.below.output, by rw [hs]; exact h.below.size, fun k hk => ?_⟩, by rw [hs]; exact h.lt, ?_, ?_⟩
 ·rw [hg.block k (by have := h.lt; omega) (by simp; omega)]; exact h.below.block k hk
 ·rw [World.cell?_of_block hb]; exact h.cell
 ·rw [World.frozen?_of_block hb]; exact h.frozen
theorem byteAt_extract (t : ByteArray) (f i : Nat) : byteAt (t.extract f t.size).data.toList i = byteAt t.data.toList (f + i) := by
 unfold byteAt
 rw [ByteArray.data_extract, Array.toList_extract]
 simp only [List.extract_eq_take_drop]
 by_cases h : i < t.size - f
 ·rw [List.getElem?_take_of_lt h, List.getElem?_drop]
 ·rw [List.getElem?_eq_none (by simp; omega), List.getElem?_eq_none (by have := Lib.size_eq t; omega)]
set_option maxRecDepth 100000 in
theorem blocks_calls (t : ByteArray) (ht : t.size ≤ 4611686018427387904) (b : Nat) (w0 w : World) (h : StAt b (st t.data.toList 0) w0 w) :
  Calls Tryz.prog 33 #[.string t, .func (Fn.func 34) #[.pointer (some ⟨b, 0, none⟩)] #[]] w fun e w' =>
   e = .returned (.tuple #[]) ∧ StAt b (endSt t.data.toList) w0 w' := by
 have H := Lib.hid h
 clear h
 go_enter Tryz.func33, Tryz.ntmps33
 go_wp2_with fail
 go_loopw [4] (fun vf W => ∃ j : Nat, vf = .int .i64 ((8 * j : Nat) : Int) ∧ 8 * j ≤ t.size + 8 ∧ Hid (StAt b (st t.data.toList j) w0 W)) (fun vf _ => t.size + 9 - (RowKit.intOf vf).toNat)
 case atStart => exact ⟨0, rfl, by omega, H⟩
 case round =>
  obtain ⟨j, rfl, hj, HS⟩ := hrel
  clear H
  by_cases hjl : 8 * j ≤ t.size
  ·obtain ⟨f, hf⟩ : ∃ f, f = 8 * j := ⟨_, rfl⟩
   rw [← hf]
   have hfl : f ≤ t.size := by omega
   have HF := Lib.hid hf
   clear hf hj hjl
   go_wp2_with fail
   have HB : Hid ((wr.alloc (.cells (cells8 fun _ => 0) 106)).drew.heap[wr.heap.size]? = some (.cells (cells8 fun _ => 0) 106 (0, 0))) := heap_alloc_new wr _
   have HN : Hid (StAt b (st t.data.toList j) w0 (wr.alloc (.cells (cells8 fun _ => 0) 106))) := Lib.hid (HS.out.alloc _)
   show Code.wp _ _ _ _ (wr.alloc (.cells (cells8 fun _ => 0) 106))
   generalize hW1 : (wr.alloc (.cells (cells8 fun _ => 0) 106)) = W1 at *
   go_cut [16] from 12 (fun _ w2 => ∃ u : ByteArray, u = t.extract f t.size ∧ w2.heap[wr.heap.size]? = some (.cells (cells8 fun i => byteAt u.data.toList i) 106 (0, 0)) ∧ W1.grownBy w2 (some wr.heap.size) ∧ w2.heap.size = W1.heap.size)
   case first =>
    go_region_law (refine step_copy8 rfl (.tmp 12) (.tmp 15) rfl wr.heap.size 8 rfl _ rfl HB.out ?_; intro v w6 hg6 hgr6 hsz6)
    all_goals (go_wp2_with fail; go_meet; exact ⟨_, rfl, hg6, ⟨hgr6.os, hgr6.tape, hgr6.output, hgr6.size, hgr6.block⟩, by rw [hsz6]; rfl⟩)
   case rest =>
    obtain ⟨u, hu, hg6, hgr6, hsz6⟩ := hcut
    have hbl := HS.out.lt
    have HS2 := Lib.hid (HN.out.grown hgr6 hbl hsz6)
    have HU : Hid (blkF (fun i => byteAt u.data.toList i) 8 = blk t.data.toList (8 * j) 8) := by
     rw [← HF.out, ← blkF_blk]
     congr 1
     funext i
     rw [hu]; exact byteAt_extract t f i
    have HSz : Hid (wr.heap.size < wc.heap.size) := by
     have : W1.heap.size = wr.heap.size + 1 := by rw [← hW1]; exact World.size_alloc ..
     exact Lib.hid (by omega)
    generalize wr.heap.size = tb at *
    obtain ⟨c, hc⟩ : ∃ c : Nat → Nat, c = fun i => byteAt u.data.toList i := ⟨_, rfl⟩
    rw [← hc] at hg6 HU
    have h256 : Hid (∀ i, c i < 256) := Lib.hid fun i => by rw [hc]; exact byteAt_lt _ _
    clear hc hu HS HB HN hgr6 hsz6
    have hcell : ∀ i, i < 8 → wc.cell? ⟨tb, i, none⟩ = some (.int .u8 (c i : Nat)) := fun i hi => by
     have := cells8_at c i hi
     simp [World.cell?, hg6, this]
    have hc0 := hcell 0 (by decide)
    have hc1 := hcell 1 (by decide)
    have hc2 := hcell 2 (by decide)
    have hc3 := hcell 3 (by decide)
    have hc4 := hcell 4 (by decide)
    have hc5 := hcell 5 (by decide)
    have hc6 := hcell 6 (by decide)
    have hc7 := hcell 7 (by decide)
    clear hcell
    go_wp2_with fail
    refine (take_calls b _ c h256.out w0 wc HS2.out).mono ?_
    rintro e w3 ⟨rfl, h3⟩
    rw [HU.out] at h3
    have H3 : Hid (StAt b (st t.data.toList (j + 1)) w0 w3) := h3
    clear h3 HS2 HU h256 hg6 hc0 hc1 hc2 hc3 hc4 hc5 hc6 hc7
    go_wp2
    go_round
    case rel => exact ⟨j + 1, by rw [HF.out]; congr 1, by have := HF.out; omega, H3⟩
    case measure => simp only [RowKit.intOf]; omega
  ·have hje : j = t.size / 8 + 1 := by omega
   have HE : Hid (StAt b (endSt t.data.toList) w0 wr) := by
    have := HS.out
    rw [hje, Lib.size_eq] at this
    exact this
   obtain ⟨f, hf⟩ : ∃ f, f = 8 * j := ⟨_, rfl⟩
   rw [← hf]
   have hfl : t.size < f := by omega
   clear hf hj hjl HS hje
   go_wp2
   go_end0
   exact ⟨rfl, HE.out⟩
end Go.Proofs.YtnkepmfgmfeabaaGreatDoor
set_option linter.unusedVariables false
namespace Go.Proofs.YtnkepmfgmfeabaaGreatDoor
open Go Go.RowKit

def hexS (n : Nat) : ByteArray := ⟨(low (hexLen n) n).toArray⟩
theorem hexS_size (n : Nat) : (hexS n).size = hexLen n := by
 rw [Lib.size_eq]; simp [hexS, low_length]
theorem formatUintS (n : Nat) (hn : n < 18446744073709551616) (w : World) (hT : Tabs w) :
  Calls Tryz.prog 35 #[.int .u64 n, .int .i64 16] w fun e w' => e = .returned (.string (hexS n)) ∧ Below w.heap.size w w' :=
 formatUint16 n hn w hT
def zerosS (k : Nat) : ByteArray := ⟨(Lib.repeatL [48] k).toArray⟩
theorem repeat0 (k : Nat) (hk : k ≤ 16) (w : World) :
  Calls Tryz.prog 36 #[.string { data := #[48] }, .int .i64 k] w fun e w' => e = .returned (.string (zerosS k)) ∧ Below w.heap.size w w' :=
 Tryz.strings_Repeat { data := #[48] } k w (by omega) (by show 1 * k ≤ _; omega)
theorem repeatL_rep (k : Nat) : Lib.repeatL [48] k = List.replicate k 48 := by
 induction k with
 | zero => rfl
 | succ k ih => rw [List.replicate_succ, ← ih]; rfl
theorem zerosS_size (k : Nat) : (zerosS k).size = k := by
 rw [Lib.size_eq]; simp [zerosS, repeatL_rep]
theorem sum_join (t : ByteArray) (k n : Nat) (hn : n = (endSt t.data.toList).toNat) (hk : k = 16 - hexLen n) : zerosS k ++ hexS n = sumS t := by
 apply ByteArray.ext
 rw [ByteArray.data_append]
 apply Array.toList_inj.1
 rw [Array.toList_append]
 simp only [zerosS, hexS, sumS, sumL, repeatL_rep]
 rw [hk, ← hn, low_pad n (by rw [hn]; simpa using (endSt t.data.toList).isLt)]

set_option maxRecDepth 100000 in
theorem sum_calls (t : ByteArray) (ht : t.size ≤ 4611686018427387904) (w : World) (hT : Tabs w) :
  Calls Tryz.prog 12 #[.string t] w fun e w' => e = .returned (.string (sumS t)) ∧ Below w.heap.size w w' := by
 have HT := Lib.hid hT
 clear hT
 go_enter Tryz.func12, Tryz.ntmps12
 go_wp2_with fail
 have hx0 : bits BinOp.xor IntKind.u64 2611923443488327891 (t.size : Int) = ((st t.data.toList 0).toNat : Int) := by
  have := xorB 2611923443488327891#64 (BitVec.ofNat 64 t.size)
  rw [toNat_small t.size (by omega)] at this
  rw [st, ← Lib.size_eq]
  exact this
 have hS : StAt w.heap.size (st t.data.toList 0) w (w.alloc (.cells #[.int .u64 (bits BinOp.xor IntKind.u64 2611923443488327891 (t.size : Int))] 67)) := by
  rw [hx0]
  refine ⟨(Below.refl _ _).alloc (Nat.le_refl _) _, by rw [World.size_alloc]; omega, by rw [World.cell?_alloc_new]; rfl, World.frozen?_alloc_new _ _ _ _⟩
 refine (blocks_calls t ht w.heap.size w _ hS).mono ?_
 rintro e w1 ⟨rfl, h1⟩
 clear hS hx0
 have hc := h1.cell
 have HB := Lib.hid h1.below
 clear h1
 have hlt : (endSt t.data.toList).toNat < 18446744073709551616 := by simpa using (endSt t.data.toList).isLt
 obtain ⟨n, hn⟩ : ∃ n, n = (endSt t.data.toList).toNat := ⟨_, rfl⟩
 rw [← hn] at hc hlt
 have HN := Lib.hid hn
 clear hn
 go_wp2_with fail
 refine (formatUintS n hlt w1 (HT.out.on HB.out)).mono ?_
 rintro e w2 ⟨rfl, h2⟩
 have HB2 : Hid (Below w.heap.size w w2) := Lib.hid (HB.out.trans (h2.mono HB.out.size))
 have hz := hexS_size n
 have h16 := hexLen_le16 n hlt
 obtain ⟨m, hm⟩ : ∃ m, m = 16 - hexLen n := ⟨_, rfl⟩
 obtain ⟨q, hq⟩ : ∃ q, q = (hexS n).size := ⟨_, rfl⟩
 have HJ := Lib.hid (sum_join t m n HN.out hm)
 have hmq : q + m = 16 := by omega
 generalize hexS n = o at *
 have HM := Lib.hid hm
 clear h2 hm hz h16
 subst hq
 go_wp2_with fail
 rw [show (16 - (o.size : Int)) = ((m : Nat) : Int) by omega]
 refine (repeat0 m (by omega) w2).mono ?_
 rintro e w3 ⟨rfl, h3⟩
 have HB3 : Hid (Below w.heap.size w w3) := Lib.hid (HB2.out.trans (h3.mono HB2.out.size))
 have hzs := zerosS_size m
 have hsm : ¬ 9223372036854775807 < (zerosS m).size + o.size := by omega
 go_wp2
 go_ret
 exact ⟨by rw [← HJ.out]; rfl, HB3.out⟩
end Go.Proofs.YtnkepmfgmfeabaaGreatDoor
set_option linter.unusedVariables false
namespace Go.Proofs.YtnkepmfgmfeabaaGreatDoor
open Go Go.RowKit

def bS (l : List UInt8) : ByteArray := ⟨l.toArray⟩
theorem bS_size (l : List UInt8) : (bS l).size = l.length := by rw [Lib.size_eq]; simp [bS]
theorem bS_list (l : List UInt8) : (bS l).data.toList = l := by simp [bS]
theorem list_bS (t : ByteArray) : bS t.data.toList = t := by apply ByteArray.ext; simp [bS]
theorem sumS_bS (l : List UInt8) : sumS (bS l) = bS (sumL l) := by unfold sumS; rw [bS_list]; rfl
theorem sumS_size (t : ByteArray) : (sumS t).size = 16 := by rw [Lib.size_eq]; simp [sumS, sumL_length]
def chainS (t : ByteArray) : Nat → ByteArray
 | 0 => t
 | n + 1 => sumS (chainS t n)
theorem chainS_bS (t : ByteArray) (n : Nat) : chainS t n = bS (chainL t.data.toList n) := by
 induction n with
 | zero => exact (list_bS t).symm
 | succ n ih => rw [chainS, ih, sumS_bS]; rfl
theorem chainS_size (t : ByteArray) (n : Nat) (h : t.size ≤ 4611686018427387904) : (chainS t n).size ≤ 4611686018427387904 := by
 cases n with
 | zero => exact h
 | succ n => rw [chainS, sumS_size]; decide
/-- how many digests Chain takes -/
def chainN (n : Int) : Nat := if n < 0 then 0 else if 1000 < n then 1000 else n.toNat
/-! Is -/
def hexC : ByteArray := { data := #[48, 49, 50, 51, 52, 53, 54, 55, 56, 57, 97, 98, 99, 100, 101, 102] }
def isS (t : ByteArray) : Bool := isL t.data.toList
def trimC (t : ByteArray) : ByteArray := ⟨(Lib.trimS t.data.toList hexC.data.toList).toArray⟩
theorem trim_hex (t : ByteArray) (ht : t.size ≤ 9223372036854775807) (w : World) :
  Calls Tryz.prog 64 #[.string t, .string { data := #[48, 49, 50, 51, 52, 53, 54, 55, 56, 57, 97, 98, 99, 100, 101, 102] }] w fun e w' => e = .returned (.string (trimC t)) ∧ Below w.heap.size w w' :=
 Any.strings_Trim_laid Tryz.lays160 (by kernel_rfl) t hexC w ht (by decide) (ascii_of_all (by decide))
theorem all_hexC (c : UInt8) : hexC.data.toList.contains c = hexd c := by
 have : ∀ n : Fin 256, hexC.data.toList.contains (UInt8.ofNat n.val) = hexd (UInt8.ofNat n.val) := by decide +kernel
 have h := this ⟨c.toNat, UInt8.toNat_lt c⟩
 simpa using h
theorem dropWhile_nil (p : UInt8 → Bool) : ∀ l : List UInt8, l.dropWhile p = [] ↔ ∀ x ∈ l, p x = true
 | [] => by simp
 | a :: l => by
  rw [List.dropWhile_cons]
  by_cases ha : p a = true
  ·rw [if_pos ha, dropWhile_nil p l]; simp [ha]
  ·rw [if_neg ha]
   constructor
   ·intro h; cases h
   ·intro h; exact absurd (h a (List.mem_cons_self ..)) ha
theorem dropWhile_first (p : UInt8 → Bool) : ∀ {l : List UInt8} {a : UInt8} {r : List UInt8}, l.dropWhile p = a :: r → p a = false
 | [], _, _, h => by cases h
 | x :: l, a, r, h => by
  rw [List.dropWhile_cons] at h
  by_cases hx : p x = true
  ·rw [if_pos hx] at h; exact dropWhile_first p h
  ·rw [if_neg hx] at h
   injection h with h1 _
   subst h1
   simpa using hx
theorem trim_nil (l cs : List UInt8) : (Lib.trimS l cs = []) ↔ ∀ x ∈ l, cs.contains x = true := by
 unfold Lib.trimS Lib.trimLeftS Lib.trimRightS
 rw [dropWhile_nil]
 constructor
 ·intro h x hx
  cases hr : l.reverse.dropWhile (cs.contains ·) with
  | nil =>
   rw [dropWhile_nil] at hr
   exact hr x (List.mem_reverse.2 hx)
  | cons a r =>
   exfalso
   have ha : cs.contains a = false := dropWhile_first _ hr
   have := h a (by rw [hr]; simp)
   rw [ha] at this
   cases this
 ·intro h x hx
  have h1 := List.mem_reverse.1 hx
  exact h x (List.mem_reverse.1 ((List.dropWhile_sublist _).subset h1))
theorem isS_eq (t : ByteArray) (h : t.size = 16) : (trimC t).toList.isEmpty = isS t := by
 rw [← decide_eq_emptyBytes]
 have hb : (trimC t = ByteArray.empty) ↔ isS t = true := by
  have h1 : (trimC t = ByteArray.empty) ↔ Lib.trimS t.data.toList hexC.data.toList = [] := by
   constructor
   ·intro e
    have := congrArg (fun b : ByteArray => b.data.toList) e
    simpa [trimC] using this
   ·intro e
    unfold trimC; rw [e]; rfl
  rw [h1, trim_nil]
  unfold isS isL
  have : (t.data.toList.length == 16) = true := by rw [← Lib.size_eq]; simpa using h
  rw [this, Bool.true_and, List.all_eq_true]
  simp only [all_hexC]
 cases hi : isS t with
 | true => exact decide_eq_true (hb.2 hi)
 | false => exact decide_eq_false (fun e => by rw [hb.1 e] at hi; cases hi)
theorem isS_no (t : ByteArray) (h : t.size ≠ 16) : isS t = false := by
 unfold isS isL
 have : (t.data.toList.length == 16) = false := by rw [← Lib.size_eq]; simpa using h
 rw [this]; rfl
theorem is_calls (t : ByteArray) (ht : t.size ≤ 4611686018427387904) (w : World) :
  Calls Tryz.prog 38 #[.string t] w fun e w' => e = .returned (.bool (isS t)) ∧ Below w.heap.size w w' := by
 by_cases h : t.size = 16
 ·have he := Lib.hid (isS_eq t h)
  go_enter Tryz.func38, Tryz.ntmps38
  go_wp2_with fail
  refine (trim_hex t (by omega) w).mono ?_
  rintro e w1 ⟨rfl, h1⟩
  go_wp2
  go_ret
  exact ⟨by rw [← he.out]; rfl, h1⟩
 ·have hn := isS_no t h
  go_enter Tryz.func38, Tryz.ntmps38
  go_wp2
  go_ret
  exact ⟨by rw [hn]; rfl, Below.refl _ _⟩
end Go.Proofs.YtnkepmfgmfeabaaGreatDoor
set_option linter.unusedVariables false
namespace Go.Proofs.YtnkepmfgmfeabaaGreatDoor
open Go Go.RowKit

/-- A slice value that holds strings. -/
def IsStrs (w : World) (v : Value) (l : List ByteArray) : Prop :=
 ∃ (ao : Option Addr) (cap : Nat), v = .slice ao l.length cap ∧ l.length ≤ maxLen ∧ ∀ i, i < l.length → ∃ b o, ao = some ⟨b, o, none⟩ ∧ b < w.heap.size ∧
  w.cell? ⟨b, o + i, none⟩ = some (.string (l.getD i ByteArray.empty))
def listsOf (l : List ByteArray) : List (List UInt8) := l.map (·.data.toList)
def joinB (l : List ByteArray) : List UInt8 := joinL (listsOf l)
theorem joinB_append (l m : List ByteArray) : joinB (l ++ m) = joinB l ++ joinB m := by
 unfold joinB listsOf; rw [List.map_append, joinL_append]
theorem joinB_take (l : List ByteArray) (i : Nat) (h : i < l.length) : joinB (l.take (i + 1)) = joinB (l.take i) ++ (Lib.decDigits (l.getD i ByteArray.empty).size ++ [58] ++ (l.getD i ByteArray.empty).data.toList) := by
 rw [List.take_add_one, joinB_append, List.getElem?_eq_getElem h]
 have e : l.getD i ByteArray.empty = l[i] := by simp [List.getD, List.getElem?_eq_getElem h]
 rw [e, Lib.size_eq]
 simp [joinB, listsOf, joinL]
theorem joinB_take_le (l : List ByteArray) (i : Nat) : (joinB (l.take i)).length ≤ (joinB l).length := by
 have := joinB_append (l.take i) (l.drop i)
 rw [List.take_append_drop] at this
 rw [this, List.length_append]; omega
def itoaS (n : Nat) : ByteArray := ⟨(Lib.decDigits n).toArray⟩
theorem itoa_calls (n : Nat) (hn : n ≤ 9223372036854775807) (w : World) (hT : Tabs w) :
  Calls Tryz.prog 31 #[.int .i64 n] w fun e w' => e = .returned (.string (itoaS n)) ∧ Below w.heap.size w w' := by
 refine (Tryz.strconv_Itoa n (by omega) (by omega) w hT.1).mono ?_
 rintro e w1 ⟨rfl, k, os, rfl⟩
 refine ⟨?_, Lib.below_grow _ w (Nat.le_refl _) k os⟩
 rw [Lib.itoa_nonneg]; rfl

theorem grownBy_of_below {w w' : World} (h : Below w.heap.size w w') : w.grownBy w' none := ⟨h.os, h.tape, h.output, h.size, fun k hk _ => h.block k hk⟩
theorem builderAt_below {T e : TypeId} {B b : Nat} {p : Value} {bs : List Value} {w w' : World} (h : Lib.BuilderAt T e B b p bs w) (hb : Below w.heap.size w w') : Lib.BuilderAt T e B b p bs w' := by
 have hlt := h.lt
 obtain ⟨h1, v, h2, h3, h4⟩ := h
 refine ⟨h1, v, by rw [hb.block b hlt]; exact h2, h3.kept (grownBy_of_below hb) ?_, h4⟩
 by_cases hn : v.ownBlock = none
 ·exact .inl hn
 ·exact .inr hn
theorem isBuilder_below {T e : TypeId} {B b : Nat} {bs : List Value} {w w' : World} (h : Lib.IsBuilder T e B b bs w) (hb : Below w.heap.size w w') : Lib.IsBuilder T e B b bs w' := by
 rcases h with h | h
 ·exact .inl (builderAt_below h hb)
 ·exact .inr (builderAt_below h hb)
set_option maxRecDepth 100000 in
theorem list_calls (v : Value) (ls : List ByteArray) (w : World) (hv : IsStrs w v ls) (hJ : (joinB ls).length ≤ 140737488355328) (hT : Tabs w) :
  Calls Tryz.prog 32 #[v] w fun e w' => e = .returned (.string (sumS (bS (joinB ls)))) ∧ Below w.heap.size w w' := by
 obtain ⟨ao, cap, rfl, hmax, hcells⟩ := hv
 have HT := Lib.hid hT
 have HC := Lib.hid hcells
 clear hT hcells
 have hmx : ls.length ≤ 9223372036854775807 := hmax
 clear hmax
 go_enter Tryz.func32, Tryz.ntmps32
 go_wp2_with fail
 have HB0 : Hid (Lib.IsBuilder 100 5 w.heap.size w.heap.size (Lib.byteCells (joinB (ls.take 0))) (w.alloc (.cells #[.pointer none, .slice none 0 0] 100))) := Lib.fresh_isBuilder _ _ w
 have HW0 : Hid (Below w.heap.size w (w.alloc (.cells #[.pointer none, .slice none 0 0] 100))) := Lib.hid ((Below.refl _ _).alloc (Nat.le_refl _) _)
 go_loopw [8] (fun vi W => ∃ i : Nat, vi = .int .i64 (i : Int) ∧ i ≤ ls.length ∧ Hid (Lib.IsBuilder 100 5 w.heap.size w.heap.size (Lib.byteCells (joinB (ls.take i))) W ∧ Below w.heap.size w W)) (fun vi _ => ls.length - (RowKit.intOf vi).toNat)
 case atStart => exact ⟨0, rfl, by omega, HB0.out, HW0.out⟩
 case round =>
  obtain ⟨i, rfl, hik, HB⟩ := hrel
  clear HB0 HW0
  by_cases hi : i < ls.length
  ·obtain ⟨b, o, rfl, hlt, hc⟩ := HC.out i hi
   have hcw : wr.cell? ⟨b, o + i, none⟩ = some (.string (ls.getD i ByteArray.empty)) := by rw [HB.out.2.cell (p := ⟨b, o + i, none⟩) hlt]; exact hc
   have HJ := Lib.hid (joinB_take ls i hi)
   have HL := Lib.hid (joinB_take_le ls (i + 1))
   generalize ls.getD i ByteArray.empty = s at *
   have hlen : (joinB (ls.take i)).length + (Lib.decDigits s.size).length + 1 + s.size ≤ 140737488355328 := by
    have h1 := HL.out
    rw [HJ.out] at h1
    simp only [List.length_append, List.length_singleton, ← Lib.size_eq] at h1
    omega
   have hss : s.size ≤ 9223372036854775807 := by omega
   have HLEN := Lib.hid hlen
   clear hlen hc
   go_wp2_with fail
   have hBw := HB.out.2.size
   refine (itoa_calls s.size hss wr (HT.out.on HB.out.2)).mono ?_
   rintro e w1 ⟨rfl, h1⟩
   have hb1 := isBuilder_below HB.out.1 h1
   have HW1 := HB.out.2.trans (h1.mono HB.out.2.size)
   have hl1 : (Lib.byteCells (joinB (ls.take i))).length = (joinB (ls.take i)).length := by simp [Lib.byteCells]
   have hl2 : (itoaS s.size).size = (Lib.decDigits s.size).length := by rw [Lib.size_eq]; simp [itoaS]
   go_wp2_with fail
   refine (Tryz.Builder_WriteString w.heap.size w.heap.size _ (itoaS s.size) w1 hb1 (by have := HLEN.out; omega) HW1.size).mono ?_
   rintro e w2 ⟨rfl, hb2, h2⟩
   have HW2 := HW1.trans h2
   have hl3 : (Lib.strCells (itoaS s.size)).length = (Lib.decDigits s.size).length := by simp [Lib.strCells, itoaS]
   have H2 := Lib.hid (And.intro hb2 HW2)
   clear hb1 HW1 hb2 HW2 h1 h2
   go_wp2_with fail
   refine (Tryz.Builder_WriteByte w.heap.size w.heap.size _ 58 w2 (.inr H2.out.1) (by have := HLEN.out; rw [List.length_append]; omega) H2.out.2.size).mono ?_
   rintro e w3 ⟨rfl, hb3, h3⟩
   have H3 := Lib.hid (And.intro hb3 (H2.out.2.trans h3))
   clear hb3 h3 H2
   go_wp2_with fail
   refine (Tryz.Builder_WriteString w.heap.size w.heap.size _ s w3 (.inr H3.out.1) (by have := HLEN.out; simp only [List.length_append, List.length_singleton]; omega) H3.out.2.size).mono ?_
   rintro e w4 ⟨rfl, hb4, h4⟩
   have H4 : Hid (Lib.IsBuilder 100 5 w.heap.size w.heap.size (Lib.byteCells (joinB (ls.take (i + 1)))) w4 ∧ Below w.heap.size w w4) := by
    refine Lib.hid ⟨.inr ?_, H3.out.2.trans h4⟩
    rw [HJ.out]
    have e : Lib.byteCells (joinB (ls.take i) ++ (Lib.decDigits s.size ++ [58] ++ s.data.toList)) = Lib.byteCells (joinB (ls.take i)) ++ Lib.strCells (itoaS s.size) ++ [.int .u8 58] ++ Lib.strCells s := by
     simp [Lib.byteCells, Lib.strCells, itoaS]
    rw [e]
    exact hb4
   clear hb4 h4 H3 hl1 hl2 hl3 HJ HL
   go_wp2
   go_round
   case rel => exact ⟨i + 1, rfl, by omega, H4.out⟩
   case measure => simp only [RowKit.intOf]; omega
  ·have e : i = ls.length := by omega
   subst e
   have HB1 : Hid (Lib.IsBuilder 100 5 w.heap.size w.heap.size (Lib.byteCells (joinB ls)) wr) := by
    have := HB.out.1
    rw [List.take_length] at this
    exact this
   have HB2 := Lib.hid HB.out.2
   have hj2 : (bS (joinB ls)).size ≤ 4611686018427387904 := by rw [bS_size]; omega
   clear HB
   go_wp2_with fail
   refine (Tryz.Builder_String_any w.heap.size w.heap.size (joinB ls) wr HB1.out HB2.out.size).mono ?_
   rintro e w1 ⟨rfl, h1⟩
   have HW1 := Lib.hid (HB2.out.trans h1)
   have HT2 : Tabs w1 := HT.out.on HW1.out
   go_wp2_with fail
   refine (sum_calls (bS (joinB ls)) hj2 w1 HT2).mono ?_
   rintro e w2 ⟨rfl, h2⟩
   have HW2 := Lib.hid (HW1.out.trans (h2.mono HW1.out.size))
   clear HT2 h1 h2
   go_wp2
   go_ret
   exact ⟨rfl, HW2.out⟩
end Go.Proofs.YtnkepmfgmfeabaaGreatDoor
set_option linter.unusedVariables false
namespace Go.Proofs.YtnkepmfgmfeabaaGreatDoor
open Go Go.RowKit

theorem idxS (t : ByteArray) (i : Nat) (h : i < t.size) (k : IntKind) (w : World) :
  (Instr.index 9 (.string t) (.int k (i : Int))).run Tryz.prog w = .ok (.int .u8 (byteAt t.data.toList i : Nat)) w := by
 rw [run_index_string w 9 t k _ Tryz.underlying9, dif_pos ⟨by omega, by omega⟩]
 have e : ((i : Int)).toNat = i := by omega
 simp only [e]
 unfold byteAt
 have hl : i < t.data.toList.length := by rw [← Lib.size_eq]; exact h
 rw [List.getElem?_eq_getElem hl]
 rfl
end Go.Proofs.YtnkepmfgmfeabaaGreatDoor
set_option linter.unusedVariables false
namespace Go.Proofs.YtnkepmfgmfeabaaGreatDoor
open Go Go.RowKit

def hd (v : Nat) : List UInt8 := if v = 0 then [] else Lib.decDigits v
theorem itoaS_le (n : Nat) (h : n ≤ 9223372036854775807) : (itoaS n).size ≤ 21 := by
 rw [Lib.size_eq]
 have := Lib.itoa_length_le (n : Int) (by omega) (by omega)
 rw [Lib.itoa_nonneg] at this
 simpa [itoaS] using this

end Go.Proofs.YtnkepmfgmfeabaaGreatDoor
set_option linter.unusedVariables false
namespace Go.Proofs.YtnkepmfgmfeabaaGreatDoor
open Go Go.RowKit
end Go.Proofs.YtnkepmfgmfeabaaGreatDoor
set_option linter.unusedVariables false
namespace Go.Proofs.YtnkepmfgmfeabaaGreatDoor
open Go Go.RowKit

theorem cell_byte_new (w : World) (v : Value) (e : TypeId) : ∀ j u, [v][j]? = some u → (w.alloc (.cells #[v] e)).cell? ((⟨w.heap.size, 0, none⟩ : Addr).add j) = some u := by
 intro j u h
 match j, h with
 | 0, h =>
  simp only [List.getElem?_cons_zero, Option.some.injEq] at h
  subst h
  rw [Lib.add_plain, World.cell?_alloc_new]; rfl
end Go.Proofs.YtnkepmfgmfeabaaGreatDoor
set_option linter.unusedVariables false
namespace Go.Proofs.YtnkepmfgmfeabaaGreatDoor
open Go Go.RowKit

/-! plain laws on texts -/
theorem eqS (a b : ByteArray) : (a.toList == b.toList) = decide (a.data.toList = b.data.toList) := by
 rw [ByteArray.toList_eq, ByteArray.toList_eq]
 by_cases h : a.data.toList = b.data.toList
 ·rw [h]; simp
 ·rw [decide_eq_false h, beq_eq_false_iff_ne]; exact h
theorem isS_sumS (t : ByteArray) : isS (sumS t) = true := isL_sum _
theorem dec_len (n : Nat) : ∀ k, 0 < k → n < 10 ^ k → (Lib.decDigits n).length ≤ k := by
 induction n using Nat.strongRecOn with
 | _ n ih =>
  intro k hk h
  rw [Lib.decDigits]
  split
  ·exact hk
  ·rw [List.length_append, List.length_singleton]
   obtain ⟨j, rfl⟩ : ∃ j, k = j + 1 := ⟨k - 1, by omega⟩
   have hj : 0 < j := by
    rcases Nat.eq_zero_or_pos j with e | e
    ·subst e; simp at h; omega
    ·exact e
   have := ih (n / 10) (by omega) j hj (by rw [Nat.pow_succ] at h; omega)
   omega
/-! trees of lists: what the functions compute -/
def dg (l : List ByteArray) : ByteArray := sumS (bS (joinB l))
def sEmpty : ByteArray := { data := #[101, 109, 112, 116, 121] }
def sLeaf : ByteArray := { data := #[108, 101, 97, 102] }
def sNode : ByteArray := { data := #[110, 111, 100, 101] }

def halfGo (k n : Nat) : Nat := if h : 0 < k ∧ 2 * k < n then halfGo (2 * k) n else k
termination_by n - k
def half (n : Nat) : Nat := halfGo 1 n

theorem halfGo_spec (n : Nat) (hn : 2 ≤ n) : ∀ d k, n - k ≤ d → 0 < k → k < n → k ≤ halfGo k n ∧ halfGo k n < n ∧ n ≤ 2 * halfGo k n := by
 intro d
 induction d with
 | zero => intro k h1 h2 h3; omega
 | succ d ih =>
  intro k h1 h2 h3
  rw [halfGo]
  split
  ·have := ih (2 * k) (by omega) (by omega) (by omega)
   omega
  ·omega
theorem half_lt {n : Nat} (hn : 2 ≤ n) : half n < n := (halfGo_spec n hn (n - 1) 1 (Nat.le_refl _) (by decide) (by omega)).2.1
theorem half_pos {n : Nat} (hn : 2 ≤ n) : 0 < half n := (halfGo_spec n hn (n - 1) 1 (Nat.le_refl _) (by decide) (by omega)).1
theorem half_two {n : Nat} (hn : 2 ≤ n) : n ≤ 2 * half n := (halfGo_spec n hn (n - 1) 1 (Nat.le_refl _) (by decide) (by omega)).2.2
theorem halfGo_pow (n : Nat) : ∀ d k, n - k ≤ d → (∃ j, k = 2 ^ j) → ∃ j, halfGo k n = 2 ^ j := by
 intro d
 induction d with
 | zero =>
  intro k h1 h2
  rw [halfGo]
  split
  ·omega
  ·exact h2
 | succ d ih =>
  intro k h1 h2
  rw [halfGo]
  split
  ·obtain ⟨j, rfl⟩ := h2
   exact ih _ (by omega) ⟨j + 1, by rw [Nat.pow_succ]; omega⟩
  ·exact h2
theorem half_pow (n : Nat) : ∃ j, half n = 2 ^ j := halfGo_pow n (n - 1) 1 (Nat.le_refl _) ⟨0, rfl⟩
theorem pow_uniq {i j m : Nat} (h1 : 2 ^ i < m) (h2 : m ≤ 2 * 2 ^ i) (h3 : 2 ^ j < m) (h4 : m ≤ 2 * 2 ^ j) : 2 ^ i = 2 ^ j := by
 rcases Nat.lt_trichotomy i j with h | h | h
 ·have := Nat.pow_le_pow_right (n := 2) (by decide) (show i + 1 ≤ j from h)
  rw [Nat.pow_succ] at this
  omega
 ·rw [h]
 ·have := Nat.pow_le_pow_right (n := 2) (by decide) (show j + 1 ≤ i from h)
  rw [Nat.pow_succ] at this
  omega
def rootT (l : List ByteArray) : ByteArray :=
 if h : l.length ≤ 1 then (match l with | [] => dg [sEmpty] | s :: _ => dg [sLeaf, s])
 else dg [sNode, rootT (l.take (half l.length)), rootT (l.drop (half l.length))]
termination_by l.length
decreasing_by
 ·have := half_lt (n := l.length) (by omega); simp only [List.length_take]; omega
 ·have := half_pos (n := l.length) (by omega); simp only [List.length_drop]; omega
theorem rootT_nil : rootT [] = dg [sEmpty] := by rw [rootT]; rfl
theorem rootT_one (s : ByteArray) : rootT [s] = dg [sLeaf, s] := by rw [rootT]; rfl
theorem rootT_many {l : List ByteArray} (h : 2 ≤ l.length) : rootT l = dg [sNode, rootT (l.take (half l.length)), rootT (l.drop (half l.length))] := by
 rw [rootT, dif_neg (by omega)]

def pathT (l : List ByteArray) (i : Nat) : List ByteArray :=
 if h : l.length ≤ 1 then []
 else if i < half l.length then pathT (l.take (half l.length)) i ++ [rootT (l.drop (half l.length))]
 else pathT (l.drop (half l.length)) (i - half l.length) ++ [rootT (l.take (half l.length))]
termination_by l.length
decreasing_by
 ·have := half_lt (n := l.length) (by omega); simp only [List.length_take]; omega
 ·have := half_pos (n := l.length) (by omega); simp only [List.length_drop]; omega

def lenT (n i : Nat) : Nat :=
 if h : n ≤ 1 then 0 else if i < half n then 1 + lenT (half n) i else 1 + lenT (n - half n) (i - half n)
termination_by n
decreasing_by
 ·exact half_lt (by omega)
 ·have := half_pos (n := n) (by omega); omega

def popV (p : List ByteArray) : ByteArray := p.getLast?.getD ByteArray.empty
def upT (n i : Nat) (d : ByteArray) (p : List ByteArray) : ByteArray :=
 if h : n ≤ 1 then d
 else if i < half n then dg [sNode, upT (half n) i d p.dropLast, popV p] else dg [sNode, popV p, upT (n - half n) (i - half n) d p.dropLast]
termination_by n
decreasing_by
 ·exact half_lt (by omega)
 ·have := half_pos (n := n) (by omega); omega

/-- the head of a list's recursion, at n elements -/
theorem path_length (l : List ByteArray) : ∀ i, (pathT l i).length = lenT l.length i := by
 induction h : l.length using Nat.strongRecOn generalizing l with
 | _ n ih =>
  intro i
  rw [pathT, lenT]
  by_cases h1 : l.length ≤ 1
  ·rw [dif_pos h1, dif_pos (by omega)]; rfl
  ·have h2 := half_lt (n := l.length) (by omega)
   have h3 := half_pos (n := l.length) (by omega)
   rw [dif_neg h1, dif_neg (by omega)]
   subst h
   split
   ·rw [List.length_append, List.length_singleton, ih (half l.length) h2 (l.take (half l.length)) (by rw [List.length_take]; omega)]
    omega
   ·rw [List.length_append, List.length_singleton, ih (l.length - half l.length) (by omega) (l.drop (half l.length)) (by rw [List.length_drop])]
    omega
theorem popV_append (p : List ByteArray) (s : ByteArray) : popV (p ++ [s]) = s := by simp [popV]
theorem isS_dg (l : List ByteArray) : isS (dg l) = true := isL_sum _
theorem isS_root (l : List ByteArray) : isS (rootT l) = true := by
 rw [rootT]
 split
 ·split <;> exact isS_dg _
 ·exact isS_dg _
theorem path_isS (l : List ByteArray) : ∀ i, (pathT l i).all isS = true := by
 induction h : l.length using Nat.strongRecOn generalizing l with
 | _ n ih =>
  intro i
  rw [pathT]
  by_cases h1 : l.length ≤ 1
  ·rw [dif_pos h1]; rfl
  ·have h2 := half_lt (n := l.length) (by omega)
   have h3 := half_pos (n := l.length) (by omega)
   rw [dif_neg h1]
   subst h
   split
   ·rw [List.all_append, ih (half l.length) h2 (l.take (half l.length)) (by rw [List.length_take]; omega)]
    simp [isS_root]
   ·rw [List.all_append, ih (l.length - half l.length) (by omega) (l.drop (half l.length)) (by rw [List.length_drop])]
    simp [isS_root]
theorem up_path (l : List ByteArray) : ∀ i, i < l.length → upT l.length i (dg [sLeaf, l.getD i ByteArray.empty]) (pathT l i) = rootT l := by
 induction h : l.length using Nat.strongRecOn generalizing l with
 | _ n ih =>
  intro i hi
  subst h
  rw [pathT, upT]
  by_cases h1 : l.length ≤ 1
  ·rw [dif_pos h1]
   match l, hi, h1 with
   | [s], hi, _ =>
    have : i = 0 := by simpa using hi
    subst this
    exact (rootT_one s).symm
  ·have h2 := half_lt (n := l.length) (by omega)
   have h3 := half_pos (n := l.length) (by omega)
   rw [dif_neg h1, dif_neg h1, rootT_many (l := l) (by omega)]
   by_cases hk : i < half l.length
   ·rw [if_pos hk, if_pos hk, popV_append, List.dropLast_concat]
    have hl : (l.take (half l.length)).length = half l.length := by rw [List.length_take]; omega
    have := ih (half l.length) h2 (l.take (half l.length)) hl i (by omega)
    rw [show (l.take (half l.length)).getD i ByteArray.empty = l.getD i ByteArray.empty by simp [List.getD, List.getElem?_take_of_lt hk]] at this
    rw [this]
   ·rw [if_neg hk, if_neg hk, popV_append, List.dropLast_concat]
    have hl : (l.drop (half l.length)).length = l.length - half l.length := by rw [List.length_drop]
    have := ih (l.length - half l.length) (by omega) (l.drop (half l.length)) hl (i - half l.length) (by omega)
    rw [show (l.drop (half l.length)).getD (i - half l.length) ByteArray.empty = l.getD i ByteArray.empty by simp [List.getD, List.getElem?_drop]; rw [show half l.length + (i - half l.length) = i by omega]] at this
    rw [this]
theorem len_one (i : Nat) : lenT 1 i = 0 := by rw [lenT, dif_pos (by decide)]

def checkT (root : ByteArray) (n i : Int) (s : ByteArray) (p : List ByteArray) : Bool :=
 decide (n ≤ 1000000) && decide (0 ≤ i) && decide (i < n) && decide (p.length = lenT n.toNat i.toNat) && p.all isS && decide (upT n.toNat i.toNat (dg [sLeaf, s]) p = root)
theorem check_path (l : List ByteArray) (i : Nat) (hi : i < l.length) (hl : l.length ≤ 1000000) : checkT (rootT l) l.length i (l.getD i ByteArray.empty) (pathT l i) = true := by
 unfold checkT
 have h1 := path_length l i
 have h2 := path_isS l i
 have h3 := up_path l i hi
 simp only [Int.toNat_natCast, h1, h2, h3]
 simp
 omega
end Go.Proofs.YtnkepmfgmfeabaaGreatDoor
set_option linter.unusedVariables false
namespace Go.Proofs.YtnkepmfgmfeabaaGreatDoor
open Go Go.RowKit

/-! two different texts with one digest; links -/
end Go.Proofs.YtnkepmfgmfeabaaGreatDoor
set_option linter.unusedVariables false
namespace Go.Proofs.YtnkepmfgmfeabaaGreatDoor
open Go Go.RowKit

theorem halfGo_step {k n : Nat} (h0 : 0 < k) (h : 2 * k < n) : halfGo (2 * k) n = halfGo k n := by
 conv => rhs; rw [halfGo]
 rw [dif_pos ⟨h0, h⟩]
theorem halfGo_end {k n : Nat} (h : ¬ 2 * k < n) : halfGo k n = k := by
 rw [halfGo, dif_neg (fun x => h x.2)]
theorem half_calls (n : Nat) (h1 : 2 ≤ n) (h2 : n ≤ 1099511627776) (w : World) :
  Calls Tryz.prog 100 #[.int .i64 (n : Int)] w fun e w' => e = .returned (.int .i64 ((half n : Nat) : Int)) ∧ w' = w := by
 go_enter Tryz.func100, Tryz.ntmps100
 go_wp2_with fail
 go_loop [3] (fun vk => ∃ k : Nat, vk = .int .i64 (k : Int) ∧ 0 < k ∧ k < n ∧ Hid (halfGo k n = half n)) (fun vk => n - (RowKit.intOf vk).toNat)
 case atStart => exact ⟨1, rfl, by omega, by omega, Lib.hid rfl⟩
 case round =>
  obtain ⟨k, rfl, hk0, hkn, HK⟩ := hrel
  by_cases hlt : 2 * k < n
  ·have HS : Hid (halfGo (2 * k) n = half n) := by rw [halfGo_step hk0 hlt]; exact HK
   have hlt2 : ((2 * k : Nat) : Int) < n := by omega
   have hl3 : (k : Int) * 2 < n := by omega
   go_wp2
   refine ⟨⟨2 * k, ?_, by omega, hlt, HS⟩, ?_⟩
   ·congr 1; omega
   ·simp only [RowKit.intOf]; omega
  ·have HE : Hid (k = half n) := by rw [← HK.out, halfGo_end hlt]; exact Lib.hid rfl
   have hl3 : ¬ (k : Int) * 2 < n := by omega
   go_wp2
   go_ret
   exact ⟨by rw [← HE.out]; rfl, rfl⟩
end Go.Proofs.YtnkepmfgmfeabaaGreatDoor
set_option linter.unusedVariables false
namespace Go.Proofs.YtnkepmfgmfeabaaGreatDoor
open Go Go.RowKit

theorem strs_lit (w : World) (ls : List ByteArray) (hl : ls.length ≤ maxLen) : IsStrs (w.alloc (.cells (ls.map Value.string).toArray 9)) (.slice (some ⟨w.heap.size, 0, none⟩) ls.length ls.length) ls := by
 refine ⟨some ⟨w.heap.size, 0, none⟩, ls.length, rfl, hl, fun i hi => ⟨w.heap.size, 0, rfl, by rw [World.size_alloc]; omega, ?_⟩⟩
 rw [World.cell?_alloc_new]
 simp [List.getD, hi]
theorem join_le (M : Nat) : ∀ ls : List ByteArray, (∀ s ∈ ls, s.size ≤ M) → M ≤ 1099511627776 → (joinB ls).length ≤ (M + 21) * ls.length
 | [], _, _ => Nat.le_refl _
 | s :: r, h, hM => by
  have hr := join_le M r (fun x hx => h x (List.mem_cons_of_mem _ hx)) hM
  have hs := h s (List.mem_cons_self ..)
  have hd := dec_len s.size 20 (by decide) (by omega)
  have e : (joinB (s :: r)).length = (Lib.decDigits s.size).length + (1 + (s.size + (joinB r).length)) := by
   rw [Lib.size_eq]
   simp [joinB, listsOf, joinL]
   omega
  rw [e, List.length_cons, Nat.mul_add]
  omega
theorem lit1_calls (a : ByteArray) (w : World) (ha : a.size ≤ 1099511627776) (hT : Tabs w) :
  Calls Tryz.prog 32 #[.slice (some ⟨w.heap.size, 0, none⟩) 1 1] (w.alloc (.cells #[.string a] 9)) fun e w' => e = .returned (.string (dg [a])) ∧ Below w.heap.size w w' := by
 have hb := (Below.refl w.heap.size w).alloc (Nat.le_refl _) (.cells #[.string a] 9)
 refine (list_calls _ [a] _ (strs_lit w [a] (show 1 ≤ maxLen by decide)) ?_ (hT.on hb)).mono ?_
 ·have := join_le 1099511627776 [a] (by simpa using ha) (Nat.le_refl _); simp at this; omega
 ·rintro e w' ⟨rfl, h⟩
  exact ⟨rfl, hb.trans (h.mono hb.size)⟩
theorem lit2_calls (a b : ByteArray) (w : World) (ha : a.size ≤ 1099511627776) (hb2 : b.size ≤ 1099511627776) (hT : Tabs w) :
  Calls Tryz.prog 32 #[.slice (some ⟨w.heap.size, 0, none⟩) 2 2] (w.alloc (.cells #[.string a, .string b] 9)) fun e w' => e = .returned (.string (dg [a, b])) ∧ Below w.heap.size w w' := by
 have hb := (Below.refl w.heap.size w).alloc (Nat.le_refl _) (.cells #[.string a, .string b] 9)
 refine (list_calls _ [a, b] _ (strs_lit w [a, b] (show 2 ≤ maxLen by decide)) ?_ (hT.on hb)).mono ?_
 ·have := join_le 1099511627776 [a, b] (by simp; exact ⟨ha, hb2⟩) (Nat.le_refl _); simp at this; omega
 ·rintro e w' ⟨rfl, h⟩
  exact ⟨rfl, hb.trans (h.mono hb.size)⟩
theorem lit3_calls (a b c : ByteArray) (w : World) (ha : a.size ≤ 1099511627776) (hb2 : b.size ≤ 1099511627776) (hc : c.size ≤ 1099511627776) (hT : Tabs w) :
  Calls Tryz.prog 32 #[.slice (some ⟨w.heap.size, 0, none⟩) 3 3] (w.alloc (.cells #[.string a, .string b, .string c] 9)) fun e w' => e = .returned (.string (dg [a, b, c])) ∧ Below w.heap.size w w' := by
 have hb := (Below.refl w.heap.size w).alloc (Nat.le_refl _) (.cells #[.string a, .string b, .string c] 9)
 refine (list_calls _ [a, b, c] _ (strs_lit w [a, b, c] (show 3 ≤ maxLen by decide)) ?_ (hT.on hb)).mono ?_
 ·have := join_le 1099511627776 [a, b, c] (by simp; exact ⟨ha, hb2, hc⟩) (Nat.le_refl _); simp at this; omega
 ·rintro e w' ⟨rfl, h⟩
  exact ⟨rfl, hb.trans (h.mono hb.size)⟩
theorem dg_size (l : List ByteArray) : (dg l).size = 16 := sumS_size _
theorem root_size (l : List ByteArray) : (rootT l).size = 16 := by
 rw [rootT]
 split
 ·split <;> exact dg_size _
 ·exact dg_size _
theorem node_calls (a b : ByteArray) (w : World) (ha : a.size ≤ 1099511627776) (hb2 : b.size ≤ 1099511627776) (hT : Tabs w) :
  Calls Tryz.prog 101 #[.string a, .string b] w fun e w' => e = .returned (.string (dg [sNode, a, b])) ∧ Below w.heap.size w w' := by
 have HT := Lib.hid hT
 clear hT
 go_enter Tryz.func101, Tryz.ntmps101
 go_wp2_with fail
 refine (lit3_calls sNode a b w (by decide) ha hb2 HT.out).mono ?_
 rintro e w1 ⟨rfl, h1⟩
 go_wp2
 go_ret
 exact ⟨rfl, h1⟩
/-- A slice of strings, its capacity told. -/
def IsStrC (w : World) (v : Value) (l : List ByteArray) : Prop :=
 ∃ (ao : Option Addr) (cap : Nat), v = .slice ao l.length cap ∧ l.length ≤ cap ∧ cap ≤ maxLen ∧ ∀ i, i < l.length → ∃ b o, ao = some ⟨b, o, none⟩ ∧ b < w.heap.size ∧
  w.cell? ⟨b, o + i, none⟩ = some (.string (l.getD i ByteArray.empty))
theorem IsStrC.strs {w : World} {v : Value} {l : List ByteArray} (h : IsStrC w v l) : IsStrs w v l := by
 obtain ⟨ao, cap, h1, h2, h3, h4⟩ := h
 exact ⟨ao, cap, h1, by omega, h4⟩
theorem IsStrC.on {w w' : World} {v : Value} {l : List ByteArray} (h : IsStrC w v l) (hb : Below w.heap.size w w') : IsStrC w' v l := by
 obtain ⟨ao, cap, h1, h2, h3, h4⟩ := h
 refine ⟨ao, cap, h1, h2, h3, fun i hi => ?_⟩
 obtain ⟨b, o, e, hlt, hc⟩ := h4 i hi
 exact ⟨b, o, e, Nat.lt_of_lt_of_le hlt hb.size, by rw [hb.cell (p := ⟨b, o + i, none⟩) hlt]; exact hc⟩
theorem strc_lit (w : World) (ls : List ByteArray) (hl : ls.length ≤ maxLen) : IsStrC (w.alloc (.cells (ls.map Value.string).toArray 9)) (.slice (some ⟨w.heap.size, 0, none⟩) ls.length ls.length) ls := by
 obtain ⟨ao, cap, h1, h2, h3⟩ := strs_lit w ls hl
 simp only [Value.slice.injEq] at h1
 obtain ⟨rfl, _, rfl⟩ := h1
 exact ⟨_, _, rfl, Nat.le_refl _, hl, h3⟩
theorem strc_nil (w : World) : IsStrC w (.slice none 0 0) [] := ⟨none, 0, rfl, Nat.le_refl _, Nat.zero_le _, fun i hi => by simp at hi⟩
/-- parts of a slice of strings -/
theorem IsStrC.take {w : World} {ao : Option Addr} {n cap : Nat} {l : List ByteArray} (h : IsStrC w (.slice ao n cap) l) (k : Nat) (hk : k ≤ n) : IsStrC w (.slice ao k cap) (l.take k) := by
 obtain ⟨ao', cap', h1, h2, h2', h3⟩ := h
 simp only [Value.slice.injEq] at h1
 obtain ⟨rfl, rfl, rfl⟩ := h1
 have hl : (l.take k).length = k := by rw [List.length_take]; omega
 refine ⟨ao, cap, by rw [hl], by omega, h2', fun i hi => ?_⟩
 rw [hl] at hi
 obtain ⟨b, o, e, hlt, hc⟩ := h3 i (by omega)
 exact ⟨b, o, e, hlt, by rw [hc]; simp [List.getD, List.getElem?_take_of_lt hi]⟩
theorem IsStrC.drop {w : World} {b o n cap : Nat} {l : List ByteArray} (h : IsStrC w (.slice (some ⟨b, o, none⟩) n cap) l) (k : Nat) (hk : k ≤ n) : IsStrC w (.slice (some ⟨b, o + k, none⟩) (n - k) (cap - k)) (l.drop k) := by
 obtain ⟨ao', cap', h1, h2, h2', h3⟩ := h
 simp only [Value.slice.injEq] at h1
 obtain ⟨rfl, rfl, rfl⟩ := h1
 refine ⟨some ⟨b, o + k, none⟩, cap - k, by rw [List.length_drop], by rw [List.length_drop]; omega, by omega, fun i hi => ?_⟩
 rw [List.length_drop] at hi
 obtain ⟨b', o', e, hlt, hc⟩ := h3 (k + i) (by omega)
 simp only [Option.some.injEq, Addr.mk.injEq] at e
 obtain ⟨rfl, rfl, _⟩ := e
 exact ⟨b, o + k, rfl, hlt, by rw [Nat.add_assoc, hc]; simp [List.getD, List.getElem?_drop]⟩
end Go.Proofs.YtnkepmfgmfeabaaGreatDoor
set_option linter.unusedVariables false
namespace Go.Proofs.YtnkepmfgmfeabaaGreatDoor
open Go Go.RowKit

/-! statements, az plain data -/
def letterN (c : Nat) : Bool := (decide (97 ≤ c) && decide (c ≤ 122)) || (decide (65 ≤ c) && decide (c ≤ 90))
def identC (i c : Nat) : Bool := letterN c || (decide (i ≠ 0) && (decide (c = 95) || (decide (48 ≤ c) && decide (c ≤ 57))))
def identAll (s : ByteArray) : Bool := (List.range s.size).all fun i => identC i (byteAt s.data.toList i)
def identB (s : ByteArray) : Bool := decide (1 ≤ s.size) && decide (s.size ≤ 24) && identAll s
def quantB (n : Int) : Bool := decide (1 ≤ n) && decide (n ≤ 1000000000)
theorem identAll_iff (s : ByteArray) : identAll s = true ↔ ∀ i, i < s.size → identC i (byteAt s.data.toList i) = true := by
 unfold identAll
 simp
theorem identAll_no {s : ByteArray} {i : Nat} (h : i < s.size) (hc : identC i (byteAt s.data.toList i) = false) : identAll s = false := by
 cases hq : identAll s with
 | false => rfl
 | true => rw [(identAll_iff s).1 hq i h] at hc; cases hc
theorem identB_no {s : ByteArray} (h : identAll s = false) : identB s = false := by unfold identB; rw [h, Bool.and_false]
structure Stm where
 id : ByteArray
 prod : ByteArray
 q : Int
 holder : ByteArray
 uses : List ByteArray
 inputs : List (ByteArray × Int)
 idx : Int
 sig : List ByteArray
 path : List ByteArray
def leB (a b : ByteArray) : Bool := Op.bytesLess a.toList b.toList || a.toList == b.toList
/-- the i-th use: a name, above the one before it -/
def useOk (l : List ByteArray) (i : Nat) : Bool := identB (l.getD i ByteArray.empty) && (decide (i = 0) || !leB (l.getD i ByteArray.empty) (l.getD (i - 1) ByteArray.empty))
def usesOk (l : List ByteArray) : Bool := (List.range l.length).all (useOk l)
def nilInp : ByteArray × Int := (ByteArray.empty, 0)
def inpOk (l : List (ByteArray × Int)) (i : Nat) : Bool := identB (l.getD i nilInp).1 && quantB (l.getD i nilInp).2 && !((l.take i).any fun x => decide (x.1 = (l.getD i nilInp).1))
def inpsOk (l : List (ByteArray × Int)) : Bool := (List.range l.length).all (inpOk l)
def properB (s : Stm) : Bool :=
 usesOk s.uses && inpsOk s.inputs && (identB s.id && identB s.prod && quantB s.q && isS s.holder && decide (1 ≤ s.uses.length) && decide (s.uses.length ≤ 12) && decide (s.inputs.length ≤ 12))
end Go.Proofs.YtnkepmfgmfeabaaGreatDoor
set_option linter.unusedVariables false
namespace Go.Proofs.YtnkepmfgmfeabaaGreatDoor
open Go Go.RowKit

theorem run_slice_to {b o n cap k : Nat} (h1 : k ≤ cap) (W : World) : (Instr.slice 22 (.slice (some ⟨b, o, none⟩) n cap) none (some (.int .i64 (k : Int))) none).run Tryz.prog W = .ok (.slice (some ⟨b, o, none⟩) k cap) W := by
 go_simp
theorem run_slice_from {b o n cap k : Nat} (h1 : k ≤ n) (h2 : n ≤ cap) (h3 : k < cap) (W : World) : (Instr.slice 22 (.slice (some ⟨b, o, none⟩) n cap) (some (.int .i64 (k : Int))) none none).run Tryz.prog W = .ok (.slice (some ⟨b, o + k, none⟩) (n - k) (cap - k)) W := by
 go_simp
 intro h
 exfalso
 omega
set_option maxRecDepth 100000 in
set_option maxHeartbeats 1000000 in
theorem root_calls (m : Nat) : ∀ (l : List ByteArray) (v : Value) (w : World), l.length = m → IsStrC w v l → (∀ s ∈ l, s.size ≤ 1099511627776) → l.length ≤ 1099511627776 → Tabs w →
  Calls Tryz.prog 65 #[v] w fun e w' => e = .returned (.string (rootT l)) ∧ Below w.heap.size w w' := by
 induction m using Nat.strongRecOn with
 | _ m ih =>
 intro l v w hm hv hs hl hT
 have HV := Lib.hid hv
 obtain ⟨ao, cap, rfl, hlc, hmax, hcells⟩ := hv
 have HT := Lib.hid hT
 have HS := Lib.hid hs
 have HC := Lib.hid hcells
 clear hT hs hcells hmax
 match l, hm, hl, hlc, HV, HS, HC with
 | [], hm, hl, hlc, HV, HS, HC =>
  clear HV HS HC ih
  go_enter Tryz.func65, Tryz.ntmps65
  go_wp2_with fail
  refine (lit1_calls sEmpty w (by decide) HT.out).mono ?_
  rintro e w1 ⟨rfl, h1⟩
  go_wp2
  go_ret
  exact ⟨by rw [rootT_nil]; rfl, h1⟩
 | [s], hm, hl, hlc, HV, HS, HC =>
  obtain ⟨b, o, rfl, hlt, hc⟩ := HC.out 0 (show 0 < 1 by decide)
  have hss := HS.out s (by simp)
  have hc : w.cell? ⟨b, o, none⟩ = some (.string s) := hc
  clear HV HS HC ih
  go_enter Tryz.func65, Tryz.ntmps65
  go_wp2_with fail
  refine (lit2_calls sLeaf s w (by decide) hss HT.out).mono ?_
  rintro e w1 ⟨rfl, h1⟩
  go_wp2
  go_ret
  exact ⟨by rw [rootT_one]; rfl, h1⟩
 | x :: y :: r, hm, hl, hlc, HV, HS, HC =>
  obtain ⟨b, o, rfl, hlt, hc0⟩ := HC.out 0 (by simp)
  clear hc0
  obtain ⟨z, hz⟩ : ∃ z, z = x :: y :: r := ⟨_, rfl⟩
  rw [← hz] at hm hl hlc HV HS HC ⊢
  have h2 : 2 ≤ z.length := by rw [hz]; simp
  clear hz x y r
  have HR := Lib.hid (rootT_many h2)
  have hk1 := half_lt h2
  have hk0 := half_pos h2
  have hsl1 := run_slice_to (b := b) (o := o) (n := z.length) (cap := cap) (k := half z.length) (by omega)
  have hsl2 := run_slice_from (b := b) (o := o) (n := z.length) (cap := cap) (k := half z.length) (by omega) (by omega) (by omega)
  have HV1 := Lib.hid (HV.out.take (half z.length) (by omega))
  have HV2 := Lib.hid (HV.out.drop (half z.length) (by omega))
  have hl1 : (z.take (half z.length)).length = half z.length := by rw [List.length_take]; omega
  have hl2 : (z.drop (half z.length)).length = z.length - half z.length := by rw [List.length_drop]
  have HI1 := Lib.hid (fun w' hb => ih (half z.length) (by omega) (z.take (half z.length)) _ w' hl1 (HV1.out.on hb) (fun s hs => HS.out s (List.mem_of_mem_take hs)) (by omega))
  have HI2 := Lib.hid (fun w' hb => ih (z.length - half z.length) (by omega) (z.drop (half z.length)) _ w' hl2 (HV2.out.on hb) (fun s hs => HS.out s (List.mem_of_mem_drop hs)) (by omega))
  have hh := fun W => half_calls z.length h2 hl W
  clear ih HV HS HC HV1 HV2 hl1 hl2
  have hr1 := root_size (z.take (half z.length))
  have hr2 := root_size (z.drop (half z.length))
  have hn0 : z.length ≠ 0 := by omega
  have hn1 : z.length ≠ 1 := by omega
  obtain ⟨n, hn⟩ : ∃ n, n = z.length := ⟨_, rfl⟩
  obtain ⟨k, hk⟩ : ∃ k, k = half z.length := ⟨_, rfl⟩
  rw [← hk] at hk1 hk0 hsl1 hsl2 HI1 HI2 HR hh hr1 hr2
  rw [← hn] at hsl1 hsl2 HI2 hh hn0 hn1 hk1 ⊢
  generalize rootT (z.take k) = r1 at *
  generalize rootT (z.drop k) = r2 at *
  clear hk hn hm hl hlc h2
  go_enter Tryz.func65, Tryz.ntmps65
  go_wp2_with fail
  refine (hh _).mono ?_
  rintro e w1 ⟨rfl, rfl⟩
  clear hh
  go_wp2_with fail
  refine wp_region_any (by kernel_rfl) ?_
  change wpAny _ _ _ _ _ _ _ (World.drew _)
  refine wpAny_take (i := 0) (v := .slice (some ⟨b, o, none⟩) n cap) rfl (by kernel_rfl) (by kernel_rfl) (by kernel_rfl) (fun _ _ _ h => h) (Or.inl ⟨by kernel_rfl, fun W => by go_simp⟩) ?_
  refine wpAny_take (i := 1) (v := .int .i64 (k : Int)) rfl (by kernel_rfl) (by kernel_rfl) (by kernel_rfl) (fun _ _ _ h => h) (Or.inl ⟨by kernel_rfl, fun W => by go_simp⟩) ?_
  refine wpAny_take (i := 2) (v := .slice (some ⟨b, o, none⟩) k cap) rfl (by kernel_rfl) (by kernel_rfl) (by kernel_rfl) (fun _ _ _ h => h) (Or.inl ⟨by kernel_rfl, fun W => by go_simp⟩) ?_
  refine wpAny_take (i := 4) (v := .slice (some ⟨b, o, none⟩) n cap) rfl (by kernel_rfl) (by kernel_rfl) (by kernel_rfl) (fun _ _ _ h => h) (Or.inl ⟨by kernel_rfl, fun W => by go_simp⟩) ?_
  refine wpAny_take (i := 5) (v := .int .i64 (k : Int)) rfl (by kernel_rfl) (by kernel_rfl) (by kernel_rfl) (fun _ _ _ h => h) (Or.inl ⟨by kernel_rfl, fun W => by go_simp⟩) ?_
  refine wpAny_take (i := 6) (v := .slice (some ⟨b, o + k, none⟩) (n - k) (cap - k)) rfl (by kernel_rfl) (by kernel_rfl) (by kernel_rfl) (fun _ _ _ h => h) (Or.inl ⟨by kernel_rfl, fun W => by go_simp⟩) ?_
  refine wpAny_ready (rs := [3]) (by kernel_rfl) (by simp) ?_
  refine AllReady.cons rfl (fun K hK => ?_) AllReady.nil
  go_simp
  have hb0 := (Below.refl w1.heap.size w1).drew
  refine (HI1.out _ hb0 (HT.out.on hb0)).mono ?_
  rintro e w2 ⟨rfl, h2⟩
  have H2 := Lib.hid (hb0.trans (h2.mono hb0.size))
  clear h2 hb0
  refine hK _ _ ?_
  clear hK K
  refine wpAny_ready (rs := [7]) (by kernel_rfl) (by simp) ?_
  refine AllReady.cons rfl (fun K hK => ?_) AllReady.nil
  go_simp
  refine (HI2.out _ H2.out (HT.out.on H2.out)).mono ?_
  rintro e w3 ⟨rfl, h3⟩
  have H3 := Lib.hid (H2.out.trans (h3.mono H2.out.size))
  clear h3
  refine hK _ _ ?_
  clear hK K
  refine wpAny_ready (rs := [8]) (by kernel_rfl) (by simp) ?_
  refine AllReady.cons rfl (fun K hK => ?_) AllReady.nil
  go_simp
  refine (node_calls r1 r2 w3 (by omega) (by omega) (HT.out.on H3.out)).mono ?_
  rintro e w4 ⟨rfl, h4⟩
  have H4 := Lib.hid (H3.out.trans (h4.mono H3.out.size))
  clear h4
  refine hK _ _ ?_
  clear hK K
  rw [← HR.out]
  refine wpAny_take (i := 9) (v := .string (rootT z)) rfl (by kernel_rfl) (by kernel_rfl) (by kernel_rfl) (fun _ _ _ h => h) (Or.inl ⟨by kernel_rfl, fun W => by go_simp⟩) ?_
  refine wpAny_done (by kernel_rfl) ?_ _
  go_wp2
  go_ret
  exact ⟨rfl, H4.out⟩
end Go.Proofs.YtnkepmfgmfeabaaGreatDoor
set_option linter.unusedVariables false
namespace Go.Proofs.YtnkepmfgmfeabaaGreatDoor
open Go Go.RowKit

def Own (B : Nat) (w : World) (v : Value) (l : List ByteArray) : Prop := w.ownsRow B 9 1 v l.length (l.map Value.string)
theorem Own.nil (B : Nat) (w : World) : Own B w (.slice none 0 0) [] := World.ownsRow_nil w B _ 1
theorem Own.on {B : Nat} {w w' : World} {v : Value} {l : List ByteArray} (h : Own B w v l) (hb : Below w.heap.size w w') : Own B w' v l := by
 refine World.ownsRow.kept h (grownBy_of_below hb) ?_
 by_cases hn : v.ownBlock = none
 ·exact .inl hn
 ·exact .inr hn
theorem Own.strc {B : Nat} {w : World} {v : Value} {l : List ByteArray} (h : Own B w v l) : IsStrC w v l := by
 have hlt := World.ownsRow.lt h
 have hcell := @World.ownsRow.cells _ _ _ _ _ _ _ h
 obtain ⟨h1, ⟨rfl, h2⟩ | ⟨g, cap, cur, rfl, h2, h3, h4, h5, h6, h7⟩⟩ := h
 ·have : l = [] := List.eq_nil_of_length_eq_zero h2
  subst this
  exact strc_nil w
 ·refine ⟨some ⟨g, 0, none⟩, cap, rfl, h4, h5, fun i hi => ⟨g, 0, rfl, (hlt g rfl).2, ?_⟩⟩
  have := hcell rfl i (.string (l.getD i ByteArray.empty)) (by simp [List.getD, hi])
  rwa [Lib.add_plain] at this
theorem below_cells {B : Nat} {a : World} (b : Nat) (hb : B ≤ b) : ∀ (vs : List Value) (o : Nat) {w : World}, Below B a w → Below B a (w.setCells b o vs)
 | [], _, _, h => h
 | v :: r, o, _, h => below_cells b hb r (o + 1) (h.setCell (p := ⟨b, o, none⟩) hb v)
theorem size_cells (b : Nat) : ∀ (vs : List Value) (o : Nat) (w : World), (w.setCells b o vs).heap.size = w.heap.size
 | [], _, _ => rfl
 | v :: r, o, w => by rw [World.setCells, size_cells b r, World.size_setCell]
theorem below_drewN {B : Nat} {a w : World} (h : Below B a w) (q : Nat) : Below B a (w.drewN q) := ⟨h.os, h.tape, h.output, h.size, h.block⟩
theorem rev_new (B : Nat) (v : Value) (acc : List ByteArray) (w0 w : World) (ho : Own B w v acc) (hb : Below B w0 w) (hn : acc.length ≤ 1099511627776) :
  Calls Tryz.prog 111 #[v] w fun e w' => e = .returned (.tuple #[]) ∧ IsStrC w' v acc.reverse ∧ Below B w0 w' ∧ w.heap.size ≤ w'.heap.size := by
 have hsc := ho.strc
 match acc, ho, hn, hsc with
 | [], ho, hn, hsc =>
  obtain ⟨ao, cap, rfl, h2, h3, h4⟩ := hsc
  refine (Tryz.slices_Reverse_string_empty ao cap w).mono ?_
  rintro e w' ⟨rfl, rfl⟩
  exact ⟨rfl, ⟨ao, cap, rfl, h2, h3, h4⟩, hb, Nat.le_refl _⟩
 | x :: r, ho, hn, hsc =>
  obtain ⟨z, hz⟩ : ∃ z, z = x :: r := ⟨_, rfl⟩
  rw [← hz] at ho hn hsc ⊢
  obtain ⟨ao, cap, rfl, h2, h3, h4⟩ := hsc
  obtain ⟨g, o, rfl, hlt, _⟩ := h4 0 (by rw [hz]; simp)
  have ho' := ho
  obtain ⟨h1, ⟨he, _⟩ | ⟨g', cap', cur, he, hB, hblk, _⟩⟩ := ho'
  ·cases he
  ·simp only [Value.slice.injEq, Option.some.injEq, Addr.mk.injEq] at he
   obtain ⟨⟨rfl, rfl, _⟩, _, rfl⟩ := he
   refine (Tryz.slices_Reverse_string_cells g 0 z.length cap (fun i => z.getD i ByteArray.empty) w (by omega) (fun i hi => ?_) (fun j hj => ?_)).mono ?_
   ·obtain ⟨b', o', e, _, hc⟩ := h4 i hi
    simp only [Option.some.injEq, Addr.mk.injEq] at e
    obtain ⟨rfl, rfl, _⟩ := e
    exact hc
   ·rw [Nat.zero_add]; exact World.ownsRow.frozenAt ho j
   ·rintro e w' ⟨rfl, q, rfl⟩
    have hl : (Lib.strsOf (fun i => z.getD i ByteArray.empty) z.length) = z.map (fun s => s.data.toList) := by
     apply List.ext_getElem
     ·simp [Lib.strsOf]
     ·intro i h1 h2
      simp [Lib.strsOf] at h1 ⊢
      simp [h1]
    rw [hl]
    refine ⟨rfl, ⟨_, cap, by rw [List.length_reverse], by rw [List.length_reverse]; exact h2, h3, fun i hi => ⟨g, 0, rfl, ?_, ?_⟩⟩, ?_, ?_⟩
    ·rw [size_cells]; exact hlt
    ·rw [List.length_reverse] at hi
     have := World.cell?_setCells_in g ((z.map (fun s => s.data.toList)).reverse.map encStr) 0 (w.drewN q) (fun j hj => ?_) i (by simpa using hi)
     ·rw [this]
      simp [List.getD, hi]
     ·obtain ⟨b', o', e, _, hc⟩ := h4 j (by simpa using hj)
      simp only [Option.some.injEq, Addr.mk.injEq] at e
      obtain ⟨rfl, rfl, _⟩ := e
      show (w.cell? ⟨g, 0 + j, none⟩).isSome = true
      rw [hc]; rfl
    ·exact below_cells g hB _ 0 (below_drewN hb q)
    ·rw [size_cells]; exact Nat.le_refl _
def sliceLen : Value → Nat
 | .slice _ n _ => n
 | _ => 0
set_option maxRecDepth 100000 in
set_option maxHeartbeats 1000000 in
theorem path_new (l0 : List ByteArray) (v : Value) (i0 : Nat) (w : World) (hv : IsStrC w v l0) (hs : ∀ s ∈ l0, s.size ≤ 1099511627776) (hl0 : l0.length ≤ 1099511627776) (hi0 : i0 < l0.length) (hT : Tabs w) :
  Calls Tryz.prog 82 #[v, .int .i64 (i0 : Int)] w fun e w' => ∃ v', e = .returned (.tuple #[v', .int .i64 0]) ∧ IsStrC w' v' (pathT l0 i0) ∧ (∀ b, v'.ownBlock = some b → w.heap.size ≤ b ∧ b < w'.heap.size) ∧ Below w.heap.size w w' := by
 have HV0 := Lib.hid hv
 have HT := Lib.hid hT
 have HS := Lib.hid hs
 clear hT hs
 obtain ⟨it, hti, hz0, hz1, hz2⟩ : ∃ i, Tryz.prog.info? 9 = some i ∧ i.zero = some (.string ByteArray.empty) ∧ i.size = 1 ∧ i.bytes = 16 := info_parts (by kernel_rfl)
 have Hi := Lib.hid hti
 have Hz0 := Lib.hid hz0
 have Hz1 := Lib.hid hz1
 have Hz2 := Lib.hid hz2
 clear hti hz0 hz1 hz2
 obtain ⟨ao0, cap0, rfl, hlc, hmax, hcells⟩ := hv
 clear hcells hlc hmax
 have hd1 : decide ((i0 : Int) < 0) = false := decide_eq_false (by omega)
 have hd2 : decide (l0.length ≤ i0) = false := decide_eq_false (by omega)
 go_enter Tryz.func82, Tryz.ntmps82
 go_wp2_with fail
 clear hd1 hd2
 go_loopw [0, 1, 6] (fun v0 v1 v6 W => ∃ (ao : Option Addr) (cap : Nat) (l : List ByteArray) (i : Nat) (acc : List ByteArray), v0 = .slice ao l.length cap ∧ v1 = .int .i64 (i : Int) ∧ i < l.length ∧ acc.length + l.length ≤ l0.length ∧ Hid (Own w.heap.size W v6 acc ∧ IsStrC w (.slice ao l.length cap) l ∧ pathT l0 i0 = pathT l i ++ acc.reverse ∧ ∀ s ∈ l, s.size ≤ 1099511627776) ∧ Hid (Below w.heap.size w W)) (fun v0 _ _ _ => sliceLen v0)
 case atStart => exact ⟨ao0, cap0, l0, i0, [], rfl, rfl, hi0, by simp, Lib.hid ⟨Own.nil _ _, HV0.out, by simp, HS.out⟩, Lib.hid (Below.refl _ _)⟩
 case round =>
  obtain ⟨ao, cap, l, i, acc, rfl, rfl, hi, hacc, HX, HB⟩ := hrel
  clear HV0 HS hi0
  by_cases h2 : 2 ≤ l.length
  ·have hcell := HX.out.2.1
   obtain ⟨ao', cap', he, hlc, hmax, hcells⟩ := hcell
   simp only [Value.slice.injEq] at he
   obtain ⟨rfl, _, rfl⟩ := he
   obtain ⟨b, o, rfl, hlt, hc0⟩ := hcells 0 (by omega)
   clear hcells hc0
   have hk1 := half_lt h2
   have hk0 := half_pos h2
   have hl1 : (l.take (half l.length)).length = half l.length := by rw [List.length_take]; omega
   have hl2 : (l.drop (half l.length)).length = l.length - half l.length := by rw [List.length_drop]
   have HV1 := Lib.hid (HX.out.2.1.take (half l.length) (by omega))
   have HV2 := Lib.hid (HX.out.2.1.drop (half l.length) (by omega))
   have hsl1 := run_slice_to (b := b) (o := o) (n := l.length) (cap := cap) (k := half l.length) (by omega)
   have hsl2 := run_slice_from (b := b) (o := o) (n := l.length) (cap := cap) (k := half l.length) (by omega) (by omega) (by omega)
   have HI1 := Lib.hid (root_calls _ (l.take (half l.length)) _ wr rfl (HV1.out.on HB.out) (fun s hs => HX.out.2.2.2 s (List.mem_of_mem_take hs)) (by omega) (HT.out.on HB.out))
   have HI2 := Lib.hid (root_calls _ (l.drop (half l.length)) _ wr rfl (HV2.out.on HB.out) (fun s hs => HX.out.2.2.2 s (List.mem_of_mem_drop hs)) (by omega) (HT.out.on HB.out))
   have HH := Lib.hid (fun W => half_calls l.length h2 (by omega) W)
   have HP : Hid (pathT l i = if i < half l.length then pathT (l.take (half l.length)) i ++ [rootT (l.drop (half l.length))] else pathT (l.drop (half l.length)) (i - half l.length) ++ [rootT (l.take (half l.length))]) := by
    rw [pathT, dif_neg (by omega)]; exact Lib.hid rfl
   generalize rootT (l.take (half l.length)) = r1 at *
   generalize rootT (l.drop (half l.length)) = r2 at *
   have hn1 : 1 < l.length := by omega
   clear hlc hmax h2
   by_cases hik : i < half l.length
   ·have hik' : (i : Int) < (half l.length : Nat) := by omega
    have HP : Hid (pathT l0 i0 = pathT (l.take (half l.length)) i ++ [r2] ++ acc.reverse) := by rw [HX.out.2.2.1, HP.out, if_pos hik]; exact Lib.hid rfl
    go_wp2_with fail
    refine (HH.out _).mono ?_
    rintro e w1 ⟨rfl, rfl⟩
    go_wp2_with fail
    refine (HI2.out).mono ?_
    rintro e w2 ⟨rfl, h2⟩
    have H2 := Lib.hid (HB.out.trans (h2.mono HB.out.size))
    have HO2 : Hid (Own w.heap.size w2 u6 acc) := Lib.hid (HX.out.1.on h2)
    clear h2
    go_wp2_with (at_builtin; refine wpList_append_own _ rfl (.tmp 25) (.tmp 30) 22 rfl w.heap.size 9 it (.string ByteArray.empty) 1 16 Tryz.underlying22 Hi.out Hz0.out Hz1.out Hz2.out rfl (by decide) _ _ _ rfl (HO2.out.alloc _) ⟨w2.heap.size, 0, none⟩ 1 1 [.string r2] rfl rfl (cell_byte_new _ _ _) (by simp [Value.oneCell']) (by unfold maxLen; omega) (by omega) (by have := H2.out.size; rw [World.size_alloc]; omega) ?_)
    intro v' w3 hown hgr hnil
    have HO3 : Hid (Own w.heap.size w3 v' (acc ++ [r2])) := by
     unfold Own
     rw [List.length_append, List.map_append]
     exact Lib.hid hown
    have H3 : Hid (Below w.heap.size w w3) := Lib.hid ((H2.out.alloc H2.out.size _).grown hgr (by have := H2.out.size; rw [World.size_alloc]; omega) (fun k hk => (World.ownsRow.lt HO2.out k hk).1))
    have HV3 : Hid (IsStrC w (.slice (some ⟨b, o, none⟩) (l.take (half l.length)).length cap) (l.take (half l.length))) := by rw [hl1]; exact HV1
    clear hown hgr hnil HO2 H2
    go_wp2
    go_round
    case rel => exact ⟨(some ⟨b, o, none⟩), cap, l.take (half l.length), i, acc ++ [r2], by rw [hl1], rfl, by omega, by rw [List.length_append]; simp; omega, Lib.hid ⟨HO3.out, HV3.out, by rw [HP.out, List.reverse_append]; simp, fun s hs => HX.out.2.2.2 s (List.mem_of_mem_take hs)⟩, H3⟩
    case measure => simp only [sliceLen]; omega
   ·have hik' : ¬ (i : Int) < (half l.length : Nat) := by omega
    have HP : Hid (pathT l0 i0 = pathT (l.drop (half l.length)) (i - half l.length) ++ [r1] ++ acc.reverse) := by rw [HX.out.2.2.1, HP.out, if_neg hik]; exact Lib.hid rfl
    go_wp2_with fail
    refine (HH.out _).mono ?_
    rintro e w1 ⟨rfl, rfl⟩
    go_wp2_with fail
    refine (HI1.out).mono ?_
    rintro e w2 ⟨rfl, h2⟩
    have H2 := Lib.hid (HB.out.trans (h2.mono HB.out.size))
    have HO2 : Hid (Own w.heap.size w2 u6 acc) := Lib.hid (HX.out.1.on h2)
    clear h2
    go_wp2_with (at_builtin; refine wpList_append_own _ rfl (.tmp 35) (.tmp 40) 22 rfl w.heap.size 9 it (.string ByteArray.empty) 1 16 Tryz.underlying22 Hi.out Hz0.out Hz1.out Hz2.out rfl (by decide) _ _ _ rfl (HO2.out.alloc _) ⟨w2.heap.size, 0, none⟩ 1 1 [.string r1] rfl rfl (cell_byte_new _ _ _) (by simp [Value.oneCell']) (by unfold maxLen; omega) (by omega) (by have := H2.out.size; rw [World.size_alloc]; omega) ?_)
    intro v' w3 hown hgr hnil
    have HO3 : Hid (Own w.heap.size w3 v' (acc ++ [r1])) := by
     unfold Own
     rw [List.length_append, List.map_append]
     exact Lib.hid hown
    have H3 : Hid (Below w.heap.size w w3) := Lib.hid ((H2.out.alloc H2.out.size _).grown hgr (by have := H2.out.size; rw [World.size_alloc]; omega) (fun k hk => (World.ownsRow.lt HO2.out k hk).1))
    have HV3 : Hid (IsStrC w (.slice (some ⟨b, o + half l.length, none⟩) (l.drop (half l.length)).length (cap - half l.length)) (l.drop (half l.length))) := by rw [hl2]; exact HV2
    clear hown hgr hnil HO2 H2
    go_wp2
    go_round
    case rel => exact ⟨(some ⟨b, o + half l.length, none⟩), (cap - half l.length), l.drop (half l.length), i - half l.length, acc ++ [r1], by rw [hl2], by congr 1; omega, by omega, by rw [List.length_append]; simp; omega, Lib.hid ⟨HO3.out, HV3.out, by rw [HP.out, List.reverse_append]; simp, fun s hs => HX.out.2.2.2 s (List.mem_of_mem_drop hs)⟩, H3⟩
    case measure => simp only [sliceLen]; omega
  ·have he : l.length = 1 := by omega
   have HE : Hid (pathT l0 i0 = acc.reverse) := by rw [HX.out.2.2.1, pathT, dif_pos (by omega)]; exact Lib.hid rfl
   rw [he] at *
   go_wp2_with fail
   refine (rev_new w.heap.size u6 acc w wr HX.out.1 HB.out (by omega)).mono ?_
   rintro e w1 ⟨rfl, h1, h2, h3⟩
   have HLT : Hid (∀ b, u6.ownBlock = some b → w.heap.size ≤ b ∧ b < w1.heap.size) := Lib.hid (fun b hb => ⟨(World.ownsRow.lt HX.out.1 b hb).1, Nat.lt_of_lt_of_le (World.ownsRow.lt HX.out.1 b hb).2 h3⟩)
   clear h3
   go_wp2
   go_ret2
   exact ⟨_, rfl, by rw [HE.out]; exact h1, HLT.out, h2⟩
end Go.Proofs.YtnkepmfgmfeabaaGreatDoor
set_option linter.unusedVariables false
namespace Go.Proofs.YtnkepmfgmfeabaaGreatDoor
open Go Go.RowKit

/-- append(v, r), the string r laid into a new block of one cell -/
theorem app1 {ops : Array Oper} {rest : List Oper} {o : Oper} {a : Act} {Q : Exit → Act → World → Prop} (hgd : o.guard = none) (s x : Operand)
  (ho : o.op = .call { callee := .builtin .append, args := #[s, x], argTypes := #[22, 22] })
  {B : Nat} {w0 w : World} {v : Value} {acc : List ByteArray} {r : ByteArray} {cap : Nat} (hs : a.eval s = v) (hO : Own B w v acc) (hb : Below B w0 w) (hB : B ≤ w0.heap.size) (hl : acc.length ≤ 1099511627776)
  (hx : a.eval x = .slice (some ⟨w.heap.size, 0, none⟩) 1 cap)
  (h : ∀ v' w', Own B w' v' (acc ++ [r]) → Below B w0 w' → wpList Tryz.prog ops Q rest (a.put o.dst v') w') :
  wpList Tryz.prog ops Q (o :: rest) a (w.alloc (.cells #[.string r] 9)) := by
 obtain ⟨it, hti, hz0, hz1, hz2⟩ : ∃ i, Tryz.prog.info? 9 = some i ∧ i.zero = some (.string ByteArray.empty) ∧ i.size = 1 ∧ i.bytes = 16 := info_parts (by kernel_rfl)
 have hbs := hb.size
 refine wpList_append_own _ hgd s x 22 ho B 9 it (.string ByteArray.empty) 1 16 Tryz.underlying22 hti hz0 hz1 hz2 rfl (by decide) v acc.length (acc.map Value.string) hs (World.ownsRow.alloc hO _) ⟨w.heap.size, 0, none⟩ 1 cap [.string r] hx rfl (cell_byte_new _ _ _) (by simp [Value.oneCell']) (by unfold maxLen; omega) (by omega) (by rw [World.size_alloc]; omega) ?_
 intro v' w' hown hgr hnil
 refine h v' w' ?_ ?_
 ·unfold Own
  rw [List.length_append, List.map_append]
  exact hown
 ·exact (hb.alloc (by omega) _).grown hgr (by rw [World.size_alloc]; omega) (fun k hk => (World.ownsRow.lt hO k hk).1)
theorem own_mono {B B' : Nat} {w : World} {v : Value} {l : List ByteArray} (h : Own B w v l) (hb : B' ≤ B) : Own B' w v l := by
 unfold Own at h ⊢
 obtain ⟨h1, h2 | ⟨g, cap, cur, e, hB, r⟩⟩ := h
 ·exact ⟨h1, .inl h2⟩
 ·exact ⟨h1, .inr ⟨g, cap, cur, e, Nat.le_trans hb hB, r⟩⟩
theorem own_block {B : Nat} {w : World} {v : Value} {l : List ByteArray} (h : Own B w v l) (k : Nat) (hk : v.ownBlock = some k) : B ≤ k ∧ k < w.heap.size := World.ownsRow.lt h k hk
end Go.Proofs.YtnkepmfgmfeabaaGreatDoor
set_option linter.unusedVariables false
namespace Go.Proofs.YtnkepmfgmfeabaaGreatDoor
open Go Go.RowKit

theorem getD_size {L : List ByteArray} {M : Nat} (h : ∀ s ∈ L, s.size ≤ M) (i : Nat) : (L.getD i ByteArray.empty).size ≤ M := by
 by_cases hi : i < L.length
 ·rw [show L.getD i ByteArray.empty = L[i] by simp [List.getD, hi]]; exact h _ (List.getElem_mem hi)
 ·rw [show L.getD i ByteArray.empty = ByteArray.empty by simp [List.getD, Nat.le_of_not_lt hi]]; exact Nat.zero_le _
theorem strne {s u : ByteArray} (h : s ≠ u) : (s.toList == u.toList) = false := by
 rw [beq_eq_false_iff_ne]
 intro e
 apply h
 rw [ByteArray.toList_eq, ByteArray.toList_eq] at e
 exact ByteArray.ext (Array.toList_inj.1 e)
end Go.Proofs.YtnkepmfgmfeabaaGreatDoor
set_option linter.unusedVariables false
namespace Go.Proofs.YtnkepmfgmfeabaaGreatDoor
open Go Go.RowKit

theorem isq_calls (n : Int) (w : World) : Calls Tryz.prog 68 #[.int .i64 n] w fun e w' => e = .returned (.bool (quantB n)) ∧ w' = w := by
 by_cases h1 : 1 ≤ n
 ·have hd1 : decide (1 ≤ n) = true := decide_eq_true h1
  have e : quantB n = decide (n ≤ 1000000000) := by unfold quantB; rw [hd1, Bool.true_and]
  rw [e]
  go_enter Tryz.func68, Tryz.ntmps68
  go_wp2
  go_ret
  exact ⟨rfl, rfl⟩
 ·have hd1 : decide (1 ≤ n) = false := decide_eq_false h1
  have e : quantB n = false := by unfold quantB; rw [hd1, Bool.false_and]
  rw [e]
  go_enter Tryz.func68, Tryz.ntmps68
  go_wp2
  go_ret
  exact ⟨rfl, rfl⟩
set_option maxHeartbeats 4000000 in
theorem isname_calls (s : ByteArray) (hs : s.size ≤ 4611686018427387904) (w : World) : Calls Tryz.prog 67 #[.string s] w fun e w' => e = .returned (.bool (identB s)) ∧ w' = w := by
 go_enter Tryz.func67, Tryz.ntmps67
 go_wp2_with fail
 go_loop [8] (fun vi => ∃ i : Nat, vi = .int .i64 (i : Int) ∧ i ≤ s.size ∧ Hid (∀ j, j < i → identC j (byteAt s.data.toList j) = true)) (fun vi => s.size - (RowKit.intOf vi).toNat)
 case atStart => exact ⟨0, rfl, by omega, Lib.hid fun j hj => by omega⟩
 case round =>
  obtain ⟨i, rfl, hi, HI⟩ := hrel
  by_cases hlt : i < s.size
  ·have hidx := idxS s i hlt IntKind.i64
   have hb256 := byteAt_lt s.data.toList i
   obtain ⟨c, hcE⟩ : ∃ c, c = byteAt s.data.toList i := ⟨_, rfl⟩
   rw [← hcE] at hidx hb256
   have HC := Lib.hid hcE
   clear hcE

   by_cases hA : 97 ≤ c
   ·by_cases hB : c ≤ 122
    ·skip
     have gge97 : decide ((97 : Int) ≤ (c : Int)) = true := decide_eq_true (by omega)
     have gle122 : decide ((c : Int) ≤ 122) = true := decide_eq_true (by omega)
     have hic : identC i c = true := by unfold identC letterN; simp; omega
     have HN : Hid (∀ j, j < i + 1 → identC j (byteAt s.data.toList j) = true) := Lib.hid (fun j hj => by
      rcases Nat.lt_succ_iff_lt_or_eq.1 hj with h | h
      ·exact HI.out j h
      ·subst h; rw [← HC.out]; exact hic)
     clear hic HI HC
     go_wp2
     go_round
     case rel => exact ⟨i + 1, by go_num, by omega, HN⟩
     case measure => simp only [RowKit.intOf]; omega
    ·by_cases hz : i = 0
     ·skip
      have gge97 : decide ((97 : Int) ≤ (c : Int)) = true := decide_eq_true (by omega)
      have gle122 : decide ((c : Int) ≤ 122) = false := decide_eq_false (by omega)
      have gge65 : decide ((65 : Int) ≤ (c : Int)) = true := decide_eq_true (by omega)
      have gle90 : decide ((c : Int) ≤ 90) = false := decide_eq_false (by omega)
      have hi0 : ((i : Int) == 0) = true := by rw [hz]; rfl
      have hi0' : decide ((i : Int) = 0) = true := decide_eq_true (by omega)
      have hic : identC i c = false := by unfold identC letterN; simp; omega
      have HF : Hid (identB s = false) := Lib.hid (identB_no (identAll_no hlt (by rw [← HC.out]; exact hic)))
      clear hic HI HC
      try clear hz
      go_wp2
      go_ret
      exact ⟨congrArg (fun b => Ending.returned (Value.bool b)) HF.out.symm, rfl⟩
     ·skip
      have gge97 : decide ((97 : Int) ≤ (c : Int)) = true := decide_eq_true (by omega)
      have gle122 : decide ((c : Int) ≤ 122) = false := decide_eq_false (by omega)
      have gge65 : decide ((65 : Int) ≤ (c : Int)) = true := decide_eq_true (by omega)
      have gle90 : decide ((c : Int) ≤ 90) = false := decide_eq_false (by omega)
      have hi0 : ((i : Int) == 0) = false := by rw [beq_eq_false_iff_ne]; omega
      have hi0' : decide ((i : Int) = 0) = false := decide_eq_false (by omega)
      have hn95 : ((c : Int) != 95) = true := by simp; omega
      have glt48 : decide ((c : Int) < 48) = false := decide_eq_false (by omega)
      have ggt57 : decide ((57 : Int) < (c : Int)) = true := decide_eq_true (by omega)
      have hic : identC i c = false := by unfold identC letterN; simp; omega
      have HF : Hid (identB s = false) := Lib.hid (identB_no (identAll_no hlt (by rw [← HC.out]; exact hic)))
      clear hic HI HC
      try clear hz
      go_wp2
      go_ret
      exact ⟨congrArg (fun b => Ending.returned (Value.bool b)) HF.out.symm, rfl⟩
   ·by_cases hC : 65 ≤ c
    ·by_cases hD : c ≤ 90
     ·skip
      have gge97 : decide ((97 : Int) ≤ (c : Int)) = false := decide_eq_false (by omega)
      have gge65 : decide ((65 : Int) ≤ (c : Int)) = true := decide_eq_true (by omega)
      have gle90 : decide ((c : Int) ≤ 90) = true := decide_eq_true (by omega)
      have hic : identC i c = true := by unfold identC letterN; simp; omega
      have HN : Hid (∀ j, j < i + 1 → identC j (byteAt s.data.toList j) = true) := Lib.hid (fun j hj => by
       rcases Nat.lt_succ_iff_lt_or_eq.1 hj with h | h
       ·exact HI.out j h
       ·subst h; rw [← HC.out]; exact hic)
      clear hic HI HC
      go_wp2
      go_round
      case rel => exact ⟨i + 1, by go_num, by omega, HN⟩
      case measure => simp only [RowKit.intOf]; omega
     ·by_cases hz : i = 0
      ·skip
       have gge97 : decide ((97 : Int) ≤ (c : Int)) = false := decide_eq_false (by omega)
       have gge65 : decide ((65 : Int) ≤ (c : Int)) = true := decide_eq_true (by omega)
       have gle90 : decide ((c : Int) ≤ 90) = false := decide_eq_false (by omega)
       have hi0 : ((i : Int) == 0) = true := by rw [hz]; rfl
       have hi0' : decide ((i : Int) = 0) = true := decide_eq_true (by omega)
       have hic : identC i c = false := by unfold identC letterN; simp; omega
       have HF : Hid (identB s = false) := Lib.hid (identB_no (identAll_no hlt (by rw [← HC.out]; exact hic)))
       clear hic HI HC
       try clear hz
       go_wp2
       go_ret
       exact ⟨congrArg (fun b => Ending.returned (Value.bool b)) HF.out.symm, rfl⟩
      ·by_cases hE : c = 95
       ·skip
        have gge97 : decide ((97 : Int) ≤ (c : Int)) = false := decide_eq_false (by omega)
        have gge65 : decide ((65 : Int) ≤ (c : Int)) = true := decide_eq_true (by omega)
        have gle90 : decide ((c : Int) ≤ 90) = false := decide_eq_false (by omega)
        have hi0 : ((i : Int) == 0) = false := by rw [beq_eq_false_iff_ne]; omega
        have hi0' : decide ((i : Int) = 0) = false := decide_eq_false (by omega)
        have hn95 : ((c : Int) != 95) = false := by simp; omega
        have hic : identC i c = true := by unfold identC letterN; simp; omega
        have HN : Hid (∀ j, j < i + 1 → identC j (byteAt s.data.toList j) = true) := Lib.hid (fun j hj => by
         rcases Nat.lt_succ_iff_lt_or_eq.1 hj with h | h
         ·exact HI.out j h
         ·subst h; rw [← HC.out]; exact hic)
        clear hic HI HC
        go_wp2
        go_round
        case rel => exact ⟨i + 1, by go_num, by omega, HN⟩
        case measure => simp only [RowKit.intOf]; omega
       ·skip
        have gge97 : decide ((97 : Int) ≤ (c : Int)) = false := decide_eq_false (by omega)
        have gge65 : decide ((65 : Int) ≤ (c : Int)) = true := decide_eq_true (by omega)
        have gle90 : decide ((c : Int) ≤ 90) = false := decide_eq_false (by omega)
        have hi0 : ((i : Int) == 0) = false := by rw [beq_eq_false_iff_ne]; omega
        have hi0' : decide ((i : Int) = 0) = false := decide_eq_false (by omega)
        have hn95 : ((c : Int) != 95) = true := by simp; omega
        have glt48 : decide ((c : Int) < 48) = false := decide_eq_false (by omega)
        have ggt57 : decide ((57 : Int) < (c : Int)) = true := decide_eq_true (by omega)
        have hic : identC i c = false := by unfold identC letterN; simp; omega
        have HF : Hid (identB s = false) := Lib.hid (identB_no (identAll_no hlt (by rw [← HC.out]; exact hic)))
        clear hic HI HC
        try clear hz
        go_wp2
        go_ret
        exact ⟨congrArg (fun b => Ending.returned (Value.bool b)) HF.out.symm, rfl⟩
    ·by_cases hz : i = 0
     ·skip
      have gge97 : decide ((97 : Int) ≤ (c : Int)) = false := decide_eq_false (by omega)
      have gge65 : decide ((65 : Int) ≤ (c : Int)) = false := decide_eq_false (by omega)
      have hi0 : ((i : Int) == 0) = true := by rw [hz]; rfl
      have hi0' : decide ((i : Int) = 0) = true := decide_eq_true (by omega)
      have hic : identC i c = false := by unfold identC letterN; simp; omega
      have HF : Hid (identB s = false) := Lib.hid (identB_no (identAll_no hlt (by rw [← HC.out]; exact hic)))
      clear hic HI HC
      try clear hz
      go_wp2
      go_ret
      exact ⟨congrArg (fun b => Ending.returned (Value.bool b)) HF.out.symm, rfl⟩
     ·by_cases hE : c < 48
      ·skip
       have gge97 : decide ((97 : Int) ≤ (c : Int)) = false := decide_eq_false (by omega)
       have gge65 : decide ((65 : Int) ≤ (c : Int)) = false := decide_eq_false (by omega)
       have hi0 : ((i : Int) == 0) = false := by rw [beq_eq_false_iff_ne]; omega
       have hi0' : decide ((i : Int) = 0) = false := decide_eq_false (by omega)
       have hn95 : ((c : Int) != 95) = true := by simp; omega
       have glt48 : decide ((c : Int) < 48) = true := decide_eq_true (by omega)
       have hic : identC i c = false := by unfold identC letterN; simp; omega
       have HF : Hid (identB s = false) := Lib.hid (identB_no (identAll_no hlt (by rw [← HC.out]; exact hic)))
       clear hic HI HC
       try clear hz
       go_wp2
       go_ret
       exact ⟨congrArg (fun b => Ending.returned (Value.bool b)) HF.out.symm, rfl⟩
      ·by_cases hG : c ≤ 57
       ·skip
        have gge97 : decide ((97 : Int) ≤ (c : Int)) = false := decide_eq_false (by omega)
        have gge65 : decide ((65 : Int) ≤ (c : Int)) = false := decide_eq_false (by omega)
        have hi0 : ((i : Int) == 0) = false := by rw [beq_eq_false_iff_ne]; omega
        have hi0' : decide ((i : Int) = 0) = false := decide_eq_false (by omega)
        have hn95 : ((c : Int) != 95) = true := by simp; omega
        have glt48 : decide ((c : Int) < 48) = false := decide_eq_false (by omega)
        have ggt57 : decide ((57 : Int) < (c : Int)) = false := decide_eq_false (by omega)
        have hic : identC i c = true := by unfold identC letterN; simp; omega
        have HN : Hid (∀ j, j < i + 1 → identC j (byteAt s.data.toList j) = true) := Lib.hid (fun j hj => by
         rcases Nat.lt_succ_iff_lt_or_eq.1 hj with h | h
         ·exact HI.out j h
         ·subst h; rw [← HC.out]; exact hic)
        clear hic HI HC
        go_wp2
        go_round
        case rel => exact ⟨i + 1, by go_num, by omega, HN⟩
        case measure => simp only [RowKit.intOf]; omega
       ·skip
        have gge97 : decide ((97 : Int) ≤ (c : Int)) = false := decide_eq_false (by omega)
        have gge65 : decide ((65 : Int) ≤ (c : Int)) = false := decide_eq_false (by omega)
        have hi0 : ((i : Int) == 0) = false := by rw [beq_eq_false_iff_ne]; omega
        have hi0' : decide ((i : Int) = 0) = false := decide_eq_false (by omega)
        have hn95 : ((c : Int) != 95) = true := by simp; omega
        have glt48 : decide ((c : Int) < 48) = false := decide_eq_false (by omega)
        have ggt57 : decide ((57 : Int) < (c : Int)) = true := decide_eq_true (by omega)
        have hic : identC i c = false := by unfold identC letterN; simp; omega
        have HF : Hid (identB s = false) := Lib.hid (identB_no (identAll_no hlt (by rw [← HC.out]; exact hic)))
        clear hic HI HC
        try clear hz
        go_wp2
        go_ret
        exact ⟨congrArg (fun b => Ending.returned (Value.bool b)) HF.out.symm, rfl⟩
  ·have HA : Hid (identAll s = true) := Lib.hid ((identAll_iff s).2 (fun j hj => HI.out j (by omega)))
   by_cases h0 : s = ByteArray.empty
   ·subst h0
    clear HI HA
    go_wp2
    go_ret
    exact ⟨rfl, rfl⟩
   ·have h1 : 1 ≤ s.size := by
     rcases Nat.eq_zero_or_pos s.size with h | h
     ·exact absurd (ByteArray.ext (Array.eq_empty_of_size_eq_zero h)) h0
     ·exact h
    have hie : s.toList.isEmpty = false := by
     cases hq : s.toList with
     | nil => rw [ByteArray.toList_eq] at hq; exact absurd (ByteArray.ext (Array.toList_eq_nil_iff.1 hq)) h0
     | cons a l => rfl
    have HF : Hid (identB s = decide (s.size ≤ 24)) := Lib.hid (by unfold identB; rw [HA.out, decide_eq_true h1, Bool.and_true, Bool.true_and])
    clear HI HA
    by_cases h24 : s.size ≤ 24
    ·have hd24 : decide ((s.size : Int) ≤ 24) = true := decide_eq_true (by omega)
     go_wp2
     go_ret
     exact ⟨congrArg (fun b => Ending.returned (Value.bool b)) (HF.out.trans (decide_eq_true h24)).symm, rfl⟩
    ·have hd24 : decide ((s.size : Int) ≤ 24) = false := decide_eq_false (by omega)
     go_wp2
     go_ret
     exact ⟨congrArg (fun b => Ending.returned (Value.bool b)) (HF.out.trans (decide_eq_false h24)).symm, rfl⟩
end Go.Proofs.YtnkepmfgmfeabaaGreatDoor
set_option linter.unusedVariables false
namespace Go.Proofs.YtnkepmfgmfeabaaGreatDoor
open Go Go.RowKit

theorem odd_calls (s : ByteArray) (hs : s.size ≤ 4611686018427387904) (w : World) :
  Calls Tryz.prog 134 #[.string s] w fun e w' => e = .returned (.bool (!isS s)) ∧ Below w.heap.size w w' := by
 go_enter Tryz.func134, Tryz.ntmps134
 go_wp2_with fail
 refine (is_calls s hs w).mono ?_
 rintro e w1 ⟨rfl, h1⟩
 go_wp2
 go_ret
 exact ⟨rfl, h1⟩
theorem all_take_succ (l : List ByteArray) (i : Nat) (hi : i < l.length) : (l.take (i + 1)).all isS = ((l.take i).all isS && isS (l.getD i ByteArray.empty)) := by
 rw [List.take_add_one, List.all_append, List.getElem?_eq_getElem hi]
 simp [List.getD, hi]
theorem all_of_take (l : List ByteArray) (i : Nat) (h : (l.take i).all isS = false) : l.all isS = false := by
 have := List.take_append_drop i l
 rw [← this, List.all_append, h]; rfl
theorem index_calls (v : Value) (l : List ByteArray) (w : World) (hv : IsStrC w v l) (hs : ∀ s ∈ l, s.size ≤ 1099511627776) :
  Calls Tryz.prog 140 #[v, .func (Fn.func 134) #[] #[]] w fun e w' => ∃ r : Int, e = .returned (.int .i64 r) ∧ decide (0 ≤ r) = !(l.all isS) ∧ Below w.heap.size w w' := by
 obtain ⟨ao, cap, rfl, hlc, hmax, hcells⟩ := hv
 have HC := Lib.hid hcells
 have HS := Lib.hid hs
 clear hcells hs
 have hmx : l.length ≤ 9223372036854775807 := by have : cap ≤ 9223372036854775807 := hmax; omega
 clear hmax hlc
 go_enter Tryz.func140, Tryz.ntmps140
 go_wp2_with fail
 go_loopw [8] (fun vi W => ∃ i : Nat, vi = .int .i64 (i : Int) ∧ i ≤ l.length ∧ Hid (Below w.heap.size w W ∧ (l.take i).all isS = true)) (fun vi _ => l.length - (RowKit.intOf vi).toNat)
 case atStart => exact ⟨0, rfl, by omega, Below.refl _ _, rfl⟩
 case round =>
  obtain ⟨i, rfl, hi, HI⟩ := hrel
  by_cases hlt : i < l.length
  ·obtain ⟨b, o, rfl, hbl, hc⟩ := HC.out i hlt
   have hcw : wr.cell? ⟨b, o + i, none⟩ = some (.string (l.getD i ByteArray.empty)) := by rw [HI.out.1.cell (p := ⟨b, o + i, none⟩) hbl]; exact hc
   have HA := Lib.hid (all_take_succ l i hlt)
   have hss : (l.getD i ByteArray.empty).size ≤ 1099511627776 := HS.out _ (by simp [List.getD, hlt])
   generalize l.getD i ByteArray.empty = s at *
   clear hc
   cases hq : isS s with
   | true =>
    go_wp2_with fail
    refine (odd_calls s (by omega) wr).mono ?_
    rintro e w1 ⟨rfl, h1⟩
    have HB1 := Lib.hid (HI.out.1.trans (h1.mono HI.out.1.size))
    have HA1 : Hid ((l.take (i + 1)).all isS = true) := by rw [HA.out, HI.out.2, hq]; exact Lib.hid rfl
    clear h1 hcw HA HI
    rw [hq]
    go_wp2
    go_round
    case rel => exact ⟨i + 1, rfl, by omega, HB1.out, HA1.out⟩
    case measure => simp only [RowKit.intOf]; omega
   | false =>
    go_wp2_with fail
    refine (odd_calls s (by omega) wr).mono ?_
    rintro e w1 ⟨rfl, h1⟩
    have HB1 := Lib.hid (HI.out.1.trans (h1.mono HI.out.1.size))
    have HA1 : Hid (l.all isS = false) := by exact Lib.hid (all_of_take l (i + 1) (by rw [HA.out, hq, Bool.and_false]))
    clear h1 hcw HA HI
    rw [hq]
    go_wp2
    go_ret
    exact ⟨_, rfl, by rw [HA1.out]; simp, HB1.out⟩
  ·have e : i = l.length := by omega
   subst e
   have HA1 : Hid (l.all isS = true) := by have := HI.out.2; rw [List.take_length] at this; exact Lib.hid this
   have HB1 := Lib.hid HI.out.1
   clear HI
   go_wp2
   go_ret
   exact ⟨_, rfl, by rw [HA1.out]; rfl, HB1.out⟩
theorem contains_calls (v : Value) (l : List ByteArray) (w : World) (hv : IsStrC w v l) (hs : ∀ s ∈ l, s.size ≤ 1099511627776) :
  Calls Tryz.prog 133 #[v, .func (Fn.func 134) #[] #[]] w fun e w' => e = .returned (.bool (!(l.all isS))) ∧ Below w.heap.size w w' := by
 go_enter Tryz.func133, Tryz.ntmps133
 go_wp2_with fail
 refine (index_calls v l w hv hs).mono ?_
 rintro e w1 ⟨r, rfl, hr, h1⟩
 have HR := Lib.hid hr
 clear hr
 go_wp2
 go_ret
 exact ⟨by rw [← HR.out]; rfl, h1⟩
theorem proper_calls (v : Value) (l : List ByteArray) (w : World) (hv : IsStrC w v l) (hs : ∀ s ∈ l, s.size ≤ 1099511627776) :
  Calls Tryz.prog 123 #[v] w fun e w' => e = .returned (.bool (l.all isS)) ∧ Below w.heap.size w w' := by
 have HV := Lib.hid hv
 clear hv
 go_enter Tryz.func123, Tryz.ntmps123
 go_wp2_with fail
 refine (contains_calls v l w HV.out hs).mono ?_
 rintro e w1 ⟨rfl, h1⟩
 go_wp2
 go_ret
 exact ⟨by simp, h1⟩
end Go.Proofs.YtnkepmfgmfeabaaGreatDoor
