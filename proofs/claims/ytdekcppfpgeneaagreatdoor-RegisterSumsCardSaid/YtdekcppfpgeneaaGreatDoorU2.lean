import Derived.StillTail
import Derived.Below
import Derived.Test.YtdekcppfpgeneaaGreatDoorU1
import Derived.WalkKit
import Derived.Laws.BitsLemmas
import Derived.Lib.Strings
import Derived.Lib.ItoaNum
import Derived.Lib.ItoaMem
import Derived.Lib.AtoiAll
import Derived.RangeFuncIn
import Derived.RangeFuncRecord
import Derived.ChangeArms
import Derived.OpenShut
import Derived.Deep.Strs
import Derived.Shelf.Strings.Builder1
import Derived.Shelf.Strings.Builder2
import Derived.Shelf.Strings.Trim
import Derived.Shelf.Small.Utf8
import Derived.Shelf.Small.Bits
import Derived.Shelf.Small.Strs
import Derived.Shelf.Strings.BuilderF
import Derived.Shelf.Strings.BuilderK
import Derived.Shelf.Strings.Builder2Cap
import Derived.Shelf.Strconv.Atoi
import Derived.Shelf.Strconv.Itoa0
import Derived.Shelf.Strconv.Itoa1
import Derived.Shelf.LaysM
import Derived.Shelf.Strconv.Itoa2
import Derived.Shelf.Strconv.Itoa3
import Derived.Shelf.Strconv.AtoiErrFast
import Derived.Shelf.Strconv.ParseIntEmpty
import Derived.Shelf.Strconv.AtoiFail
import Derived.Shelf.Strconv.Clone
import Derived.Shelf.Strconv.SyntaxError
import Derived.Shelf.LaysC
import Derived.Shelf.Strconv.ToError
import Derived.Shelf.Strconv.Lower
import Derived.Shelf.Strconv.ParseUint10
import Derived.Shelf.Strconv.ParseUint10Empty
import Derived.Shelf.Strconv.ParseUint10Any
import Derived.Shelf.Strconv.ParseInt10
import Derived.Shelf.Strconv.AtoiLong
import Derived.Shelf.Strconv.AtoiInnerAll
import Derived.Shelf.Strconv.RangeError
import Derived.Shelf.Strconv.ToErrorRange
import Derived.Shelf.Strconv.AtoiAll
import Derived.Shelf.Strconv.ErrVarAll
import Derived.Shelf.Strconv.ParseUintEmpty
import Derived.Shelf.Strconv.ParseUint10b64
import Derived.Shelf.Strconv.ParseUint10b32
import Derived.Shelf.Strconv.ParseUint10b16
import Derived.Shelf.Strings.Search1
import Derived.Shelf.Strings.Prefix
import Derived.Shelf.Strings.Runes
import Derived.Shelf.Strings.AsciiSet
import Derived.Shelf.Bits.Mul64
import Derived.Shelf.Strings.Repeat
import Derived.Shelf.Unicode.DecodeSlow
import Derived.Shelf.Unicode.DecodeAny
import Derived.Shelf.Unicode.DecodeLast
import Derived.Shelf.Strings.BuilderCap
import Derived.Test.YtdekcppfpgeneaaGreatDoorProg
import Derived.Test.YtdekcppfpgeneaaGreatDoorChecked
import Derived.Lib.LaidTab
import Derived.Lib.AppendIntMem
import Derived.Lib.SmallJoins
import Derived.Lib.LazyBuf
import Derived.Lib.BufferWrite
import Derived.Deep.RegionHeld3
import Derived.Lib.SlTrimSet
import Derived.Shelf.Strings.SlTrimAscii
import Derived.Lib.Builder
import Derived.Lib.AppendStr
import Derived.Lib.UnsafeStr
import Derived.Lib.ItoaLen
import Derived.ChangeKeysEq
import Derived.MapKept
import Derived.KernelRfl
set_option linter.unusedVariables false
namespace Go.Proofs.YtdekcppfpgeneaaGreatDoor
open Go Go.RowKit

/-! Regions that draw their order, by kinds: each operation of the head has a kind (what its value is good for, in every later world); one walk of the text's order serves every order. -/
section
variable {P : Program} {ops : Array Oper} {md : Region.Mode}
def dstOf (ops : Array Oper) (i : Nat) : Option Tmp := (ops[i]?).bind (·.dst)
theorem dstOf_some {i : Nat} {o : Oper} (h : ops[i]? = some o) : dstOf ops i = o.dst := by simp [dstOf, h]
def lexFrame (ops : Array Oper) (a0 : Act) (u : Nat → Value) : Nat → Act
 | 0 => a0
 | k + 1 => (lexFrame ops a0 u k).put (dstOf ops k) (u k)
def kindB (md : Region.Mode) (ops : Array Oper) (n : Nat) : Bool :=
 Region.noSelect ops && decide (n ≤ ops.size) &&
 ((List.range n).all fun j => (match ops[j]? with
  | some oj => oj.after.all fun e => !Region.binds md e || decide (e.on < j)
  | none => true)) &&
 ((List.range n).all fun j => (List.range n).all fun i => match dstOf ops i, ops[j]? with
  | some d, some oj => (i == j || oj.dst != some d) && (!(oj.looksAt ops).contains d || (decide (i < j) && Region.waitsFor md ops j i))
  | _, _ => true)

structure FrameAt (ops : Array Oper) (a0 : Act) (u : Nat → Value) (S : Nat → Prop) (a : Act) : Prop where
 defers : a.defers = a0.defers
 size : a.tmps.size = a0.tmps.size
 old : ∀ t, (∀ i, S i → dstOf ops i ≠ some t) → a.tmps[t]? = a0.tmps[t]?
 new : ∀ i d, S i → dstOf ops i = some d → a.tmps[d]? = (a0.tmps[d]?).map fun _ => u i

theorem FrameAt.nil {a0 : Act} {u : Nat → Value} {S : Nat → Prop} (h : ∀ i, ¬ S i) : FrameAt ops a0 u S a0 :=
 ⟨rfl, rfl, fun _ _ => rfl, fun i _ hi => absurd hi (h i)⟩
theorem FrameAt.put {a0 a : Act} {u : Nat → Value} {S T : Nat → Prop} (h : FrameAt ops a0 u S a) (j : Nat) (hd : ∀ i, S i → ∀ d, dstOf ops j = some d → dstOf ops i ≠ some d)
  (hT : ∀ i, T i ↔ S i ∨ i = j) : FrameAt ops a0 u T (a.put (dstOf ops j) (u j)) := by
 cases hj : dstOf ops j with
 | none =>
  refine ⟨h.defers, h.size, fun t ht => h.old t fun i hi => ht i ((hT i).2 (.inl hi)), fun i d hi hid => ?_⟩
  rcases (hT i).1 hi with hi | rfl
  ·exact h.new i d hi hid
  ·rw [hj] at hid; cases hid
 | some t0 =>
  have hs : (a.put (some t0) (u j)).tmps.size = a0.tmps.size := by simp [Act.put, h.size]
  refine ⟨h.defers, hs, fun t ht => ?_, fun i d hi hid => ?_⟩
  ·have hne : t0 ≠ t := fun e => ht j ((hT j).2 (.inr rfl)) (by rw [hj, e])
   have := h.old t fun i hi => ht i ((hT i).2 (.inl hi))
   simp only [Act.put]
   rw [Array.getElem?_setIfInBounds_ne hne]
   exact this
  ·rcases (hT i).1 hi with hi | rfl
   ·have hne : t0 ≠ d := fun e => hd i hi t0 hj (by rw [hid, e])
    simp only [Act.put]
    rw [Array.getElem?_setIfInBounds_ne hne]
    exact h.new i d hi hid
   ·rw [hj] at hid
    cases hid
    simp only [Act.put]
    rw [Array.getElem?_setIfInBounds_self]
    by_cases hlt : a.tmps.size ≤ t0
    ·have h9 : a0.tmps.size ≤ t0 := by have := h.size; omega
     rw [if_neg (Nat.not_lt.2 hlt), Array.getElem?_eq_none h9]; rfl
    ·have h8 := Nat.lt_of_not_le hlt
     have h9 : @LT.lt Nat _ t0 a0.tmps.size := by have := h.size; omega
     rw [if_pos h8, Array.getElem?_eq_getElem h9]; rfl
theorem FrameAt.congr {a0 a : Act} {u v : Nat → Value} {S : Nat → Prop} (h : FrameAt ops a0 u S a) (e : ∀ i, S i → u i = v i) : FrameAt ops a0 v S a :=
 ⟨h.defers, h.size, h.old, fun i d hi hid => by rw [h.new i d hi hid, e i hi]⟩
theorem FrameAt.same {a0 a b : Act} {u : Nat → Value} {S T : Nat → Prop} (h : FrameAt ops a0 u S a) (k : FrameAt ops a0 u T b) (t : Tmp) (e : ∀ i, dstOf ops i = some t → (S i ↔ T i)) :
  a.tmps[t]? = b.tmps[t]? := by
 by_cases hx : ∃ i, S i ∧ dstOf ops i = some t
 ·obtain ⟨i, hi, hd⟩ := hx
  rw [h.new i t hi hd, k.new i t ((e i hd).1 hi) hd]
 ·rw [h.old t fun i hi hd => hx ⟨i, hi, hd⟩, k.old t fun i hi hd => hx ⟨i, (e i hd).2 hi, hd⟩]
theorem FrameAt.eq {a0 a b : Act} {u : Nat → Value} {S T : Nat → Prop} (h : FrameAt ops a0 u S a) (k : FrameAt ops a0 u T b) (e : ∀ i, S i ↔ T i) : a = b := by
 have h1 : a.tmps = b.tmps := by
  apply Array.ext_getElem?
  intro t
  exact h.same k t fun i _ => e i
 have h2 : a.defers = b.defers := h.defers.trans k.defers.symm
 cases a; cases b
 simp only at h1 h2
 rw [h1, h2]

structure KindFacts (md : Region.Mode) (ops : Array Oper) (n : Nat) : Prop where
 sel : Region.noSelect ops = true
 le : n ≤ ops.size
 edge : ∀ j oj, j < n → ops[j]? = some oj → ∀ e ∈ oj.after, Region.binds md e = true → e.on < j
 apart : ∀ i j, i < n → j < n → i ≠ j → ∀ d, dstOf ops i = some d → dstOf ops j ≠ some d
 look : ∀ i j, i < n → j < n → ∀ d oj, dstOf ops i = some d → ops[j]? = some oj → d ∈ oj.looksAt ops → i < j ∧ Region.waitsFor md ops j i = true
theorem kindB_facts {n : Nat} (h : kindB md ops n = true) : KindFacts md ops n := by
 simp only [kindB, Bool.and_eq_true, decide_eq_true_eq] at h
 obtain ⟨⟨⟨h1, h2⟩, h3⟩, h4⟩ := h
 refine ⟨h1, h2, fun j oj hj ho e he hb => ?_, fun i j hi hj hne d hd hd2 => ?_, fun i j hi hj d oj hd ho hl => ?_⟩
 ·have := List.all_eq_true.1 h3 j (List.mem_range.2 hj)
  simp only [ho, Array.all_eq_true_iff_forall_mem] at this
  have := this e he
  simp only [hb, Bool.not_true, Bool.false_or, decide_eq_true_eq] at this
  exact this
 ·have hlt : j < ops.size := by omega
  have := List.all_eq_true.1 (List.all_eq_true.1 h4 j (List.mem_range.2 hj)) i (List.mem_range.2 hi)
  have ho : ops[j]? = some ops[j] := Array.getElem?_eq_getElem hlt
  rw [dstOf_some ho] at hd2
  simp only [hd, ho, Bool.and_eq_true, Bool.or_eq_true, beq_iff_eq, bne_iff_ne] at this
  rcases this.1 with h | h
  ·exact hne h
  ·exact h hd2
 ·have := List.all_eq_true.1 (List.all_eq_true.1 h4 j (List.mem_range.2 hj)) i (List.mem_range.2 hi)
  simp only [hd, ho, Bool.and_eq_true, Bool.or_eq_true, Bool.not_eq_true', decide_eq_true_eq] at this
  rcases this.2 with h | h
  ·rw [List.contains_eq_mem, decide_eq_false_iff_not] at h
   exact absurd hl h
  ·exact h
theorem lexFrame_at {n : Nat} (hF : KindFacts md ops n) (a0 : Act) (u : Nat → Value) : ∀ k, k ≤ n → FrameAt ops a0 u (· < k) (lexFrame ops a0 u k)
 | 0, _ => FrameAt.nil fun i hi => by omega
 | k + 1, hk => (lexFrame_at hF a0 u k (by omega)).put k (fun i hi d hd => fun e => hF.apart i k (by omega) (by omega) (by omega) d e hd) (fun i => by omega)

theorem wanted_congr {o : Oper} {t t' : Array Value} (h : ∀ d, d ∈ o.looksAt ops → t[d]? = t'[d]?) : Region.wanted o (yielded ops t) = Region.wanted o (yielded ops t') := by
 unfold Region.wanted
 cases hg : o.guard with
 | none => rfl
 | some gw =>
  obtain ⟨g, want⟩ := gw
  have hy : yielded ops t g = yielded ops t' g := by
   unfold yielded
   cases ht : (ops[g]?).bind (·.dst) with
   | none => rfl
   | some d =>
    have := h d (by simp [Oper.looksAt, hg, ht])
    simp only [Option.bind_some, this]
  simp only [hy]
theorem exec_congr {o : Oper} (hs : ∀ cs b, o.op ≠ .select cs b) {a b : Act} (h : ∀ d, d ∈ o.looksAt ops → a.tmps[d]? = b.tmps[d]?) : execOp a.eval o = execOp b.eval o :=
 execOp_congr o hs fun x hx => by
  cases x with
  | tmp d =>
   have := h d (List.mem_append_left _ (List.mem_filterMap.2 ⟨.tmp d, by simpa using hx, rfl⟩))
   simp only [Act.eval, Array.getD_eq_getD_getElem?, this]
  | _ => rfl

def upd (u : Nat → Value) (j : Nat) (v : Value) : Nat → Value := fun i => if i = j then v else u i
theorem upd_same (u : Nat → Value) (j : Nat) (v : Value) : upd u j v j = v := if_pos rfl
theorem upd_ne (u : Nat → Value) {i j : Nat} (v : Value) (h : i ≠ j) : upd u j v i = u i := if_neg h

theorem listed_count (n : Nat) (L : Array Bool) : ∀ m, m ≤ n → (∀ i, i < m → L.getD i true = true) ∨ ∃ i, i < m ∧ L.getD i true = false ∧ ∀ k, k < i → L.getD k true = true
 | 0, _ => .inl fun i hi => by omega
 | m + 1, hm => by
  rcases listed_count n L m (by omega) with h | ⟨i, hi, h1, h2⟩
  ·cases hL : L.getD m true with
   | true =>
    left
    intro i hi
    rcases Nat.lt_or_ge i m with h' | h'
    ·exact h i h'
    ·rw [show i = m by omega]; exact hL
   | false => exact .inr ⟨m, by omega, hL, h⟩
  ·exact .inr ⟨i, by omega, h1, h2⟩

def unl (L : Array Bool) : Nat → Nat
 | 0 => 0
 | m + 1 => unl L m + if L.getD m true then 0 else 1
theorem unl_set (L : Array Bool) (j : Nat) (hj : L.getD j true = false) : ∀ n, (j < n → unl L n = unl (L.setIfInBounds j true) n + 1) ∧ (n ≤ j → unl L n = unl (L.setIfInBounds j true) n)
 | 0 => ⟨fun h => by omega, fun _ => rfl⟩
 | m + 1 => by
  obtain ⟨h1, h2⟩ := unl_set L j hj m
  have hjs : j < L.size := by
   rcases Nat.lt_or_ge j L.size with h | h
   ·exact h
   ·simp [Array.getElem?_eq_none h] at hj
  refine ⟨fun h => ?_, fun h => ?_⟩
  ·by_cases e : j = m
   ·subst e
    rw [unl, unl, h2 (Nat.le_refl _), hj]
    have : (L.setIfInBounds j true).getD j true = true := by simp [hjs]
    rw [this]; rfl
   ·rw [unl, unl, h1 (by omega), getD_set_ne true e]; omega
  ·rw [unl, unl, h2 (by omega), getD_set_ne true (by omega)]
theorem unl_zero (L : Array Bool) : ∀ n, unl L n = 0 → ∀ i, i < n → L.getD i true = true
 | 0, _, i, hi => by omega
 | m + 1, h, i, hi => by
  rw [unl] at h
  rcases Nat.lt_or_ge i m with h' | h'
  ·exact unl_zero L m (by omega) i h'
  ·rw [show i = m by omega]
   cases hL : L.getD m true with
   | true => rfl
   | false => rw [hL] at h; simp at h
theorem unl_new (k : Nat) : ∀ n, n ≤ k → unl (Array.replicate k false) n = n
 | 0, _ => rfl
 | m + 1, h => by
  rw [unl, unl_new k m (by omega)]
  simp [show m < k by omega]

/-- the listed of the head -/
def headL (ops : Array Oper) (n : Nat) : Array Bool := (Array.range ops.size).map fun i => decide (i < n)
def tailB (md : Region.Mode) (ops : Array Oper) (n : Nat) : Bool :=
 (n == ops.size || (Region.sinkB md ops n && Region.chainB md ops n)) && Region.seqB md ops (ops.size - n) n (headL ops n)

end
end Go.Proofs.YtdekcppfpgeneaaGreatDoor
set_option linter.unusedVariables false
set_option linter.unusedSimpArgs false
namespace Go.Proofs.YtdekcppfpgeneaaGreatDoor
open Go Go.RowKit
namespace Av

/-! Regions that draw their order: a head that makes and reads, and calls what only computes; a tail in order. -/
/-- the name that a value holds itself -/
def AV.ref : AV → Option Nat
 | .ptr l _ => some l
 | .ms l _ _ => some l
 | .ep l _ _ _ _ => some l
 | .mp l => some l
 | _ => none
section
variable {tt : TTab} {H H' : AHeap}
theorem aLoad_loc {t : Nat} {a : AV} (h : ∀ l, a.ref = some l → H[l]? = H'[l]?) : aLoad tt H t a = aLoad tt H' t a := by
 unfold aLoad
 cases tt t with
 | none => rfl
 | some ti =>
  cases a with
  | d p => cases p with
   | v x => cases x with
    | map q => cases q <;> rfl
    | slice q n c => cases q <;> cases n <;> cases c <;> rfl
    | _ => rfl
   | sl k l => rfl
  | ptr l off => simp only [AV.ref, Option.some.injEq, forall_eq'] at h; simp only [h]
  | ms l ver n => simp only [AV.ref, Option.some.injEq, forall_eq'] at h; simp only [h]
  | ep l ver n i c => simp only [AV.ref, Option.some.injEq, forall_eq'] at h; simp only [h]
  | mp l => simp only [AV.ref, Option.some.injEq, forall_eq'] at h; simp only [h]
  | _ => rfl
theorem aIndexAddr_loc {t : Nat} {a ix : AV} (h : ∀ l, a.ref = some l → H[l]? = H'[l]?) : aIndexAddr tt H t a ix = aIndexAddr tt H' t a ix := by
 unfold aIndexAddr
 cases tt t with
 | none => rfl
 | some ti =>
 cases intOfA ix with
 | none => rfl
 | some ki =>
 obtain ⟨ki, i⟩ := ki
 obtain ⟨sz, byt, kind, zero, flat⟩ := ti
 cases kind <;> try rfl
 all_goals
   cases a with
   | d p => cases p with
    | v x => cases x with
     | map q => cases q <;> rfl
     | slice q n c => cases q <;> cases n <;> cases c <;> rfl
     | _ => rfl
    | sl k l => rfl
   | ptr l off => simp only [AV.ref, Option.some.injEq, forall_eq'] at h; simp only [h]
   | ms l ver n => simp only [AV.ref, Option.some.injEq, forall_eq'] at h; simp only [h]
   | ep l ver n i c => simp only [AV.ref, Option.some.injEq, forall_eq'] at h; simp only [h]
   | mp l => simp only [AV.ref, Option.some.injEq, forall_eq'] at h; simp only [h]
   | _ => rfl
theorem aSlice_loc {t : Nat} {a : AV} {lo hi mx : Option AV} (h : ∀ l, a.ref = some l → H[l]? = H'[l]?) : aSlice tt H t a lo hi mx = aSlice tt H' t a lo hi mx := by
 unfold aSlice
 cases tt t with
 | none => rfl
 | some ti =>
 obtain ⟨sz, byt, kind, zero, flat⟩ := ti
 cases mx <;> cases kind <;> try rfl
 all_goals
   cases a with
   | d p => cases p with
    | v x => cases x with
     | map q => cases q <;> rfl
     | slice q n c => cases q <;> cases n <;> cases c <;> rfl
     | _ => rfl
    | sl k l => rfl
   | ptr l off => simp only [AV.ref, Option.some.injEq, forall_eq'] at h; simp only [h]
   | ms l ver n => simp only [AV.ref, Option.some.injEq, forall_eq'] at h; simp only [h]
   | ep l ver n i c => simp only [AV.ref, Option.some.injEq, forall_eq'] at h; simp only [h]
   | mp l => simp only [AV.ref, Option.some.injEq, forall_eq'] at h; simp only [h]
   | _ => rfl
theorem aLookup_loc {t : Nat} {a k : AV} {ok : Bool} (h : ∀ l, a.ref = some l → H[l]? = H'[l]?) : aLookup tt H t a k ok = aLookup tt H' t a k ok := by
 unfold aLookup
 cases tt t with
 | none => rfl
 | some ti =>
 cases valOf k with
 | none => rfl
 | some key =>
 obtain ⟨sz, byt, kind, zero, flat⟩ := ti
 cases kind <;> try rfl
 all_goals
   cases a with
   | d p => cases p with
    | v x => cases x with
     | map q => cases q <;> rfl
     | slice q n c => cases q <;> cases n <;> cases c <;> rfl
     | _ => rfl
    | sl k l => rfl
   | ptr l off => simp only [AV.ref, Option.some.injEq, forall_eq'] at h; simp only [h]
   | ms l ver n => simp only [AV.ref, Option.some.injEq, forall_eq'] at h; simp only [h]
   | ep l ver n i c => simp only [AV.ref, Option.some.injEq, forall_eq'] at h; simp only [h]
   | mp l => simp only [AV.ref, Option.some.injEq, forall_eq'] at h; simp only [h]
   | _ => rfl
theorem lenOf_loc {t : Nat} {a : AV} (h : ∀ l, a.ref = some l → H[l]? = H'[l]?) : lenOf tt H t a = lenOf tt H' t a := by
 unfold lenOf
 cases tt t with
 | none => rfl
 | some ti =>
 obtain ⟨sz, byt, kind, zero, flat⟩ := ti
 cases kind <;> try rfl
 all_goals
   cases a with
   | d p => cases p with
    | v x => cases x with
     | map q => cases q <;> rfl
     | slice q n c => cases q <;> cases n <;> cases c <;> rfl
     | _ => rfl
    | sl k l => rfl
   | ptr l off => simp only [AV.ref, Option.some.injEq, forall_eq'] at h; simp only [h]
   | ms l ver n => simp only [AV.ref, Option.some.injEq, forall_eq'] at h; simp only [h]
   | ep l ver n i c => simp only [AV.ref, Option.some.injEq, forall_eq'] at h; simp only [h]
   | mp l => simp only [AV.ref, Option.some.injEq, forall_eq'] at h; simp only [h]
   | _ => rfl
theorem aXItems_loc {k : Nat} {a : AV} (h : ∀ l, a.ref = some l → H[l]? = H'[l]?) : aXItems H k a = aXItems H' k a := by
 unfold aXItems
 cases a with
 | d p => cases p with
  | v x => cases x with
   | map q => cases q <;> rfl
   | slice q n c => cases q <;> cases n <;> cases c <;> rfl
   | _ => rfl
  | sl k l => rfl
 | ptr l off => simp only [AV.ref, Option.some.injEq, forall_eq'] at h; simp only [h]
 | ms l ver n => simp only [AV.ref, Option.some.injEq, forall_eq'] at h; simp only [h]
 | ep l ver n i c => simp only [AV.ref, Option.some.injEq, forall_eq'] at h; simp only [h]
 | mp l => simp only [AV.ref, Option.some.injEq, forall_eq'] at h; simp only [h]
 | _ => rfl
theorem aSrc_loc {t tx k : Nat} {a : AV} (h : ∀ l, a.ref = some l → H[l]? = H'[l]?) : aSrc tt H t tx k a = aSrc tt H' t tx k a := by
 unfold aSrc
 rw [aXItems_loc h]
theorem ptrEq_loc {t : Nat} {x y : AV} (h : ∀ l, x.ref = some l → H[l]? = H'[l]?) : ptrEq tt H t x y = ptrEq tt H' t x y := by
 unfold ptrEq
 cases x with
 | ptr l off => simp only [AV.ref, Option.some.injEq, forall_eq'] at h; simp only [h]
 | _ => rfl
theorem aAppend_loc {t tx : Nat} {a x : AV} {l : Nat} (h : ∀ l, a.ref = some l → H[l]? = H'[l]?) (hx : ∀ l, x.ref = some l → H[l]? = H'[l]?) : aAppend tt H t tx a x l = aAppend tt H' t tx a x l := by
 unfold aAppend
 simp only [aSrc_loc hx]
 cases tt t with
 | none => rfl
 | some ti =>
 obtain ⟨sz, byt, kind, zero, flat⟩ := ti
 cases kind <;> try rfl
 all_goals
   cases a with
   | d p => cases p with
    | v x => cases x with
     | map q => cases q <;> rfl
     | slice q n c => cases q <;> cases n <;> cases c <;> rfl
     | _ => rfl
    | sl k l => rfl
   | ptr l off => simp only [AV.ref, Option.some.injEq, forall_eq'] at h; simp only [h]
   | ms l ver n => simp only [AV.ref, Option.some.injEq, forall_eq'] at h; simp only [h]
   | ep l ver n i c => simp only [AV.ref, Option.some.injEq, forall_eq'] at h; simp only [h]
   | mp l => simp only [AV.ref, Option.some.injEq, forall_eq'] at h; simp only [h]
   | _ => rfl
/-- what may stand in a head -/
def headOp : Op → Bool
 | .store _ _ _ | .mapUpdate _ _ _ _ | .insert _ _ _ _ | .mapEntry _ _ _ | .entryStore _ _ _ _ => false
 | _ => true
theorem aop_loc {l : Nat} {ρ : Operand → AV} {o : Op} (hh : headOp o = true) (h : ∀ x ∈ o.operands, ∀ l, (ρ x).ref = some l → H[l]? = H'[l]?) : aop tt H l ρ o = aop tt H' l ρ o := by
 cases o with
 | load t a => simp only [aop]; rw [aLoad_loc (h a (by simp [Op.operands]))]
 | store t a x => cases hh
 | mapUpdate t a x y => cases hh
 | insert t a x y => cases hh
 | mapEntry t a x => cases hh
 | entryStore t a x y => cases hh
 | indexAddr t a ix => simp only [aop]; rw [aIndexAddr_loc (h a (by simp [Op.operands]))]
 | binOp op t x y yt => simp only [aop]; rw [ptrEq_loc (h x (by simp [Op.operands]))]
 | slice t x lo hi mx => simp only [aop]; rw [aSlice_loc (h x (by simp [Op.operands]))]
 | lookup t m k ok => simp only [aop]; rw [aLookup_loc (h m (by simp [Op.operands]))]
 | call c =>
  obtain ⟨callee, args, ts⟩ := c
  cases callee with
  | builtin b =>
   simp only [aop]
   have hm : ∀ y ∈ args.toList.map ρ, ∀ l, y.ref = some l → H[l]? = H'[l]? := fun y hy => by
    obtain ⟨x, hx, rfl⟩ := List.mem_map.1 hy
    exact h x (by simp [Op.operands, Call.operands]; simpa using hx)
   unfold aBuiltin
   generalize args.toList.map ρ = az at hm
   split
   ·exact aAppend_loc (hm _ (by simp)) (hm _ (by simp))
   ·rw [lenOf_loc (hm _ (by simp))]
   ·rfl
   ·rfl
   ·rfl
  | _ => rfl
 | _ => rfl
end
/-- a row of pure cells that the head builds is pure data from the start -/
def hfz (o : Op) (r : AV) (ob : AObj) : AV × Option AObj := match o, r, ob with
 | .buildSlice _ _ _, .ms _ ver m, .row _ k ver' items => if ver = ver' ∧ m = items.length then match unI items with
  | some L => (.d (.sl k L), some .dead)
  | none => (r, some ob)
  else (r, some ob)
 | _, _, _ => (r, some ob)
/-- a step of the head -/
def headStep (tt : TTab) (H : AHeap) (env : List AV) (o : Op) : Option (AV × Option AObj) :=
 if allocs (aeval env) o = true then match aop tt (H ++ [.free]) H.length (aeval env) o with
  | some (r, some (l, ob)) => if l = H.length then some (hfz o r ob) else none
  | _ => none
 else match aop tt H 0 (aeval env) o with
  | some (r, none) => some (r, none)
  | _ => none
theorem aBuild_ms {tt : TTab} {t len l : Nat} {ps : List (Nat × AV)} {r : AV} {q : Option (Nat × AObj)} (h : aBuildSlice tt t len ps l = some (r, q)) : r = .ms l 0 len := by
 unfold aBuildSlice at h
 split at h
 ·split at h
  ·split at h
   ·split at h
    ·simp only [Option.some.injEq, Prod.mk.injEq] at h; exact h.1.symm
    ·cases h
   ·cases h
  ·cases h
 ·cases h
theorem hfz_ok {base : World} {s0 : St} {N : Nat} {S : AHeap} {n : Nat} {o : Op} {r r2 : AV} {ob : AObj} {q : Option AObj} (hn : n < S.length) (hx : hfz o r ob = (r2, q)) (hms : ∀ t k ps, o = .buildSlice t k ps → ∃ m, r = .ms n 0 m) :
  ∃ ob2, q = some ob2 ∧ ∀ μ w v, Sim base ⟨μ, S.set n ob, w⟩ → Rep ⟨μ, S.set n ob, w⟩ r v → Evo N s0 ⟨μ, S.set n ob, w⟩ → Sim base ⟨μ, S.set n ob2, w⟩ ∧ Rep ⟨μ, S.set n ob2, w⟩ r2 v ∧ Evo N s0 ⟨μ, S.set n ob2, w⟩ := by
 have same : (r, some ob) = (r2, q) → ∃ ob2, q = some ob2 ∧ ∀ μ w v, Sim base ⟨μ, S.set n ob, w⟩ → Rep ⟨μ, S.set n ob, w⟩ r v → Evo N s0 ⟨μ, S.set n ob, w⟩ → Sim base ⟨μ, S.set n ob2, w⟩ ∧ Rep ⟨μ, S.set n ob2, w⟩ r2 v ∧ Evo N s0 ⟨μ, S.set n ob2, w⟩ := fun e => by
  simp only [Prod.mk.injEq] at e
  obtain ⟨rfl, rfl⟩ := e
  exact ⟨ob, rfl, fun _ _ _ a b c => ⟨a, b, c⟩⟩
 unfold hfz at hx
 split at hx
 ·rename_i t1 k1 ps1 l1 ver1 m1 ty1 kk1 ver2 items1
  obtain ⟨m0, e0⟩ := hms _ _ _ rfl
  simp only [AV.ms.injEq] at e0
  obtain ⟨rfl, rfl, rfl⟩ := e0
  split at hx
  ·rename_i hc
   split at hx
   ·rename_i L hu
    simp only [Prod.mk.injEq] at hx
    obtain ⟨rfl, rfl⟩ := hx
    refine ⟨.dead, rfl, fun μ w v h1 h2 h3 => ?_⟩
    have a1 := h1.kill l1
    have a2 := Rep.frz h1 l1 _ _ h2
    have a3 := h3.trans (a1.2 N)
    have ge : (S.set l1 (.row ty1 kk1 ver2 items1))[l1]? = some (.row ty1 kk1 ver2 items1) := get_set_same hn
    simp only [ge, frzA, frzO, if_true, if_pos hc, hu, List.set_set] at a2
    simp only [List.set_set] at a1 a3
    exact ⟨a1.1, a2, a3⟩
   ·exact same hx
  ·exact same hx
 ·exact same hx
end Av
end Go.Proofs.YtdekcppfpgeneaaGreatDoor
set_option linter.unusedVariables false
set_option linter.unusedSimpArgs false
namespace Go.Proofs.YtdekcppfpgeneaaGreatDoor
open Go Go.RowKit
namespace Av

mutual
def AV.refs : AV → List Nat
 | .ptr l _ => [l]
 | .ms l _ _ => [l]
 | .ep l _ _ _ _ => [l]
 | .mp l => [l]
 | .fn _ a b => refsL a ++ refsL b
 | .agg l => refsL l
 | .tup l => refsL l
 | _ => []
def refsL : List AV → List Nat
 | [] => []
 | a :: r => a.refs ++ refsL r
end
theorem ref_refs {a : AV} {l : Nat} (h : a.ref = some l) : l ∈ a.refs := by
 cases a <;> simp [AV.ref] at h <;> simp [AV.refs, h]
mutual
theorem Rep.refs {s : St} : ∀ (a : AV) (v : Value), Rep s a v → ∀ l ∈ a.refs, ∃ o, s.H[l]? = some o ∧ o ≠ .free
 | .d p, v, h, l, hl => by simp [AV.refs] at hl
 | .undef, v, h, l, hl => by simp [AV.refs] at hl
 | .ptr m off, v, h, l, hl => by
  simp only [AV.refs, List.mem_singleton] at hl; subst hl
  simp only [Rep, PtrRep] at h
  obtain ⟨_, h⟩ := h
  split at h
  ·exact ⟨_, ‹_›, by simp⟩
  ·exact ⟨_, ‹_›, by simp⟩
  ·exact h.elim
 | .ms m ver n, v, h, l, hl => by
  simp only [AV.refs, List.mem_singleton] at hl; subst hl
  simp only [Rep, MsRep] at h
  obtain ⟨_, h⟩ := h
  split at h
  ·exact ⟨_, ‹_›, by simp⟩
  ·exact ⟨_, ‹_›, by simp⟩
  ·exact h.elim
 | .ep m ver n i c, v, h, l, hl => by
  simp only [AV.refs, List.mem_singleton] at hl; subst hl
  simp only [Rep, EpRep] at h
  obtain ⟨_, h⟩ := h
  split at h
  ·exact ⟨_, ‹_›, by simp⟩
  ·exact ⟨_, ‹_›, by simp⟩
  ·exact h.elim
 | .rp cells, v, h, l, hl => by simp [AV.refs] at hl
 | .mp m, v, h, l, hl => by
  simp only [AV.refs, List.mem_singleton] at hl; subst hl
  simp only [Rep, MpRep] at h
  obtain ⟨_, h⟩ := h
  split at h
  ·exact ⟨_, ‹_›, by simp⟩
  ·exact ⟨_, ‹_›, by simp⟩
  ·exact h.elim
 | .fn f a b, v, h, l, hl => by
  simp only [Rep] at h
  obtain ⟨x, y, _, h2, h3⟩ := h
  simp only [AV.refs] at hl
  rcases List.mem_append.1 hl with hl | hl
  ·exact RepL.refs a _ h2 l hl
  ·exact RepL.refs b _ h3 l hl
 | .agg m, v, h, l, hl => by
  simp only [Rep] at h
  obtain ⟨x, _, h2⟩ := h
  simp only [AV.refs] at hl
  exact RepL.refs m _ h2 l hl
 | .tup m, v, h, l, hl => by
  simp only [Rep] at h
  obtain ⟨x, _, h2⟩ := h
  simp only [AV.refs] at hl
  exact RepL.refs m _ h2 l hl
theorem RepL.refs {s : St} : ∀ (az : List AV) (vs : List Value), RepL s az vs → ∀ l ∈ refsL az, ∃ o, s.H[l]? = some o ∧ o ≠ .free
 | [], vs, h, l, hl => by simp [refsL] at hl
 | a :: r, vs, h, l, hl => by
  simp only [RepL] at h
  obtain ⟨x, t, _, h2, h3⟩ := h
  simp only [refsL] at hl
  rcases List.mem_append.1 hl with hl | hl
  ·exact Rep.refs a x h2 l hl
  ·exact RepL.refs r t h3 l hl
end
mutual
theorem bel_refs {n : Nat} : ∀ (a : AV), a.bel n → ∀ l ∈ a.refs, l < n
 | .d p, h, l, hl => by simp [AV.refs] at hl
 | .undef, h, l, hl => by simp [AV.refs] at hl
 | .ptr m off, h, l, hl => by simp only [AV.refs, List.mem_singleton] at hl; subst hl; simpa only [AV.bel] using h
 | .ms m ver n, h, l, hl => by simp only [AV.refs, List.mem_singleton] at hl; subst hl; simpa only [AV.bel] using h
 | .ep m ver n i c, h, l, hl => by simp only [AV.refs, List.mem_singleton] at hl; subst hl; simpa only [AV.bel] using h
 | .rp c, h, l, hl => by simp [AV.refs] at hl
 | .mp m, h, l, hl => by simp only [AV.refs, List.mem_singleton] at hl; subst hl; simpa only [AV.bel] using h
 | .fn f a b, h, l, hl => by
  simp only [AV.bel] at h
  simp only [AV.refs] at hl
  rcases List.mem_append.1 hl with hl | hl
  ·exact belL_refs a h.1 l hl
  ·exact belL_refs b h.2 l hl
 | .agg m, h, l, hl => by simp only [AV.bel] at h; simp only [AV.refs] at hl; exact belL_refs m h l hl
 | .tup m, h, l, hl => by simp only [AV.bel] at h; simp only [AV.refs] at hl; exact belL_refs m h l hl
theorem belL_refs {n : Nat} : ∀ (az : List AV), belL n az → ∀ l ∈ refsL az, l < n
 | [], h, l, hl => by simp [refsL] at hl
 | a :: r, h, l, hl => by
  simp only [belL] at h
  simp only [refsL] at hl
  rcases List.mem_append.1 hl with hl | hl
  ·exact bel_refs a h.1 l hl
  ·exact belL_refs r h.2 l hl
end
mutual
theorem AV.bel.mono {n m : Nat} (hm : n ≤ m) : ∀ (a : AV), a.bel n → a.bel m
 | .d p, h => by simp only [AV.bel]
 | .undef, h => by simp only [AV.bel]
 | .ptr l off, h => by simp only [AV.bel] at h ⊢; omega
 | .ms l ver k, h => by simp only [AV.bel] at h ⊢; omega
 | .ep l ver k i c, h => by simp only [AV.bel] at h ⊢; omega
 | .rp c, h => by simp only [AV.bel]
 | .mp l, h => by simp only [AV.bel] at h ⊢; omega
 | .fn f a b, h => by simp only [AV.bel] at h ⊢; exact ⟨belL.mono hm a h.1, belL.mono hm b h.2⟩
 | .agg l, h => by simp only [AV.bel] at h ⊢; exact belL.mono hm l h
 | .tup l, h => by simp only [AV.bel] at h ⊢; exact belL.mono hm l h
theorem belL.mono {n m : Nat} (hm : n ≤ m) : ∀ (l : List AV), belL n l → belL m l
 | [], h => by simp only [belL]
 | a :: r, h => by simp only [belL] at h ⊢; exact ⟨AV.bel.mono hm a h.1, belL.mono hm r h.2⟩
end
def AHStep (P : Program) (tt : TTab) (base : World) (N0 : Nat) (env : List AV) (H : AHeap) (o : Op) (C : AV → AHeap → Prop) : Prop :=
 match acall env o with
 | some (f, args) => ∃ r, (∀ Hx : AHeap, (∀ l, l < N0 ∨ l ∈ refsL args → Hx[l]? = H[l]?) → CallsA P base f args Hx fun r' H' => r' = r ∧ H' = Hx) ∧ r.bel H.length ∧ C r H
 | none => headOp o = true ∧ match headStep tt H env o with
  | some (r, some ob) => r.bel (H.length + 1) ∧ C r (H ++ [ob])
  | some (r, none) => r.bel H.length ∧ C r H
  | none => False
/-- the head, in the text's order -/
def AHOps (P : Program) (tt : TTab) (base : World) (N0 : Nat) (ops : Array Oper) : List Oper → List AV → AHeap → (List AV → AHeap → Prop) → Prop
 | [], env, H, K => K env H
 | o :: rest, env, H, K => AGuard ops env o.guard (AHStep P tt base N0 env H o.op fun r H' => AHOps P tt base N0 ops rest (aput env o.dst r) H' K) (AHOps P tt base N0 ops rest (aput env o.dst skipV) H K)
section
variable (ops : Array Oper) (env0 : List AV) (H0 : AHeap) (r : Nat → AV) (ob : Nat → Option AObj)
def eP : Nat → List AV
 | 0 => env0
 | k + 1 => aput (eP k) (dstOf ops k) (r k)
def hP : Nat → AHeap
 | 0 => H0
 | k + 1 => hP k ++ (ob k).toList
def ph (L : Array Bool) : Nat → AHeap
 | 0 => []
 | k + 1 => ph L k ++ (match ob k with
  | none => []
  | some o => [if L.getD k false = true then o else .free])
def RunOk (P : Program) (tt : TTab) (base : World) (j : Nat) (o : Oper) : Prop :=
 match acall (eP ops env0 r j) o.op with
 | some (f, args) => (∀ Hx : AHeap, (∀ l, l < H0.length ∨ l ∈ refsL args → Hx[l]? = (hP H0 ob j)[l]?) → CallsA P base f args Hx fun r' H' => r' = r j ∧ H' = Hx) ∧ ob j = none ∧ (r j).bel (hP H0 ob j).length
 | none => headOp o.op = true ∧ headStep tt (hP H0 ob j) (eP ops env0 r j) o.op = some (r j, ob j) ∧ (r j).bel (hP H0 ob (j + 1)).length
def PlanAt (P : Program) (tt : TTab) (base : World) (j : Nat) (o : Oper) : Prop :=
 match o.guard with
 | none => RunOk ops env0 H0 r ob P tt base j o
 | some (g, want) => ∃ y, yieldedA ops (eP ops env0 r j) g = some y ∧ ((wantB y want = true ∧ RunOk ops env0 H0 r ob P tt base j o) ∨ (¬ wantB y want = true ∧ r j = skipV ∧ ob j = none))
end
section
variable {ops : Array Oper} {env0 : List AV} {H0 : AHeap}
theorem eP_congr {r r' : Nat → AV} : ∀ {k : Nat}, (∀ i, i < k → r' i = r i) → eP ops env0 r' k = eP ops env0 r k
 | 0, _ => rfl
 | k + 1, h => by simp only [eP]; rw [eP_congr fun i hi => h i (by omega), h k (by omega)]
theorem hP_congr {ob ob' : Nat → Option AObj} : ∀ {k : Nat}, (∀ i, i < k → ob' i = ob i) → hP H0 ob' k = hP H0 ob k
 | 0, _ => rfl
 | k + 1, h => by simp only [hP]; rw [hP_congr fun i hi => h i (by omega), h k (by omega)]
theorem ahops_plan {P : Program} {tt : TTab} {base : World} {K : List AV → AHeap → Prop} : ∀ (l : List Oper) (k : Nat) (r : Nat → AV) (ob : Nat → Option AObj), (∀ j, j < l.length → l[j]? = ops[k + j]?) → AHOps P tt base H0.length ops l (eP ops env0 r k) (hP H0 ob k) K →
  ∃ r' ob', (∀ i, i < k → r' i = r i ∧ ob' i = ob i) ∧ (∀ j o, k ≤ j → j < k + l.length → ops[j]? = some o → PlanAt ops env0 H0 r' ob' P tt base j o) ∧ K (eP ops env0 r' (k + l.length)) (hP H0 ob' (k + l.length))
 | [], k, r, ob, _, h => ⟨r, ob, fun _ _ => ⟨rfl, rfl⟩, fun j o h1 h2 => by simp at h2; omega, h⟩
 | o :: l, k, r, ob, hl, h => by
  have h0 : ops[k]? = some o := by simpa using (hl 0 (by simp)).symm
  -- go on with a value
  have go : ∀ (v : AV) (q : Option AObj), AHOps P tt base H0.length ops l (aput (eP ops env0 r k) o.dst v) (hP H0 ob k ++ q.toList) K →
    (∀ r' ob', (∀ i, i < k → r' i = r i ∧ ob' i = ob i) → r' k = v → ob' k = q → PlanAt ops env0 H0 r' ob' P tt base k o) →
    ∃ r' ob', (∀ i, i < k → r' i = r i ∧ ob' i = ob i) ∧ (∀ j o', k ≤ j → j < k + (o :: l).length → ops[j]? = some o' → PlanAt ops env0 H0 r' ob' P tt base j o') ∧ K (eP ops env0 r' (k + (o :: l).length)) (hP H0 ob' (k + (o :: l).length)) := by
   intro v q hv hp
   let r1 : Nat → AV := fun i => if i = k then v else r i
   let ob1 : Nat → Option AObj := fun i => if i = k then q else ob i
   have e1 : eP ops env0 r1 (k + 1) = aput (eP ops env0 r k) o.dst v := by
    simp only [eP, dstOf_some h0]
    rw [eP_congr (r := r) (r' := r1) fun i hi => by simp [r1, Nat.ne_of_lt hi]]
    simp [r1]
   have e2 : hP H0 ob1 (k + 1) = hP H0 ob k ++ q.toList := by
    simp only [hP]
    rw [hP_congr (ob := ob) (ob' := ob1) fun i hi => by simp [ob1, Nat.ne_of_lt hi]]
    simp [ob1]
   obtain ⟨r', ob', a1, a2, a3⟩ := ahops_plan l (k + 1) r1 ob1 (fun j hj => by
    have := hl (j + 1) (by simpa using hj)
    rw [show k + 1 + j = k + (j + 1) by omega]
    simpa using this) (by rw [e1, e2]; exact hv)
   have b1 : ∀ i, i < k → r' i = r i ∧ ob' i = ob i := fun i hi => by
    have := a1 i (by omega)
    simp only [r1, ob1, Nat.ne_of_lt hi, if_false] at this
    exact this
   have b2 : r' k = v ∧ ob' k = q := by
    have := a1 k (by omega)
    simpa [r1, ob1] using this
   refine ⟨r', ob', b1, fun j o' h1 h2 h3 => ?_, by rw [List.length_cons, show k + (l.length + 1) = k + 1 + l.length by omega]; exact a3⟩
   by_cases e : j = k
   ·subst e
    rw [h0] at h3
    cases h3
    exact hp r' ob' b1 b2.1 b2.2
   ·exact a2 j o' (by omega) (by simp only [List.length_cons] at h2; omega) h3
  simp only [AHOps, AGuard] at h
  -- the operation itself
  have run : AHStep P tt base H0.length (eP ops env0 r k) (hP H0 ob k) o.op (fun v H' => AHOps P tt base H0.length ops l (aput (eP ops env0 r k) o.dst v) H' K) →
    ∃ v q, AHOps P tt base H0.length ops l (aput (eP ops env0 r k) o.dst v) (hP H0 ob k ++ q.toList) K ∧ ∀ r' ob', (∀ i, i < k → r' i = r i ∧ ob' i = ob i) → r' k = v → ob' k = q → RunOk ops env0 H0 r' ob' P tt base k o := by
   intro h
   unfold AHStep at h
   split at h
   ·rename_i f args hac
    obtain ⟨v, h2, h3, h4⟩ := h
    refine ⟨v, none, by simpa using h4, fun r' ob' hr e1 e2 => ?_⟩
    unfold RunOk
    rw [eP_congr fun i hi => (hr i hi).1, hac, hP_congr fun i hi => (hr i hi).2, e1, e2]
    exact ⟨h2, rfl, h3⟩
   ·rename_i hac
    obtain ⟨h1, h⟩ := h
    split at h
    ·rename_i v q hst
     refine ⟨v, some q, by simpa using h.2, fun r' ob' hr e1 e2 => ?_⟩
     unfold RunOk
     simp only [hP]
     rw [eP_congr fun i hi => (hr i hi).1, hac, hP_congr fun i hi => (hr i hi).2, e1, e2]
     exact ⟨h1, hst, by simpa using h.1⟩
    ·rename_i v hst
     refine ⟨v, none, by simpa using h.2, fun r' ob' hr e1 e2 => ?_⟩
     unfold RunOk
     simp only [hP]
     rw [eP_congr fun i hi => (hr i hi).1, hac, hP_congr fun i hi => (hr i hi).2, e1, e2]
     exact ⟨h1, hst, by simpa using h.1⟩
    ·exact h.elim
  cases hg : o.guard with
  | none =>
   rw [hg] at h
   obtain ⟨v, q, h1, h2⟩ := run h
   exact go v q h1 fun r' ob' hr e1 e2 => by unfold PlanAt; rw [hg]; exact h2 r' ob' hr e1 e2
  | some g =>
   obtain ⟨g, want⟩ := g
   rw [hg] at h
   simp only at h
   split at h
   case h_2 => exact h.elim
   rename_i b hy
   split at h
   ·rename_i hb
    obtain ⟨v, q, h1, h2⟩ := run h
    exact go v q h1 fun r' ob' hr e1 e2 => by
     unfold PlanAt; rw [hg]
     exact ⟨b, by rw [eP_congr fun i hi => (hr i hi).1]; exact hy, .inl ⟨hb, h2 r' ob' hr e1 e2⟩⟩
   ·rename_i hb
    exact go skipV none (by simpa using h) fun r' ob' hr e1 e2 => by
     unfold PlanAt; rw [hg]
     exact ⟨b, by rw [eP_congr fun i hi => (hr i hi).1]; exact hy, .inr ⟨hb, e1, e2⟩⟩
end
end Av
end Go.Proofs.YtdekcppfpgeneaaGreatDoor
set_option linter.unusedVariables false
set_option linter.unusedSimpArgs false
namespace Go.Proofs.YtdekcppfpgeneaaGreatDoor
open Go Go.RowKit
namespace Av

section
variable {ops : Array Oper} {env0 : List AV} {H0 : AHeap} {r : Nat → AV} {ob : Nat → Option AObj}
theorem hP_len (k : Nat) : (hP H0 ob k).length ≤ (hP H0 ob (k + 1)).length := by simp [hP]
theorem hP_le {j k : Nat} (h : j ≤ k) : (hP H0 ob j).length ≤ (hP H0 ob k).length := by
 induction k with
 | zero => rw [show j = 0 by omega]; exact Nat.le_refl _
 | succ k ih =>
  rcases Nat.lt_or_ge j (k + 1) with h' | h'
  ·exact Nat.le_trans (ih (by omega)) (hP_len k)
  ·rw [show j = k + 1 by omega]; exact Nat.le_refl _
theorem hP_base (k : Nat) : H0.length ≤ (hP H0 ob k).length := hP_le (Nat.zero_le k)
theorem ph_len (L : Array Bool) (k : Nat) : (H0 ++ ph ob L k).length = (hP H0 ob k).length := by
 induction k with
 | zero => simp [ph, hP]
 | succ k ih =>
  simp only [ph, hP, List.length_append] at ih ⊢
  cases ob k <;> simp <;> omega
theorem hP_old {l k : Nat} (h : l < H0.length) : (hP H0 ob k)[l]? = H0[l]? := by
 induction k with
 | zero => rfl
 | succ k ih =>
  simp only [hP]
  rw [List.getElem?_append_left (Nat.lt_of_lt_of_le h (hP_base k)), ih]
theorem ph_old {L : Array Bool} {l k : Nat} (h : l < H0.length) : (H0 ++ ph ob L k)[l]? = H0[l]? := List.getElem?_append_left h
theorem hP_at {i j : Nat} {o : AObj} (hi : i < j) (ho : ob i = some o) : (hP H0 ob j)[(hP H0 ob i).length]? = some o := by
 induction j with
 | zero => omega
 | succ j ih =>
  simp only [hP]
  rcases Nat.lt_or_ge i j with h | h
  ·rw [List.getElem?_append_left]
   ·exact ih h
   ·have := hP_le (H0 := H0) (ob := ob) (show i + 1 ≤ j by omega)
    simp only [hP, ho, List.length_append, Option.toList_some, List.length_cons, List.length_nil] at this
    omega
  ·have : i = j := by omega
   subst this
   rw [ho]; simp
theorem ph_at {L : Array Bool} {i n : Nat} {o : AObj} (hi : i < n) (ho : ob i = some o) : (H0 ++ ph ob L n)[(hP H0 ob i).length]? = some (if L.getD i false = true then o else .free) := by
 induction n with
 | zero => omega
 | succ n ih =>
  simp only [ph]
  rw [← List.append_assoc]
  rcases Nat.lt_or_ge i n with h | h
  ·rw [List.getElem?_append_left]
   ·exact ih h
   ·rw [ph_len]
    have := hP_le (H0 := H0) (ob := ob) (show i + 1 ≤ n by omega)
    simp only [hP, ho, List.length_append, Option.toList_some, List.length_cons, List.length_nil] at this
    omega
  ·have : i = n := by omega
   subst this
   rw [List.getElem?_append_right (by rw [ph_len]; exact Nat.le_refl _), ph_len, Nat.sub_self, ho]
   rfl
theorem hP_cover {l j : Nat} (h1 : H0.length ≤ l) (h2 : l < (hP H0 ob j).length) : ∃ i o, i < j ∧ ob i = some o ∧ l = (hP H0 ob i).length := by
 induction j with
 | zero => simp only [hP] at h2; omega
 | succ j ih =>
  rcases Nat.lt_or_ge l (hP H0 ob j).length with h | h
  ·obtain ⟨i, o, a, b, c⟩ := ih h
   exact ⟨i, o, by omega, b, c⟩
  ·cases ho : ob j with
   | none => simp only [hP, ho, Option.toList_none, List.append_nil] at h2; omega
   | some o =>
    simp only [hP, ho, List.length_append, Option.toList_some, List.length_cons, List.length_nil] at h2
    exact ⟨j, o, by omega, ho, by omega⟩
theorem ph_set_none {L : Array Bool} {j : Nat} (ho : ob j = none) (n : Nat) : ph ob (L.setIfInBounds j true) n = ph ob L n := by
 induction n with
 | zero => rfl
 | succ n ih =>
  simp only [ph, ih]
  by_cases e : j = n
  ·subst e; rw [ho]
  ·rw [getD_set_ne false e]
theorem ph_set_out {L : Array Bool} {j : Nat} (n : Nat) (h : n ≤ j) : ph ob (L.setIfInBounds j true) n = ph ob L n := by
 induction n with
 | zero => rfl
 | succ n ih => simp only [ph, ih (by omega)]; rw [getD_set_ne false (by omega)]
theorem ph_set {L : Array Bool} {j n : Nat} {o : AObj} (hj : j < n) (hL : j < L.size) (ho : ob j = some o) : H0 ++ ph ob (L.setIfInBounds j true) n = (H0 ++ ph ob L n).set (hP H0 ob j).length o := by
 induction n with
 | zero => omega
 | succ n ih =>
  simp only [ph]
  rw [← List.append_assoc, ← List.append_assoc]
  rcases Nat.lt_or_ge j n with h | h
  ·have hlt : (hP H0 ob j).length < (H0 ++ ph ob L n).length := by
    rw [ph_len]
    have := hP_le (H0 := H0) (ob := ob) (show j + 1 ≤ n by omega)
    simp only [hP, ho, List.length_append, Option.toList_some, List.length_cons, List.length_nil] at this
    omega
   rw [ih h, getD_set_ne false (by omega)]
   exact (List.set_append_left _ _ hlt).symm
  ·have : j = n := by omega
   subst this
   rw [ph_set_out j (Nat.le_refl _), ho, List.set_append_right _ _ (by rw [ph_len]; exact Nat.le_refl _), ph_len, Nat.sub_self]
   have hg : (L.setIfInBounds j true).getD j false = true := by simp [hL]
   simp only [hg, if_true]
   split <;> rfl
theorem ph_full {L : Array Bool} {n : Nat} (h : ∀ i, i < n → L.getD i false = true) : H0 ++ ph ob L n = hP H0 ob n := by
 induction n with
 | zero => simp [ph, hP]
 | succ n ih =>
  simp only [ph, hP]
  rw [← List.append_assoc, ih fun i hi => h i (by omega)]
  cases ob n with
  | none => rfl
  | some o => simp only [h n (by omega), if_true]; rfl
/-- some names more, all of them free -/
theorem Sim.frees {base : World} {μ : Nat → Option Nat} {w : World} {H : AHeap} (hs : Sim base ⟨μ, H, w⟩) : ∀ k, Sim base ⟨μ, H ++ List.replicate k .free, w⟩ ∧ Evo H.length ⟨μ, H, w⟩ ⟨μ, H ++ List.replicate k .free, w⟩
 | 0 => by simp only [List.replicate_zero, List.append_nil]; exact ⟨hs, .refl _ _⟩
 | k + 1 => by
  obtain ⟨h1, h2⟩ := Sim.frees hs k
  obtain ⟨h3, h4⟩ := h1.free
  rw [List.replicate_succ', ← List.append_assoc]
  exact ⟨h3, h2.trans (h4.mono (by simp))⟩
theorem ph_empty (k : Nat) (n : Nat) (hk : ∀ i, (Array.replicate k false).getD i false = false) : ∃ m, ph ob (Array.replicate k false) n = List.replicate m .free := by
 induction n with
 | zero => exact ⟨0, rfl⟩
 | succ n ih =>
  obtain ⟨m, hm⟩ := ih
  simp only [ph, hm]
  cases ob n with
  | none => exact ⟨m, by simp⟩
  | some o => exact ⟨m + 1, by rw [hk n]; simp [List.replicate_succ']⟩
/-- a slot behind k operations, if those that write it have run -/
theorem slot_at {a0 : Act} {u : Nat → Value} {s : St} (he : RepL s env0 a0.tmps.toList) {L : Array Bool} (hr : ∀ i, L.getD i false = true → Rep s (r i) (u i)) (t : Tmp) : ∀ k, (∀ i, i < k → dstOf ops i = some t → L.getD i false = true) →
  Rep s ((eP ops env0 r k).getD t .undef) ((lexFrame ops a0 u k).tmps.getD t Go.undef) ∧ (eP ops env0 r k).length = (lexFrame ops a0 u k).tmps.size
 | 0, _ => by
  have hlen := he.length
  refine ⟨?_, by simpa [eP, lexFrame] using hlen⟩
  simp only [eP, lexFrame]
  exact (EnvRep.mk (a := ⟨a0.tmps, []⟩) (MarksOk.nil 0 _) he).slot t
 | k + 1, h => by
  obtain ⟨h1, h2⟩ := slot_at he hr t k fun i hi => h i (by omega)
  simp only [eP, lexFrame, aput, Act.put]
  cases hd : dstOf ops k with
  | none => exact ⟨h1, h2⟩
  | some d =>
   simp only
   refine ⟨?_, by simpa using h2⟩
   by_cases e : d = t
   ·subst e
    have hL := h k (by omega) hd
    by_cases hlt : d < (eP ops env0 r k).length
    ·rw [List.getD_eq_getElem?_getD, List.getElem?_set_self hlt, Array.getD_eq_getD_getElem?, Array.getElem?_setIfInBounds_self_of_lt (Nat.lt_of_lt_of_eq hlt h2)]
     exact hr k hL
    ·rw [List.getD_eq_getElem?_getD, List.getElem?_eq_none (by simpa using Nat.le_of_not_lt hlt)]
     simp [Rep]
   ·rw [List.getD_eq_getElem?_getD, List.getElem?_set_ne (by omega), Array.getD_eq_getD_getElem?, Array.getElem?_setIfInBounds_ne (by omega), ← List.getD_eq_getElem?_getD, ← Array.getD_eq_getD_getElem?]
    exact h1
theorem slot_bel (hb : belL H0.length env0) (t : Tmp) : ∀ k, (∀ i, i < k → (r i).bel (hP H0 ob (i + 1)).length) → ((eP ops env0 r k).getD t .undef).bel (hP H0 ob k).length
 | 0, _ => by
  simp only [eP, hP]
  have : ∀ (l : List AV) (t : Nat), belL H0.length l → (l.getD t .undef).bel H0.length := by
   intro l
   induction l with
   | nil => intro t _; simp [AV.bel]
   | cons a l ih =>
    intro t h
    simp only [belL] at h
    cases t with
    | zero => exact h.1
    | succ t => simpa using ih t h.2
  exact this env0 t hb
 | k + 1, h => by
  have h1 := slot_bel hb t k fun i hi => h i (by omega)
  simp only [eP, aput]
  have up := AV.bel.mono (hP_len (H0 := H0) (ob := ob) k) _ h1
  cases hd : dstOf ops k with
  | none => exact up
  | some d =>
   simp only
   by_cases e : d = t
   ·subst e
    by_cases hlt : d < (eP ops env0 r k).length
    ·rw [List.getD_eq_getElem?_getD, List.getElem?_set_self hlt]
     exact h k (by omega)
    ·rw [List.getD_eq_getElem?_getD, List.getElem?_eq_none (by simpa using Nat.le_of_not_lt hlt)]
     simp [AV.bel]
   ·rw [List.getD_eq_getElem?_getD, List.getElem?_set_ne (by omega), ← List.getD_eq_getElem?_getD]
    exact up
theorem aeval_bel {env : List AV} {n : Nat} (h : ∀ t, (env.getD t .undef).bel n) (x : Operand) : (aeval env x).bel n := by
 unfold aeval
 split
 ·exact h _
 ·simp only [AV.bel]
  rename_i l
  induction l.toList with
  | nil => simp [belL]
  | cons a l ih => simp only [List.map_cons, belL, AV.bel, true_and]; exact ih
 ·simp only [AV.bel]
 ·simp only [AV.bel, belL]; exact ⟨trivial, trivial⟩
 ·simp only [AV.bel]
end
end Av
end Go.Proofs.YtdekcppfpgeneaaGreatDoor
set_option linter.unusedVariables false
set_option linter.unusedSimpArgs false
namespace Go.Proofs.YtdekcppfpgeneaaGreatDoor
open Go Go.RowKit
namespace Av
variable {n0 : Nat}

section
variable {P : Program} {tt : TTab} {base : World} {ops : Array Oper} {md : Region.Mode} {env0 : List AV} {H0 : AHeap} {r : Nat → AV} {ob : Nat → Option AObj}
/-- one operation of the head, whenever it comes -/
theorem head_op (hT : TabOk P tt) {n j : Nat} {o : Oper} (hjn : j < n) (ho : ops[j]? = some o) (hco : o.op.operands.toList.all constOk = true) (hplan : PlanAt ops env0 H0 r ob P tt base j o) (hbel : ∀ i, i < j → (r i).bel (hP H0 ob (i + 1)).length) (hb0 : belL H0.length env0)
  {a0 : Act} {u : Nat → Value} {L : Array Bool} (hLs : j < L.size) (hLj : L.getD j false = false) (hlook : ∀ i d, i < j → dstOf ops i = some d → d ∈ o.looksAt ops → L.getD i false = true)
  {μ : Nat → Option Nat} {w : World} (hs : Sim base ⟨μ, H0 ++ ph ob L n, w⟩) (he : RepL ⟨μ, H0 ++ ph ob L n, w⟩ env0 a0.tmps.toList) (hr : ∀ i, L.getD i false = true → Rep ⟨μ, H0 ++ ph ob L n, w⟩ (r i) (u i))
  {K : Act → World → Prop} {Q : Exit → Act → World → Prop} {a : Act} (hex : execOp a.eval o = execOp (lexFrame ops a0 u j).eval o) (hwa : Region.wanted o (yielded ops a.tmps) = Region.wanted o (yielded ops (lexFrame ops a0 u j).tmps))
  (hK : ∀ v μ' w', Sim base ⟨μ', H0 ++ ph ob (L.setIfInBounds j true) n, w'⟩ → Rep ⟨μ', H0 ++ ph ob (L.setIfInBounds j true) n, w'⟩ (r j) v → Evo (H0 ++ ph ob L n).length ⟨μ, H0 ++ ph ob L n, w⟩ ⟨μ', H0 ++ ph ob (L.setIfInBounds j true) n, w'⟩ → K (a.put o.dst v) w') :
  wpOp P ops Q j K a w := by
 have slot : ∀ d, d ∈ o.looksAt ops → Rep ⟨μ, H0 ++ ph ob L n, w⟩ ((eP ops env0 r j).getD d .undef) ((lexFrame ops a0 u j).tmps.getD d Go.undef) ∧ (eP ops env0 r j).length = (lexFrame ops a0 u j).tmps.size := fun d hd =>
  slot_at he hr d j fun i hi hid => hlook i d hi hid hd
 have hsb : ∀ t, ((eP ops env0 r j).getD t .undef).bel (hP H0 ob j).length := fun t => slot_bel hb0 t j hbel
 have hρ : ∀ x ∈ o.op.operands, Rep ⟨μ, H0 ++ ph ob L n, w⟩ (aeval (eP ops env0 r j) x) ((lexFrame ops a0 u j).eval x) := fun x hx => by
  have hc := List.all_eq_true.1 hco x (by simpa using hx)
  cases x with
  | tmp d => exact (slot d (List.mem_append_left _ (List.mem_filterMap.2 ⟨.tmp d, by simpa using hx, rfl⟩))).1
  | const v =>
   have h1 := (EnvRep.mk (a := ⟨a0.tmps, []⟩) (MarksOk.nil 0 _) he).eval (x := .const v) hc
   rwa [show aeval env0 (.const v) = aeval (eP ops env0 r j) (.const v) by cases v <;> rfl] at h1
  | global g => simp only [aeval, Rep]
  | func f => simp only [aeval, Rep]; exact ⟨_, _, rfl, .nil, .nil⟩
 -- the two heaps say the same of what is held
 have same : ∀ (A : AV) (v : Value), Rep ⟨μ, H0 ++ ph ob L n, w⟩ A v → A.bel (hP H0 ob j).length → ∀ l ∈ A.refs, (H0 ++ ph ob L n)[l]? = (hP H0 ob j)[l]? ∧ l < (hP H0 ob j).length := by
  intro A v hA hAb l hl
  have hlt := bel_refs A hAb l hl
  refine ⟨?_, hlt⟩
  rcases Nat.lt_or_ge l H0.length with h | h
  ·rw [ph_old h, hP_old h]
  ·obtain ⟨i, o', hi, hoi, rfl⟩ := hP_cover h hlt
   obtain ⟨x, hx1, hx2⟩ := Rep.refs A v hA _ hl
   rw [hP_at hi hoi]
   have hx1' : (H0 ++ ph ob L n)[(hP H0 ob i).length]? = some x := hx1
   rw [ph_at (by omega : i < n) hoi] at hx1' ⊢
   by_cases hL : L.getD i false = true
   ·rw [if_pos hL]
   ·rw [if_neg hL] at hx1'
    exact absurd (Option.some.inj hx1').symm hx2
 have run : RunOk ops env0 H0 r ob P tt base j o → o.wp P a w K Q := by
  intro h
  unfold RunOk at h
  split at h
  ·rename_i f args hac
   obtain ⟨h1, h2, h3⟩ := h
   unfold acall at hac
   split at hac
   case h_2 => cases hac
   rename_i c hop
   split at hac
   case h_2 => cases hac
   rename_i fo hcal
   split at hac
   case h_2 => cases hac
   rename_i g first caps hfo
   simp only [Option.some.injEq, Prod.mk.injEq] at hac
   obtain ⟨rfl, rfl⟩ := hac
   have hfm : fo ∈ o.op.operands := by rw [hop]; simp [Op.operands, Call.operands, hcal]
   have hf := hρ fo hfm
   have hfb := aeval_bel hsb fo
   rw [hfo] at hf hfb
   have hf' := hf
   simp only [Rep] at hf
   simp only [AV.bel] at hfb
   obtain ⟨vf, vc, hfv, hf1, hf2⟩ := hf
   have hargs := repL_map c.args.toList (ρ := (lexFrame ops a0 u j).eval) (ρA := aeval (eP ops env0 r j)) (s := ⟨μ, H0 ++ ph ob L n, w⟩) fun x hx => hρ x (by rw [hop]; simp [Op.operands, Call.operands]; exact .inr (by simpa using hx))
   have hrep : RepL ⟨μ, H0 ++ ph ob L n, w⟩ (first ++ c.args.toList.map (aeval (eP ops env0 r j)) ++ caps) (vf ++ c.args.map (lexFrame ops a0 u j).eval ++ vc).toList := by
    simpa using (hf1.append hargs).append hf2
   have hbelA : belL (hP H0 ob j).length (first ++ c.args.toList.map (aeval (eP ops env0 r j)) ++ caps) := by
    have app : ∀ (a b : List AV), belL (hP H0 ob j).length a → belL (hP H0 ob j).length b → belL (hP H0 ob j).length (a ++ b) := by
     intro a
     induction a with
     | nil => intro b _ h; exact h
     | cons x a ih => intro b h k; simp only [List.cons_append, belL] at h ⊢; exact ⟨h.1, ih b h.2 k⟩
    refine app _ _ (app _ _ hfb.1 ?_) hfb.2
    generalize c.args.toList = xs
    induction xs with
    | nil => simp [belL]
    | cons x xs ih => simp only [List.map_cons, belL]; exact ⟨aeval_bel hsb x, ih⟩
   have hC := h1 (H0 ++ ph ob L n) fun l hl => by
    rcases hl with hl | hl
    ·rw [ph_old hl, hP_old hl]
    have := same (.agg (first ++ c.args.toList.map (aeval (eP ops env0 r j)) ++ caps)) (.agg (vf ++ c.args.map (lexFrame ops a0 u j).eval ++ vc)) (by simp only [Rep]; exact ⟨_, rfl, hrep⟩) (by simp only [AV.bel]; exact hbelA) l (by simpa only [AV.refs] using hl)
    exact this.1
   have hrun : (execOp (lexFrame ops a0 u j).eval o).run P w = .ok (.enter g (vf ++ c.args.map (lexFrame ops a0 u j).eval ++ vc)) w := by
    obtain ⟨callee, cargs, cts⟩ := c
    simp only at hcal
    subst hcal
    unfold execOp
    rw [hop]
    simp only [resolve, hfv, Deferred.ofValue, Sem.run_bind, Sem.run_pure, Result.andThen_ok, invoke, hC.enter]
   unfold Oper.wp
   rw [hex, hrun, Oper.upon_enter]
   refine (hC.run μ w _ hs hrep).mono ?_
   rintro e w' ⟨v, r', H', μ', rfl, ⟨rfl, rfl⟩, k2, k3, k4, k5⟩
   refine hK v μ' w' ?_ ?_ ?_
   ·rw [ph_set_none h2]; exact k3
   ·rw [ph_set_none h2]; exact k4
   ·rw [ph_set_none h2]; exact k5
  ·obtain ⟨hh, hst, _⟩ := h
   have hloc : ∀ x ∈ o.op.operands, ∀ l, (aeval (eP ops env0 r j) x).ref = some l → (H0 ++ ph ob L n)[l]? = (hP H0 ob j)[l]? ∧ l < (hP H0 ob j).length := fun x hx l hl =>
    same _ _ (hρ x hx) (aeval_bel hsb x) l (ref_refs hl)
   unfold headStep at hst
   split at hst
   ·rename_i hal
    split at hst
    case h_2 => cases hst
    rename_i r' l' ob' hao
    split at hst
    case isFalse => cases hst
    rename_i hl'
    subst hl'
    have hx := Option.some.inj hst
    have hms : ∀ t k ps, o.op = .buildSlice t k ps → ∃ m, r' = .ms (hP H0 ob j).length 0 m := fun t k ps e => by
     rw [e] at hao
     exact ⟨_, aBuild_ms hao⟩
    obtain ⟨ob2, hob⟩ : ∃ ob2, ob j = some ob2 := by
     obtain ⟨o2, h2, _⟩ := hfz_ok (base := base) (s0 := ⟨μ, [], w⟩) (N := 0) (S := (hP H0 ob j) ++ [.free]) (n := (hP H0 ob j).length) (by simp) hx hms
     exact ⟨o2, h2⟩
    have hao2 : aop tt (H0 ++ ph ob L n) (hP H0 ob j).length (aeval (eP ops env0 r j)) o.op = some (r', some ((hP H0 ob j).length, ob')) := by
     rw [← hao]
     refine aop_loc hh fun x hx l hl => ?_
     have := hloc x hx l hl
     rw [this.1, List.getElem?_append_left this.2]
    have hfree : (H0 ++ ph ob L n)[(hP H0 ob j).length]? = some .free := by
     rw [ph_at hjn hob, if_neg (by rw [hLj]; simp)]
    obtain ⟨ob3, hob3, hfix⟩ := hfz_ok (base := base) (s0 := ⟨μ, H0 ++ ph ob L n, w⟩) (N := (H0 ++ ph ob L n).length) (S := H0 ++ ph ob L n) (n := (hP H0 ob j).length) (lt_of_get hfree) hx hms
    obtain rfl : ob2 = ob3 := Option.some.inj (hob.symm.trans hob3)
    obtain ⟨nx, v, w', μ', k1, k2, k3, k4, k5⟩ := aop_sound hT hs (o := o) hρ (fun _ => hfree) hao2
    simp only [putO] at k3 k4 k5
    obtain ⟨k3, k4, k5⟩ := hfix _ _ _ k3 k4 k5
    rw [← ph_set hjn hLs hob] at k3 k4 k5
    have hfin := hK v μ' w' k3 k4 k5
    unfold Oper.wp
    rw [hex, k1]
    rcases k2 with rfl | ⟨rfl, rfl⟩
    ·exact hfin
    ·exact hfin
   ·rename_i hal
    split at hst
    case h_2 => cases hst
    rename_i r' hao
    simp only [Option.some.injEq, Prod.mk.injEq] at hst
    obtain ⟨e1, e2⟩ := hst
    subst e1
    have hob : ob j = none := e2.symm
    have hao2 : aop tt (H0 ++ ph ob L n) 0 (aeval (eP ops env0 r j)) o.op = some (r j, none) := by
     rw [← hao]
     exact aop_loc hh fun x hx l hl => (hloc x hx l hl).1
    obtain ⟨nx, v, w', μ', k1, k2, k3, k4, k5⟩ := aop_sound hT hs (o := o) hρ (fun h => absurd h hal) hao2
    simp only [putO] at k3 k4 k5
    have hfin := hK v μ' w' (by rw [ph_set_none hob]; exact k3) (by rw [ph_set_none hob]; exact k4) (by rw [ph_set_none hob]; exact k5)
    unfold Oper.wp
    rw [hex, k1]
    rcases k2 with rfl | ⟨rfl, rfl⟩
    ·exact hfin
    ·exact hfin
 unfold wpOp
 rw [ho]
 simp only
 rw [hwa]
 unfold PlanAt at hplan
 cases hg : o.guard with
 | none =>
  rw [hg] at hplan
  simp only [Region.wanted, hg, if_true]
  exact .inl (run hplan)
 | some gw =>
  obtain ⟨g, want⟩ := gw
  rw [hg] at hplan
  obtain ⟨y, hy, hpl⟩ := hplan
  have hy2 : yielded ops (lexFrame ops a0 u j).tmps g = y := by
   unfold yieldedA at hy
   unfold yielded
   cases hd : (ops[g]?).bind (·.dst) with
   | none => rw [hd] at hy; cases hy
   | some d =>
    rw [hd] at hy
    simp only at hy
    have hs1 := slot d (by simp [Oper.looksAt, hg, hd])
    split at hy
    ·rename_i b' hb
     simp only [Option.some.injEq] at hy
     subst hy
     obtain ⟨h1, h2⟩ := hs1
     rw [hb] at h1
     simp only [Rep, PRep] at h1
     have hlt : d < (lexFrame ops a0 u j).tmps.size := by
      refine Nat.lt_of_not_le fun hge => ?_
      rw [List.getD_eq_getElem?_getD, List.getElem?_eq_none (Nat.le_trans (Nat.le_of_eq h2) hge)] at hb
      simp at hb
     have h3 := h1.1
     rw [Array.getD_eq_getD_getElem?, Array.getElem?_eq_getElem hlt] at h3
     simp only [Option.bind_some, Array.getElem?_eq_getElem hlt]
     simp only [Option.getD_some] at h3
     rw [h3]
    ·rename_i c hb
     simp only [Option.some.injEq] at hy
     subst hy
     obtain ⟨h1, h2⟩ := hs1
     rw [hb] at h1
     simp only [Rep, PRep] at h1
     have hlt : d < (lexFrame ops a0 u j).tmps.size := by
      refine Nat.lt_of_not_le fun hge => ?_
      rw [List.getD_eq_getElem?_getD, List.getElem?_eq_none (Nat.le_trans (Nat.le_of_eq h2) hge)] at hb
      simp at hb
     have h3 := h1.1
     rw [Array.getD_eq_getD_getElem?, Array.getElem?_eq_getElem hlt] at h3
     simp only [Option.bind_some, Array.getElem?_eq_getElem hlt]
     simp only [Option.getD_some] at h3
     rw [h3]
    ·cases hy
  simp only [Region.wanted, hg, hy2]
  rw [wantB_eq] at hpl
  rcases hpl with ⟨hb, hrun⟩ | ⟨hb, h1, h2⟩
  ·rw [if_pos hb]
   exact .inl (run hrun)
  ·rw [if_neg hb]
   refine hK Go.undef μ w (by rw [ph_set_none h2]; exact hs) (by rw [h1]; simp only [skipV, Rep, PRep]; exact ⟨rfl, trivial⟩) (by rw [ph_set_none h2]; exact .refl _ _)
/-- operations that may slip: they only move a slot that nothing writes, and wait for nothing -/
def sinkK (ops : Array Oper) (n : Nat) (ks : List Nat) : Bool :=
 (List.range n).all fun i => ks.contains i || (List.range (n + 1)).any fun j => decide (i < j) && Region.waitsFor .any ops j i
def slipB (ops : Array Oper) (n : Nat) : List Nat → Array Bool → Bool
 | [], _ => true
 | k :: ks, L => decide (k < n) && (match ops[k]? with
  | some o => (match o.op, o.guard with
   | .move (.tmp t), none => (List.range ops.size).all fun i => dstOf ops i != some t
   | _, _ => false)
  | none => false) && (Region.ready .any ops L).contains k && Region.free .any ops L k && slipB ops n ks (L.setIfInBounds k true)
def tailK (ops : Array Oper) (n : Nat) (ks : List Nat) : Bool :=
 (n == ops.size || (sinkK ops n ks && Region.chainB .any ops n)) && Region.seqB .any ops (ops.size - n) n (headL ops n)
theorem tailK_of {n : Nat} (h : tailB .any ops n = true) : tailK ops n [] = true := by
 simp only [tailB, tailK, Bool.and_eq_true, Bool.or_eq_true] at h ⊢
 refine ⟨h.1.imp id fun k => ⟨?_, k.2⟩, h.2⟩
 have := k.1
 unfold Region.sinkB at this
 unfold sinkK
 rw [List.all_eq_true] at this ⊢
 intro i hi
 rw [this i hi]
 simp
theorem tail_waitsK {n : Nat} {ks : List Nat} {listed : Array Bool} (hs : sinkK ops n ks = true) (hc : Region.chainB .any ops n = true) (hn : n < ops.size) (inv : HeadInv .any ops n listed) (hks : ∀ k ∈ ks, listed.getD k false = true) :
  ∀ (d i : Nat), n - i = d → i < n → listed.getD i true = false → ∀ t, n ≤ t → t ∉ Region.ready .any ops listed := by
 intro d
 induction d using Nat.strongRecOn with
 | _ d ih =>
  intro i hd hi hun t ht hr
  obtain ⟨_, ot, hot, hall⟩ := mem_ready.1 hr
  have htlt : t < ops.size := (Array.getElem?_eq_some_iff.1 hot).1
  by_cases htn : t = n
  ·subst htn
   have h1 := List.all_eq_true.1 hs i (List.mem_range.2 hi)
   simp only [Bool.or_eq_true, List.contains_iff_mem] at h1
   rcases h1 with h1 | h1
   ·have := hks i h1
    rw [getD_both hun] at this
    cases this
   obtain ⟨j, hj, hj2⟩ := List.any_eq_true.1 h1
   simp only [Bool.and_eq_true, decide_eq_true_eq] at hj2
   obtain ⟨oj, hoj, e, he, hb, hon⟩ := Region.waitsFor_spec hj2.2
   have hjle : j ≤ t := by have := List.mem_range.1 hj; omega
   by_cases hjt : j = t
   ·subst hjt
    have : oj = ot := Option.some.inj (hoj.symm.trans hot)
    subst this
    have h2 := hall e he hb
    rw [hon, getD_both hun] at h2
    cases h2
   ·cases hl : listed.getD j false with
    | true =>
     have h2 := inv.closed j oj hoj hl e he hb
     rw [hon, getD_both hun] at h2
     cases h2
    | false =>
     have hjs : j < listed.size := by rw [inv.size]; omega
     exact ih (t - j) (by omega) j rfl (by omega) (getD_in hjs hl) t (Nat.le_refl _) hr
  ·have h1 := List.all_eq_true.1 hc t (List.mem_range.2 htlt)
   simp only [Bool.or_eq_true, decide_eq_true_eq] at h1
   rcases h1 with h1 | h1
   ·omega
   ·obtain ⟨o', ho', e, he, hb, hon⟩ := Region.waitsFor_spec h1
    have : o' = ot := Option.some.inj (ho'.symm.trans hot)
    subst this
    have h2 := hall e he hb
    rw [hon, getD_both (inv.tail (t - 1) (by omega) (by omega))] at h2
    cases h2
/-- the head in any order, then the tail -/
theorem heads_any (hT : TabOk P tt) (hm : P.follows .mixedOrders = true) (hc : opsConst ops = true) {n : Nat} {ks : List Nat} (hF : KindFacts .any ops n) (hTl : tailK ops n ks = true) (hb0 : belL H0.length env0)
  (hplan : ∀ j o, j < n → ops[j]? = some o → PlanAt ops env0 H0 r ob P tt base j o) (hbel : ∀ i, i < n → (r i).bel (hP H0 ob (i + 1)).length) {a0 : Act} {Q : Exit → Act → World → Prop} (s0 : St) (N : Nat) (hN : N ≤ H0.length)
  (hend : ∀ (u : Nat → Value) (μ : Nat → Option Nat) (w : World), Sim base ⟨μ, hP H0 ob n, w⟩ → EnvRep n0 ⟨μ, hP H0 ob n, w⟩ (eP ops env0 r n) (lexFrame ops a0 u n) → Evo N s0 ⟨μ, hP H0 ob n, w⟩ → wpAny P .any ops Q (ops.size - n) (headL ops n) (lexFrame ops a0 u n) w) :
  ∀ (m : Nat) (L : Array Bool) (u : Nat → Value) (a : Act) (μ : Nat → Option Nat) (w : World), unl L n = m → HeadInv .any ops n L → (∀ k ∈ ks, L.getD k false = true) → FrameAt ops a0 u (fun i => i < n ∧ L.getD i false = true) a →
   Sim base ⟨μ, H0 ++ ph ob L n, w⟩ → MarksOk n0 ⟨μ, H0 ++ ph ob L n, w⟩ a0.defers → RepL ⟨μ, H0 ++ ph ob L n, w⟩ env0 a0.tmps.toList → (∀ i, L.getD i false = true → Rep ⟨μ, H0 ++ ph ob L n, w⟩ (r i) (u i)) → Evo N s0 ⟨μ, H0 ++ ph ob L n, w⟩ → wpAny P .any ops Q (m + (ops.size - n)) L a w := by
 simp only [tailK, Bool.and_eq_true, Bool.or_eq_true, beq_iff_eq] at hTl
 obtain ⟨hT1, hT2⟩ := hTl
 intro m
 induction m with
 | zero =>
  intro L u a μ w hm' inv hks hf hs hd0 he hr hev
  have hall := unl_zero L n hm'
  have hle := hF.le
  have hL : L = headL ops n := by
   apply Array.ext
   ·rw [inv.size]; simp [headL]
   ·intro i h1 h2
    by_cases hin : i < n
    ·have := hall i hin
     simp [h1] at this
     simp [headL, hin, this]
    ·have := inv.tail i (by omega) (by rw [← inv.size]; exact h1)
     simp [h1] at this
     simp [headL, hin, this]
  have ht : ∀ i, i < n → L.getD i false = true := fun i hi => by
   have h1 := hall i hi
   have : i < L.size := by rw [inv.size]; omega
   simp [this] at h1 ⊢
   exact h1
  have ha : a = lexFrame ops a0 u n := hf.eq (lexFrame_at hF a0 u n (Nat.le_refl _)) fun i => ⟨fun h => h.1, fun h => ⟨h, ht i h⟩⟩
  rw [Nat.zero_add, ha, hL]
  rw [ph_full ht] at hs hd0 he hr hev
  refine hend u μ w hs ⟨?_, ?_⟩ hev
  ·rw [← ha, hf.defers]; exact hd0
  ·have : ∀ k, k ≤ n → RepL ⟨μ, hP H0 ob n, w⟩ (eP ops env0 r k) (lexFrame ops a0 u k).tmps.toList := by
    intro k
    induction k with
    | zero => intro _; exact he
    | succ k ih =>
     intro hk
     have h1 := ih (by omega)
     simp only [eP, lexFrame, aput, Act.put]
     cases hd : dstOf ops k with
     | none => exact h1
     | some d =>
      simp only [Array.toList_setIfInBounds]
      exact RepL.set (hr k (ht k (by omega))) d h1
   exact this n (Nat.le_refl _)
 | succ m ih =>
  intro L u a μ w hm' inv hks hf hs hd0 he hr hev
  have hle := hF.le
  obtain ⟨i0, hi0, hu0, hlow⟩ : ∃ i, i < n ∧ L.getD i true = false ∧ ∀ k, k < i → L.getD k true = true := by
   rcases listed_count n L n (Nat.le_refl _) with h | h
   ·exfalso
    have : ∀ k, k ≤ n → unl L k = 0 := by
     intro k
     induction k with
     | zero => intro _; rfl
     | succ k ihk => intro hk; rw [unl, ihk (by omega), h k (by omega)]; rfl
    rw [this n (Nat.le_refl _)] at hm'
    omega
   ·exact h
  have hready : i0 ∈ Region.ready .any ops L := by
   have ho : ops[i0]? = some ops[i0] := Array.getElem?_eq_getElem (by omega)
   refine mem_ready.2 ⟨hu0, _, ho, fun e he hb => ?_⟩
   have h1 := hF.edge i0 _ hi0 ho e he hb
   have h2 := hlow e.on h1
   have : e.on < L.size := by rw [inv.size]; omega
   simp [this] at h2 ⊢
   exact h2
  rw [show m + 1 + (ops.size - n) = (m + (ops.size - n)) + 1 by omega]
  refine ⟨fun h0 => (by rw [h0] at hready; cases hready), fun j hj => ?_⟩
  have hjn : j < n := by
   obtain ⟨_, oj, hoj, _⟩ := mem_ready.1 hj
   have hjs := (Array.getElem?_eq_some_iff.1 hoj).1
   rcases hT1 with h | h
   ·omega
   ·rcases Nat.lt_or_ge j n with h' | h'
    ·exact h'
    ·exact absurd hj (tail_waitsK h.1 h.2 (by omega) inv hks _ i0 rfl hi0 hu0 j h')
  obtain ⟨hjun, oj, hoj, hall⟩ := mem_ready.1 hj
  have hj0 : ¬ L.getD j false = true := by rw [getD_both hjun]; simp
  have hwait : ∀ i, Region.waitsFor .any ops j i = true → L.getD i false = true := fun i hi => by
   obtain ⟨o', ho', e, he, hb, hon⟩ := Region.waitsFor_spec hi
   have : o' = oj := Option.some.inj (ho'.symm.trans hoj)
   subst this
   rw [← hon]
   exact hall e he hb
  have hlex := lexFrame_at hF a0 u j (by omega)
  have hsame : ∀ d, d ∈ oj.looksAt ops → a.tmps[d]? = (lexFrame ops a0 u j).tmps[d]? := fun d hd => by
   by_cases hx : ∃ i, i < n ∧ dstOf ops i = some d
   ·obtain ⟨i, hi, hid⟩ := hx
    have h1 := hF.look i j hi hjn d oj hid hoj hd
    have h2 := hwait i h1.2
    rw [hf.new i d ⟨hi, h2⟩ hid, hlex.new i d h1.1 hid]
   ·rw [hf.old d fun i hi hid => hx ⟨i, hi.1, hid⟩, hlex.old d fun i hi hid => hx ⟨i, by omega, hid⟩]
  have hsel := Region.noSelect_spec hF.sel j
  have hex : execOp a.eval oj = execOp (lexFrame ops a0 u j).eval oj := exec_congr (ops := ops) (fun cs b => hsel oj cs b hoj) hsame
  have hwa : Region.wanted oj (yielded ops a.tmps) = Region.wanted oj (yielded ops (lexFrame ops a0 u j).tmps) := wanted_congr hsame
  have hmem : oj ∈ ops.toList := List.mem_of_getElem? (by simpa using hoj)
  have hjs : j < L.size := by rw [inv.size]; omega
  refine head_op hT hjn hoj (List.all_eq_true.1 hc oj hmem) (hplan j oj hjn hoj) (fun i hi => hbel i (by omega)) hb0 hjs (getD_both hjun) (fun i d hi hid hd => hwait i (hF.look i j (by omega) hjn d oj hid hoj hd).2) hs he hr hex hwa ?_
  intro v μ' w' k1 k2 k3
  have hu' := unl_set L j hjun n
  have hNl : N ≤ (H0 ++ ph ob L n).length := by simp only [List.length_append]; omega
  refine ih (L.setIfInBounds j true) (Go.Proofs.YtdekcppfpgeneaaGreatDoor.upd u j v) (a.put oj.dst v) μ' w' (by have := hu'.1 hjn; omega) (inv.set hj hjn) (fun k hk => getD_set_true (hks k hk)) ?_ k1 (hd0.keeps k3.keeps) (RepL.evo k3 _ _ he) (fun i hLi => ?_) (hev.trans (k3.mono hNl))
  ·have h1 : FrameAt ops a0 (Go.Proofs.YtdekcppfpgeneaaGreatDoor.upd u j v) (fun i => i < n ∧ L.getD i false = true) a := hf.congr fun i hi => by
    rw [Go.Proofs.YtdekcppfpgeneaaGreatDoor.upd_ne u v fun e => hj0 (by rw [← e]; exact hi.2)]
   have h2 := h1.put (T := fun i => i < n ∧ (L.setIfInBounds j true).getD i false = true) j (fun i hi d hd => fun e => hF.apart i j hi.1 hjn (fun e' => hj0 (by rw [← e']; exact hi.2)) d e hd) (fun i => by
    by_cases e : j = i
    ·subst e
     simp [hjs, hjn]
    ·rw [getD_set_ne false e]
     constructor
     ·exact fun h => .inl h
     ·rintro (h | h)
      ·exact h
      ·exact absurd h.symm e)
   rw [Go.Proofs.YtdekcppfpgeneaaGreatDoor.upd_same, dstOf_some hoj] at h2
   exact h2
  ·by_cases e : j = i
   ·subst e; rw [Go.Proofs.YtdekcppfpgeneaaGreatDoor.upd_same]; exact k2
   ·rw [getD_set_ne false e] at hLi
    rw [Go.Proofs.YtdekcppfpgeneaaGreatDoor.upd_ne u v (Ne.symm e)]
    exact Rep.evo k3 _ _ (hr i hLi)
end
section
variable {P : Program} {tt : TTab} {base : World} {ops : Array Oper} {env0 : List AV} {H0 : AHeap} {r : Nat → AV} {ob : Nat → Option AObj}
theorem eP_get {t : Nat} : ∀ {k : Nat}, (∀ i, i < k → dstOf ops i ≠ some t) → (eP ops env0 r k).getD t .undef = env0.getD t .undef
 | 0, _ => rfl
 | k + 1, h => by
  simp only [eP]
  rw [← eP_get (k := k) fun i hi => h i (by omega)]
  cases hd : dstOf ops k with
  | none => rfl
  | some d =>
   have hne : d ≠ t := fun e => h k (by omega) (by rw [hd, e])
   simp only [aput, List.getD_eq_getElem?_getD, List.getElem?_set_ne hne]
theorem slips_any {Q : Exit → Act → World → Prop} (hp : ∀ c a w, ¬ Q (.panic c) a w) {n : Nat} (hF : KindFacts .any ops n)
  (hplan : ∀ j o, j < n → ops[j]? = some o → PlanAt ops env0 H0 r ob P tt base j o) {a0 : Act} {μ : Nat → Option Nat} {w : World} (f : Nat)
  (he : RepL ⟨μ, H0 ++ ph ob (Array.replicate ops.size false) n, w⟩ env0 a0.tmps.toList) :
  ∀ (ks : List Nat) (L : Array Bool) (u : Nat → Value) (a : Act), slipB ops n ks L = true → ph ob L n = ph ob (Array.replicate ops.size false) n → HeadInv .any ops n L → FrameAt ops a0 u (fun i => i < n ∧ L.getD i false = true) a →
   (∀ i, L.getD i false = true → Rep ⟨μ, H0 ++ ph ob (Array.replicate ops.size false) n, w⟩ (r i) (u i)) →
   (∀ (L' : Array Bool) (u' : Nat → Value) (a' : Act), ph ob L' n = ph ob (Array.replicate ops.size false) n → HeadInv .any ops n L' → FrameAt ops a0 u' (fun i => i < n ∧ L'.getD i false = true) a' →
    (∀ i, L'.getD i false = true → Rep ⟨μ, H0 ++ ph ob (Array.replicate ops.size false) n, w⟩ (r i) (u' i)) → (∀ k ∈ ks, L'.getD k false = true) → (∀ k, L.getD k false = true → L'.getD k false = true) → wpAny P .any ops Q (unl L' n + (ops.size - n)) L' a' w) →
   wpAny P .any ops Q (unl L n + (ops.size - n)) L a w
 | [], L, u, a, _, hph, inv, hf, hr, hk => hk L u a hph inv hf hr (fun _ h => by cases h) fun _ h => h
 | k :: ks, L, u, a, hB, hph, inv, hf, hr, hk => by
  simp only [slipB, Bool.and_eq_true, decide_eq_true_eq] at hB
  obtain ⟨⟨⟨⟨hkn, hmv⟩, hrd⟩, hfr⟩, hB⟩ := hB
  have hks : k < ops.size := by have := hF.le; omega
  have ho : ops[k]? = some ops[k] := Array.getElem?_eq_getElem hks
  rw [ho] at hmv
  simp only at hmv
  generalize hok : ops[k] = o at ho hmv
  split at hmv
  case h_2 => cases hmv
  rename_i t hop hgu
  have hnot : ∀ i, i < ops.size → dstOf ops i ≠ some t := fun i hi => by
   have := List.all_eq_true.1 hmv i (List.mem_range.2 hi)
   simpa using this
  have hready : k ∈ Region.ready .any ops L := by simpa using hrd
  have hun := (mem_ready.1 hready).1
  -- what it yields
  have hat : a.tmps[t]? = a0.tmps[t]? := hf.old t fun i hi hid => hnot i (by have := hF.le; omega) hid
  have hrk : r k = env0.getD t .undef ∧ ob k = none := by
   have h1 := hplan k o hkn ho
   unfold PlanAt at h1
   rw [hgu] at h1
   simp only at h1
   unfold RunOk at h1
   rw [hop] at h1
   simp only [acall, headStep, allocs, aop, Bool.false_eq_true, if_false, Option.some.injEq, Prod.mk.injEq, aeval] at h1
   rw [eP_get fun i hi => hnot i (by omega)] at h1
   exact ⟨h1.2.1.1.symm, h1.2.1.2.symm⟩
  have hv : Rep ⟨μ, H0 ++ ph ob (Array.replicate ops.size false) n, w⟩ (r k) (a.eval (.tmp t)) := by
   rw [hrk.1]
   have h1 := (EnvRep.mk (a := ⟨a0.tmps, []⟩) (MarksOk.nil 0 _) he).slot t
   have e : a.eval (.tmp t) = a0.tmps.getD t Go.undef := by
    show a.tmps.getD t Go.undef = _
    simp only [Array.getD_eq_getD_getElem?, hat]
   rw [e]
   exact h1
  have hu' := unl_set L k hun n
  have e1 : unl L n = unl (L.setIfInBounds k true) n + 1 := by have := hu'.1 hkn; omega
  rw [e1, show unl (L.setIfInBounds k true) n + 1 + (ops.size - n) = (unl (L.setIfInBounds k true) n + (ops.size - n)) + 1 by omega]
  refine wpAny_take ho hF.sel hfr hrd (fun c a w h => absurd h (hp c _ w)) (v := a.eval (.tmp t)) (.inl ⟨by simp [Region.wanted, hgu], fun w => by unfold execOp; rw [hop]; rfl⟩) ?_
  have hkL : k < L.size := by rw [inv.size]; exact hks
  refine slips_any hp hF hplan f he ks _ (Go.Proofs.YtdekcppfpgeneaaGreatDoor.upd u k (a.eval (.tmp t))) _ hB (by rw [ph_set_none hrk.2]; exact hph) (inv.set hready hkn) ?_ (fun i hLi => ?_) fun L' u' a' q1 q2 q3 q4 q5 q6 => hk L' u' a' q1 q2 q3 q4 (fun x hx => ?_) fun x hx => q6 x (getD_set_true hx)
  ·have hj0 : ¬ L.getD k false = true := by rw [getD_both hun]; simp
   have h1 : FrameAt ops a0 (Go.Proofs.YtdekcppfpgeneaaGreatDoor.upd u k (a.eval (.tmp t))) (fun i => i < n ∧ L.getD i false = true) a := hf.congr fun i hi => by
    rw [Go.Proofs.YtdekcppfpgeneaaGreatDoor.upd_ne u _ fun e => hj0 (by rw [← e]; exact hi.2)]
   have h2 := h1.put (T := fun i => i < n ∧ (L.setIfInBounds k true).getD i false = true) k (fun i hi d hd => fun e => hF.apart i k hi.1 hkn (fun e' => hj0 (by rw [← e']; exact hi.2)) d e hd) (fun i => by
    by_cases e : k = i
    ·subst e
     simp [hkL, hkn]
    ·rw [getD_set_ne false e]
     constructor
     ·exact fun h => .inl h
     ·rintro (h | h)
      ·exact h
      ·exact absurd h.symm e)
   rw [Go.Proofs.YtdekcppfpgeneaaGreatDoor.upd_same, dstOf_some ho] at h2
   exact h2
  ·by_cases e : k = i
   ·subst e; rw [Go.Proofs.YtdekcppfpgeneaaGreatDoor.upd_same]; exact hv
   ·rw [getD_set_ne false e] at hLi
    rw [Go.Proofs.YtdekcppfpgeneaaGreatDoor.upd_ne u _ (Ne.symm e)]
    exact hr i hLi
  ·rcases List.mem_cons.1 hx with rfl | hx
   ·exact q6 x (by simp [hkL])
   ·exact q5 x hx
end
theorem aw_drawK {X : Ctx} {Q : Exit → List AV → AHeap → Prop} {env : List AV} {H : AHeap} {id : Nat} {ops : Array Oper} (n : Nat) (ks : List Nat) (hT : TabOk X.P X.tt) (hm : X.P.follows .mixedOrders = true) (hc : regOk ops = true) (hB : kindB .any ops n = true) (hTl : tailK ops n ks = true) (hS : slipB ops n ks (Array.replicate ops.size false) = true)
  (h : AHOps X.P X.tt X.base H.length ops (ops.toList.take n) env H fun env' H' => AOps X.P X.tt X.base ops (ops.toList.drop n) env' H' fun env H => Q .normal env H) : AW X (.region id ops true) Q env H := by
 intro s0 μ a w hN hs he hev
 have hF := kindB_facts hB
 have hle := hF.le
 have hb0 : belL H.length env := RepL.bel (s := ⟨μ, H, w⟩) _ _ he.rep
 have hlen : (ops.toList.take n).length = n := by rw [List.length_take, Array.length_toList]; omega
 obtain ⟨r, ob, _, hplan, hK⟩ := ahops_plan (ops := ops) (env0 := env) (H0 := H) (ops.toList.take n) 0 (fun _ => .undef) (fun _ => none) (fun j hj => by
  rw [hlen] at hj
  rw [List.getElem?_take_of_lt hj, Nat.zero_add]; simp) h
 rw [hlen, Nat.zero_add] at hK hplan
 have hplan' : ∀ j o, j < n → ops[j]? = some o → PlanAt ops env H r ob X.P X.tt X.base j o := fun j o hj ho => hplan j o (Nat.zero_le _) hj ho
 have hbel : ∀ i, i < n → (r i).bel (hP H ob (i + 1)).length := fun i hi => by
  have ho : ops[i]? = some ops[i] := Array.getElem?_eq_getElem (by omega)
  have hp := hplan' i _ hi ho
  have run : RunOk ops env H r ob X.P X.tt X.base i ops[i] → (r i).bel (hP H ob (i + 1)).length := fun h => by
   unfold RunOk at h
   split at h
   ·exact AV.bel.mono (hP_len i) _ h.2.2
   ·exact h.2.2
  unfold PlanAt at hp
  split at hp
  ·exact run hp
  ·obtain ⟨b, _, hp⟩ := hp
   rcases hp with ⟨_, hp⟩ | ⟨_, hp, _⟩
   ·exact run hp
   ·rw [hp]; simp only [skipV, AV.bel]
 have hw : Sim X.base ⟨μ, H, { w with drawn := w.drawn + 1 }⟩ ∧ Evo H.length ⟨μ, H, w⟩ ⟨μ, H, { w with drawn := w.drawn + 1 }⟩ := hs.heapEq rfl rfl rfl rfl
 obtain ⟨k, hk⟩ := ph_empty (ob := ob) ops.size n (fun i => getD_replicate_false _ _)
 obtain ⟨f1, f2⟩ := Sim.frees hw.1 k
 have hev1 := hw.2.trans f2
 have hev2 : Evo X.N s0 ⟨μ, H ++ List.replicate k .free, { w with drawn := w.drawn + 1 }⟩ := hev.trans (hev1.mono hN)
 let Q0 : Exit → Act → World → Prop := fun x a w => x = .normal ∧ APost X s0 Q x a w
 refine Go.wpIn_mono (Q := Q0) (wpIn_region_any hm (anyA_in (regOk_d hc) (fun ⟨a, w, h⟩ => by cases h.1) _ _ _ _ ?_)) fun x a w h => h.2
 have h1 := slips_any (P := X.P) (tt := X.tt) (base := X.base) (ops := ops) (env0 := env) (H0 := H) (r := r) (ob := ob) (Q := Q0) (fun c a w h => by cases h.1) hF hplan' (a0 := a) (μ := μ) (w := { w with drawn := w.drawn + 1 }) 0 (by rw [hk]; exact RepL.evo hev1 _ _ he.rep) ks
  (Array.replicate ops.size false) (fun _ => Go.undef) a hS rfl ⟨by simp, (fun j oj _ hl => by rw [getD_replicate_false] at hl; cases hl), (fun t ht htl => by simp [htl])⟩
  (FrameAt.nil (fun i hi => by rw [getD_replicate_false] at hi; exact absurd hi.2 (by decide))) (fun i hi => by rw [getD_replicate_false] at hi; cases hi)
  fun L' u' a' q1 q2 q3 q4 q5 _ => heads_any (P := X.P) (tt := X.tt) (base := X.base) (ops := ops) (env0 := env) (H0 := H) (r := r) (ob := ob) (a0 := a) (Q := Q0) (ks := ks) (n0 := flr X.rd s0) hT hm (regOk_c hc) hF hTl hb0 hplan' hbel s0 X.N hN
  (fun u μ w hs he hev => by
   have hT' := hTl
   simp only [tailK, Bool.and_eq_true] at hT'
   have hNn : X.N ≤ (hP H ob n).length := Nat.le_trans hN (hP_base n)
   have ht := aops_wp hT (regOk_c hc) (Q := Q0) s0 X.N (fun env H μ w a h hN hs he hev => ⟨rfl, μ, env, H, h, hN, hs, he, hev⟩) (ops.toList.drop n) n rfl _ _ μ w _ hK hNn hs he hev
   rw [wpOps_eq_wpList _ n (fun j => by simp [List.getElem?_drop])] at ht
   have := wpAny_of_seq (P := X.P) (md := .any) (ops := ops) (Q' := Q0) (ops.toList.drop n) n (headL ops n) _ w (fun j => by simp [List.getElem?_drop]) (by rw [List.length_drop, Array.length_toList]; exact hT'.2) ht
   rw [List.length_drop, Array.length_toList] at this
   exact this)
  (unl L' n) L' u' a' μ _ rfl q2 q5 q3 (by rw [q1, hk]; exact f1) (by rw [q1, hk]; exact he.defers.keeps hev1.keeps) (by rw [q1, hk]; exact RepL.evo hev1 _ _ he.rep) (fun i hi => by rw [q1]; exact q4 i hi) (by rw [q1, hk]; exact hev2)
 rw [unl_new _ n hF.le] at h1
 have e : n + (ops.size - n) = ops.size := by omega
 rw [e] at h1
 exact h1
theorem aw_draw {X : Ctx} {Q : Exit → List AV → AHeap → Prop} {env : List AV} {H : AHeap} {id : Nat} {ops : Array Oper} (n : Nat) (hT : TabOk X.P X.tt) (hm : X.P.follows .mixedOrders = true) (hc : regOk ops = true) (hB : kindB .any ops n = true) (hTl : tailB .any ops n = true)
  (h : AHOps X.P X.tt X.base H.length ops (ops.toList.take n) env H fun env' H' => AOps X.P X.tt X.base ops (ops.toList.drop n) env' H' fun env H => Q .normal env H) : AW X (.region id ops true) Q env H :=
 aw_drawK n [] hT hm hc hB (tailK_of hTl) rfl h
end Av
end Go.Proofs.YtdekcppfpgeneaaGreatDoor
set_option linter.unusedVariables false
set_option linter.unusedSimpArgs false
namespace Go.Proofs.YtdekcppfpgeneaaGreatDoor
open Go Go.RowKit
namespace Av

/-! Calls: what only computes; rows of one's own that are looked at. -/
mutual
def viewA (H : AHeap) : AV → Option AV
 | .ms l ver m => match H[l]? with
  | some (.row _ k ver' items) => if ver = ver' ∧ m = items.length then (unI items).map fun L => .d (.sl k L) else none
  | _ => none
 | .d p => some (.d p)
 | .agg l => (viewL H l).map .agg
 | _ => none
def viewL (H : AHeap) : List AV → Option (List AV)
 | [] => some []
 | a :: r => (viewA H a).bind fun a' => (viewL H r).map fun r' => a' :: r'
end
mutual
def flatA : AV → Bool
 | .d (.v _) => true
 | .agg l => flatL l
 | .tup l => flatL l
 | _ => false
def flatL : List AV → Bool
 | [] => true
 | a :: r => flatA a && flatL r
end
mutual
theorem flat_rep {s s' : St} : ∀ (a : AV) (v : Value), flatA a = true → Rep s a v → Rep s' a v
 | .d (.v x), v, _, h => by simp only [Rep, PRep] at h ⊢; exact h
 | .d (.sl _ _), v, e, _ => by simp [flatA] at e
 | .agg l, v, e, h => by
  simp only [flatA] at e
  simp only [Rep] at h ⊢
  obtain ⟨c, h1, h2⟩ := h
  exact ⟨c, h1, flatL_rep l _ e h2⟩
 | .tup l, v, e, h => by
  simp only [flatA] at e
  simp only [Rep] at h ⊢
  obtain ⟨c, h1, h2⟩ := h
  exact ⟨c, h1, flatL_rep l _ e h2⟩
 | .undef, _, e, _ => by simp [flatA] at e
 | .ptr _ _, _, e, _ => by simp [flatA] at e
 | .ms _ _ _, _, e, _ => by simp [flatA] at e
 | .ep _ _ _ _ _, _, e, _ => by simp [flatA] at e
 | .rp _, _, e, _ => by simp [flatA] at e
 | .mp _, _, e, _ => by simp [flatA] at e
 | .fn _ _ _, _, e, _ => by simp [flatA] at e
theorem flatL_rep {s s' : St} : ∀ (l : List AV) (vs : List Value), flatL l = true → RepL s l vs → RepL s' l vs
 | [], _, _, h => by simp only [RepL] at h ⊢; exact h
 | a :: r, vs, e, h => by
  simp only [flatL, Bool.and_eq_true] at e
  simp only [RepL] at h ⊢
  obtain ⟨x, t, h1, h2, h3⟩ := h
  exact ⟨x, t, h1, flat_rep a x e.1 h2, flatL_rep r t e.2 h3⟩
end
def bare (s : St) : St := ⟨s.μ, [], s.w⟩
theorem bare_imm {s : St} {b : Nat} : (bare s).imm b ↔ b < s.w.heap.size := ⟨fun h => h.1, fun h => ⟨h, fun ⟨l, o, h1, _⟩ => by simp [bare] at h1⟩⟩
mutual
theorem view_rep {base : World} {s : St} (hs : Sim base s) : ∀ (a a' : AV) (v : Value), Rep s a v → viewA s.H a = some a' → Rep (bare s) a' v
 | .ms l ver m, a', v, h, e => by
  simp only [viewA] at e
  split at e
  case h_2 => cases e
  rename_i ty k ver' items ho
  split at e
  case isFalse => cases e
  rename_i c
  simp only [Option.map_eq_some_iff] at e
  obtain ⟨L, e1, rfl⟩ := e
  have hi := unI_eq e1
  simp only [Rep, MsRep, ho] at h
  obtain ⟨_, _, h⟩ := h
  simp only [Rep, PRep]
  have hLl : L.length = items.length := by rw [hi]; simp [dI]
  rcases h c.1 c.2 with ⟨m1, rfl, m3⟩ | ⟨b, cap, m1, rfl, m3, m4, m5⟩
  ·have : L = [] := List.eq_nil_of_length_eq_zero (by omega)
   subst this
   exact ⟨none, 0, rfl, Nat.le_refl _, by unfold maxLen; omega, .inl rfl⟩
  ·obtain ⟨h0, h9, hobj⟩ := hs.obj l _ ho
   rcases hobj with ⟨q1, _⟩ | ⟨b', arr, f, rs, q1, q2, q3, q4, q5⟩
   ·rw [m1] at q1; cases q1
   ·rw [m1] at q1; cases q1
    refine ⟨some ⟨b, 0, none⟩, cap, by rw [hLl, c.2], by rw [hLl, ← c.2]; exact m3, m4, .inr ⟨b, 0, rfl, bare_imm.2 (Array.getElem?_eq_some_iff.1 q3).1, ?_⟩⟩
    subst hi
    have := seal_rows q3 L 0 f (fun j v hj => by
     have h1 : arr.toList[j]? = some v := by rw [q4, List.getElem?_append_left (List.getElem?_eq_some_iff.1 hj).1]; exact hj
     simpa using h1) h0 h9 q5
    -- what is immutable there is immutable here
    have up : ∀ (L : List (List PD)) (b k o : Nat), PRows s.w s.imm L b k o → PRows s.w (bare s).imm L b k o := by
     intro L
     induction L with
     | nil => intro b k o _; simp only [PRows]
     | cons it L ih =>
      intro b k o h
      simp only [PRows] at h ⊢
      have cells : ∀ (l : List PD) (o : Nat), PCells s.w s.imm l b o → PCells s.w (bare s).imm l b o := by
       intro l
       induction l with
       | nil => intro o _; simp only [PCells]
       | cons p l ih =>
        intro o h
        simp only [PCells] at h ⊢
        obtain ⟨⟨h0, c, h1, h2⟩, h3⟩ := h
        exact ⟨⟨h0, c, h1, PRep.on (fun b hb => bare_imm.2 hb.1) (fun _ _ => rfl) p c h2⟩, ih _ h3⟩
      exact ⟨h.1, cells it o h.2.1, ih b k _ h.2.2⟩
    exact up L b k 0 this
 | .d p, a', v, h, e => by
  simp only [viewA, Option.some.injEq] at e; subst e
  simp only [Rep] at h ⊢
  exact PRep.on (fun b hb => bare_imm.2 hb.1) (fun _ _ => rfl) p v h
 | .agg l, a', v, h, e => by
  simp only [viewA, Option.map_eq_some_iff] at e
  obtain ⟨y, e2, rfl⟩ := e
  simp only [Rep] at h ⊢
  obtain ⟨p, h1, h2⟩ := h
  exact ⟨p, h1, viewL_rep hs l y _ h2 e2⟩
 | .undef, _, _, _, e => by simp [viewA] at e
 | .ptr _ _, _, _, _, e => by simp [viewA] at e
 | .ep _ _ _ _ _, _, _, _, e => by simp [viewA] at e
 | .rp _, _, _, _, e => by simp [viewA] at e
 | .mp _, _, _, _, e => by simp [viewA] at e
 | .fn _ _ _, _, _, _, e => by simp [viewA] at e
 | .tup _, _, _, _, e => by simp [viewA] at e
theorem viewL_rep {base : World} {s : St} (hs : Sim base s) : ∀ (l l' : List AV) (vs : List Value), RepL s l vs → viewL s.H l = some l' → RepL (bare s) l' vs
 | [], l', vs, h, e => by simp only [viewL, Option.some.injEq] at e; subst e; simp only [RepL] at h ⊢; exact h
 | a :: r, l', vs, h, e => by
  simp only [viewL] at e
  obtain ⟨x, e1, e2⟩ := Option.bind_eq_some_iff.1 e
  simp only [Option.map_eq_some_iff] at e2
  obtain ⟨y, e2, rfl⟩ := e2
  simp only [RepL] at h ⊢
  obtain ⟨p, q, h1, h2, h3⟩ := h
  exact ⟨p, q, h1, view_rep hs a x _ h2 e1, viewL_rep hs r y _ h3 e2⟩
end
/-- a call with rows of one's own, that yields no rows -/
theorem view_call {P : Program} {base : World} {f : FuncId} {args args' : List AV} {r : AV} {H : AHeap} (hv : viewL H args = some args') (hf : flatA r = true) (h : PureA P base f args' r) :
  CallsA P base f args H fun r' H' => r' = r ∧ H' = H := by
 refine ⟨(h []).enter, fun μ w vs hs ha => ?_⟩
 have hb : Sim base (bare ⟨μ, H, w⟩) := ⟨hs.below, fun l o ho => by simp [bare] at ho, fun l l' o o' b ho => by simp [bare] at ho⟩
 have hr := viewL_rep hs args args' _ ha hv
 refine ((h []).run μ w vs hb hr).mono ?_
 rintro e w' ⟨v, r', H', μ', rfl, ⟨rfl, rfl⟩, _, h3, h4, h5⟩
 have hB : Below w.heap.size w w' := ⟨h3.below.os.trans hs.below.os.symm, h3.below.tape.trans hs.below.tape.symm, h3.below.output.trans hs.below.output.symm, h5.keeps.size, fun k hk => h5.keeps.heap k ((bare_imm (s := ⟨μ, H, w⟩)).2 hk)⟩
 have hs' := hs.below' (s := ⟨μ, H, w⟩) hB
 exact ⟨v, r', H, μ, rfl, ⟨rfl, rfl⟩, Nat.le_refl _, hs'.1, flat_rep _ _ hf h4, hs'.2⟩
/-! at a call -/
section
variable {P : Program} {base : World} {f : FuncId} {args args' : List AV} {r : AV} {H : AHeap} {C : AV → AHeap → Prop} {N0 : Nat}
theorem at_pure (h : PureA P base f args r) (k : C r H) : ∃ R, CallsA P base f args H R ∧ ∀ r H', R r H' → H.length ≤ H'.length → C r H' :=
 ⟨_, h H, fun r' H' ⟨e1, e2⟩ _ => by rw [e1, e2]; exact k⟩
theorem at_view (h : PureA P base f args' r) (hv : viewL H args = some args') (hf : flatA r = true) (k : C r H) : ∃ R, CallsA P base f args H R ∧ ∀ r H', R r H' → H.length ≤ H'.length → C r H' :=
 ⟨_, view_call hv hf h, fun r' H' ⟨e1, e2⟩ _ => by rw [e1, e2]; exact k⟩
theorem hd_pure (h : PureA P base f args r) (hb : r.bel H.length) (k : C r H) : ∃ r, (∀ Hx : AHeap, (∀ l, l < N0 ∨ l ∈ refsL args → Hx[l]? = H[l]?) → CallsA P base f args Hx fun r' H' => r' = r ∧ H' = Hx) ∧ r.bel H.length ∧ C r H :=
 ⟨r, fun Hx _ => h Hx, hb, k⟩
end
/-- a contract of the elder kind, that ends in what kept all blocks -/
theorem pure_of_calls {P : Program} {base : World} {f : FuncId} {args : List AV} {p : PD} (hcall : ∀ (vs : Array Value) (w : World), (callFunc f vs).run P w = .ok (.enter f vs) w)
  (h : ∀ (s : St) (vs : Array Value), Sim base s → RepL s args vs.toList → Calls P f vs s.w fun e w' => ∃ v, e = .returned v ∧ Below s.w.heap.size s.w w' ∧ PRep w' (fun b => b < w'.heap.size ∧ (b < s.w.heap.size → s.imm b)) p v) : PureA P base f args (.d p) := fun H =>
 ⟨hcall, fun μ w vs hs ha => (h ⟨μ, H, w⟩ vs hs ha).mono fun e w' ⟨v, h1, h2, h3⟩ => by
  have hs' := hs.below' (s := ⟨μ, H, w⟩) h2
  refine ⟨v, .d p, H, μ, h1, ⟨rfl, rfl⟩, Nat.le_refl _, hs'.1, ?_, hs'.2⟩
  simp only [Rep]
  refine PRep.on (fun b hb => ⟨hb.1, fun hl => ?_⟩) (fun _ _ => rfl) p v h3
  have hlt := (hs.live_ge (s := ⟨μ, H, w⟩) hl).2
  exact (hb.2 hlt).2 hl⟩
end Av
end Go.Proofs.YtdekcppfpgeneaaGreatDoor
set_option linter.unusedVariables false
set_option linter.unusedSimpArgs false
namespace Go.Proofs.YtdekcppfpgeneaaGreatDoor
open Go Go.RowKit
namespace Av

/-! What simp needs to evaluate. -/
theorem arr_list {α : Type} (l : List α) : l.toArray.toList = l := rfl
theorem H_get (H G : AHeap) (i : Nat) : (H ++ G)[H.length + i]? = G[i]? := by
 rw [List.getElem?_append_right (by omega)]; congr 1; omega
theorem H_get0 (H G : AHeap) : (H ++ G)[H.length]? = G[0]? := H_get H G 0
theorem H_set (H G : AHeap) (i : Nat) (o : AObj) : (H ++ G).set (H.length + i) o = H ++ G.set i o := by
 rw [List.set_append_right _ _ (by omega)]; congr 2; omega
theorem H_set0 (H G : AHeap) (o : AObj) : (H ++ G).set H.length o = H ++ G.set 0 o := H_set H G 0 o
theorem arr_get {α : Type} (l : List α) (i : Nat) : l.toArray[i]? = l[i]? := by simp
theorem l_set0 {α : Type} (a b : α) (l : List α) : (a :: l).set 0 b = b :: l := rfl
theorem l_setS {α : Type} (a b : α) (n : Nat) (l : List α) : (a :: l).set (n + 1) b = a :: l.set n b := rfl
theorem l_getD0 {α : Type} (a d : α) (l : List α) : (a :: l).getD 0 d = a := rfl
theorem l_getDS {α : Type} (a d : α) (n : Nat) (l : List α) : (a :: l).getD (n + 1) d = l.getD n d := rfl
theorem l_get0 {α : Type} (a : α) (l : List α) : (a :: l)[0]? = some a := rfl
theorem l_getS {α : Type} (a : α) (n : Nat) (l : List α) : (a :: l)[n + 1]? = l[n]? := rfl
theorem o_mapS {α β : Type} (f : α → β) (a : α) : (some a).map f = some (f a) := rfl
theorem o_mapN {α β : Type} (f : α → β) : (none : Option α).map f = none := rfl
theorem o_bindS {α β : Type} (f : α → Option β) (a : α) : (some a).bind f = f a := rfl
theorem o_bindN {α β : Type} (f : α → Option β) : (none : Option α).bind f = none := rfl
theorem l_mapC {α β : Type} (f : α → β) (a : α) (l : List α) : (a :: l).map f = f a :: l.map f := rfl
theorem l_mapN {α β : Type} (f : α → β) : ([] : List α).map f = [] := rfl
theorem l_lenA {α : Type} (a b : List α) : (a ++ b).length = a.length + b.length := List.length_append
theorem l_lenC {α : Type} (a : α) (l : List α) : (a :: l).length = l.length + 1 := rfl
theorem l_lenN {α : Type} : ([] : List α).length = 0 := rfl
theorem l_appA {α : Type} (a b c : List α) : a ++ b ++ c = a ++ (b ++ c) := List.append_assoc _ _ _
theorem unL_n : unL [] = some [] := rfl
theorem unL_d (p : PD) (r : List AV) : unL (.d p :: r) = (unL r).map (p :: ·) := rfl
theorem unI_n : unI [] = some [] := rfl
theorem unI_c (it : List AV) (r : List (List AV)) : unI (it :: r) = (unL it).bind fun p => (unI r).map (p :: ·) := rfl
theorem hfz_b (t n : Nat) (ps : Array (Nat × Operand)) (l v m ty k : Nat) (items : List (List AV)) : hfz (.buildSlice t n ps) (.ms l v m) (.row ty k v items) = if m = items.length then (match unI items with
  | some L => (.d (.sl k L), some .dead)
  | none => (.ms l v m, some (.row ty k v items))) else (.ms l v m, some (.row ty k v items)) := by
 by_cases h : m = items.length
 ·subst h
  simp only [hfz, and_self, if_true] <;> (cases unI items <;> rfl)
 ·simp only [hfz, h, and_false, if_false]
theorem hfz_a (t : Nat) (r : AV) (ob : AObj) : hfz (.alloc t) r ob = (r, some ob) := rfl
theorem hfz_x (t : Nat) (x : Operand) (r : AV) (ob : AObj) : hfz (.box t x) r ob = (r, some ob) := rfl
theorem hfz_m (t : Nat) (x y : Operand) (r : AV) (ob : AObj) : hfz (.makeSlice t x y) r ob = (r, some ob) := rfl
theorem hfz_p (t : Nat) (x : Option Operand) (r : AV) (ob : AObj) : hfz (.makeMap t x) r ob = (r, some ob) := rfl
theorem hfz_c (c : Call) (r : AV) (ob : AObj) : hfz (.call c) r ob = (r, some ob) := rfl
theorem l_appC {α : Type} (a : α) (l m : List α) : a :: l ++ m = a :: (l ++ m) := rfl
theorem l_appN {α : Type} (l : List α) : [] ++ l = l := rfl
theorem l_appE {α : Type} (l : List α) : l ++ [] = l := List.append_nil _
theorem l_allC {α : Type} (p : α → Bool) (a : α) (l : List α) : (a :: l).all p = (p a && l.all p) := rfl
theorem l_allN {α : Type} (p : α → Bool) : ([] : List α).all p = true := rfl
theorem i_t {α : Type} {_ : Decidable True} (a b : α) : (if True then a else b) = a := by simp
theorem i_f {α : Type} {_ : Decidable False} (a b : α) : (if False then a else b) = b := by simp
theorem i_tp {_ : Decidable True} (a b : Prop) : (if True then a else b) = a := by simp
theorem i_fp {_ : Decidable False} (a b : Prop) : (if False then a else b) = b := by simp
theorem ite_tt {α : Type} (a b : α) : (if true = true then a else b) = a := rfl
theorem ite_ft {α : Type} (a b : α) : (if false = true then a else b) = b := rfl
theorem lt_a (n i j : Nat) : (n + i < n + j) = (i < j) := by simp
theorem lt_a0 (n j : Nat) : (n < n + (j + 1)) = True := by simp
theorem o_tlS {α : Type} (a : α) : (some a).toList = [a] := rfl
theorem o_tlN {α : Type} : (none : Option α).toList = [] := rfl
theorem o_gdS {α : Type} (a d : α) : (some a).getD d = a := rfl
theorem o_gdN {α : Type} (d : α) : (none : Option α).getD d = d := rfl
theorem b_self (n : Nat) : (n == n) = true := by simp
theorem ne_S (n : Nat) : (n + 1 ≠ 0) = True := by simp
theorem lt_S (n : Nat) : (0 < n + 1) = True := by simp
theorem e_self {α : Type} (a : α) : (a = a) = True := by simp
theorem t_and (p : Prop) : (True ∧ p) = p := by simp
theorem and_t (p : Prop) : (p ∧ True) = p := by simp
theorem l_drop0 {α : Type} (l : List α) : l.drop 0 = l := rfl
theorem l_dropS {α : Type} (n : Nat) (a : α) (l : List α) : (a :: l).drop (n + 1) = l.drop n := rfl
theorem l_take0 {α : Type} (l : List α) : l.take 0 = [] := by simp
theorem l_takeS {α : Type} (n : Nat) (a : α) (l : List α) : (a :: l).take (n + 1) = a :: l.take n := rfl
theorem l_dropN {α : Type} (n : Nat) : ([] : List α).drop n = [] := by simp
theorem l_takeN {α : Type} (n : Nat) : ([] : List α).take n = [] := by simp
theorem n_a0 (n : Nat) : n + 0 = n := rfl
theorem n_0a (n : Nat) : 0 + n = n := Nat.zero_add n
theorem l_lenM {α β : Type} (f : α → β) (l : List α) : (l.map f).length = l.length := List.length_map _
theorem avs : type_of% (And.intro @acall.eq_def <| And.intro @astep.eq_def <| And.intro @allocs.eq_def <| And.intro @aop.eq_def <|
  And.intro @aeval.eq_def <| And.intro @aput.eq_def <| And.intro @putO.eq_def <| And.intro @yieldedA.eq_def <| And.intro @wantB.eq_def <| And.intro @skipV.eq_def <| And.intro @aLoad.eq_def <| And.intro @aPart.eq_def <| And.intro @aStore.eq_def <| And.intro @splice.eq_def <| And.intro @aFieldAddr.eq_def <|
  And.intro @aField.eq_def <| And.intro @aIndexAddr.eq_def <| And.intro @aIndex.eq_def <| And.intro @aExtract.eq_def <| And.intro @aBox.eq_def <| And.intro @AV.cells.eq_def <| And.intro @AV.one.eq_def <| And.intro @PD.one.eq_def <|
  And.intro @Value.oneCell'.eq_def <| And.intro @aAlloc.eq_def <| And.intro @zCells.eq_def <| And.intro @aBuild.eq_def <| And.intro @aFill.eq_1 <| And.intro @aFill.eq_2 <| And.intro @bsOk.eq_1 <| And.intro @bsOk.eq_2 <| And.intro @b_self <| And.intro @aBuildSlice.eq_def <| And.intro @aMakeSlice.eq_def <|
  And.intro @aMakeMap.eq_def <| And.intro @ksOf.eq_def <| And.intro @aSlice.eq_def <| And.intro @bndOf.eq_def <| And.intro @intOfA.eq_def <| And.intro @binA.eq_def <| And.intro @binV.eq_def <| And.intro @intV.eq_def <| And.intro @strV.eq_def <|
  And.intro @nilKind.eq_def <| And.intro @eqRes.eq_def <| And.intro @unV.eq_def <| And.intro @convV.eq_def <| And.intro @minV.eq_def <| And.intro @maxV.eq_def <| And.intro @aMinMax.eq_def <| And.intro @aBuiltin.eq_def <| And.intro @aAppend.eq_def <|
  And.intro @aXItems.eq_def <| And.intro @aSrc.eq_def <| And.intro @ptrEq.eq_def <| And.intro @lenOf.eq_def <| And.intro @aLookup.eq_def <| And.intro @aMapUpdate.eq_def <| And.intro @aMapEntry.eq_def <| And.intro @aEntryStore.eq_def <| And.intro @zeroA.eq_def <| And.intro @TI.agg.eq_def <| And.intro @valOf.eq_def <| And.intro @valsL.eq_1 <| And.intro @valsL.eq_2 <|
  And.intro @arr_list <| And.intro @H_get <| And.intro @H_get0 <| And.intro @H_set <| And.intro @H_set0 <| And.intro @l_set0 <| And.intro @l_setS <| And.intro @l_getD0 <| And.intro @l_getDS <|
  And.intro @l_get0 <| And.intro @l_getS <| And.intro @o_mapS <| And.intro @o_mapN <| And.intro @o_bindS <| And.intro @o_bindN <| And.intro @l_mapC <| And.intro @l_mapN <|
  And.intro @l_lenA <| And.intro @l_lenC <| And.intro @l_lenN <| And.intro @l_appA <| And.intro @l_appC <| And.intro @l_appN <| And.intro @l_appE <|
  And.intro @l_allC <| And.intro @l_allN <| And.intro @Bool.and_true <| And.intro @Bool.true_and <| And.intro @Bool.false_eq_true <| And.intro @i_t <| And.intro @i_f <| And.intro @i_tp <| And.intro @i_fp <| And.intro @ite_tt <| And.intro @ite_ft <| And.intro @headStep.eq_def <| And.intro @hfz_b <| And.intro @hfz_a <| And.intro @hfz_x <| And.intro @hfz_m <| And.intro @hfz_p <| And.intro @hfz_c <| And.intro @unL_n <| And.intro @unL_d <| And.intro @unI_n <| And.intro @unI_c <| And.intro @headOp.eq_def <| And.intro @AV.bel.eq_def <| And.intro @belL.eq_1 <| And.intro @belL.eq_2 <| And.intro @lt_a <| And.intro @lt_a0 <| And.intro @o_tlS <| And.intro @o_tlN <| And.intro @o_gdS <| And.intro @o_gdN <| And.intro @ne_S <| And.intro @lt_S <| And.intro @e_self <| And.intro @t_and <| And.intro @and_t <| And.intro @l_drop0 <| And.intro @l_dropS <| And.intro @l_take0 <| And.intro @l_takeS <| And.intro @l_dropN <| And.intro @l_takeN <| And.intro @n_a0 <| And.intro @n_0a <| And.intro @l_lenM <| And.intro @Int.toNat_natCast <| And.intro @arr_get trivial) :=
 And.intro @acall.eq_def <| And.intro @astep.eq_def <| And.intro @allocs.eq_def <| And.intro @aop.eq_def <|
  And.intro @aeval.eq_def <| And.intro @aput.eq_def <| And.intro @putO.eq_def <| And.intro @yieldedA.eq_def <| And.intro @wantB.eq_def <| And.intro @skipV.eq_def <| And.intro @aLoad.eq_def <| And.intro @aPart.eq_def <| And.intro @aStore.eq_def <| And.intro @splice.eq_def <| And.intro @aFieldAddr.eq_def <|
  And.intro @aField.eq_def <| And.intro @aIndexAddr.eq_def <| And.intro @aIndex.eq_def <| And.intro @aExtract.eq_def <| And.intro @aBox.eq_def <| And.intro @AV.cells.eq_def <| And.intro @AV.one.eq_def <| And.intro @PD.one.eq_def <|
  And.intro @Value.oneCell'.eq_def <| And.intro @aAlloc.eq_def <| And.intro @zCells.eq_def <| And.intro @aBuild.eq_def <| And.intro @aFill.eq_1 <| And.intro @aFill.eq_2 <| And.intro @bsOk.eq_1 <| And.intro @bsOk.eq_2 <| And.intro @b_self <| And.intro @aBuildSlice.eq_def <| And.intro @aMakeSlice.eq_def <|
  And.intro @aMakeMap.eq_def <| And.intro @ksOf.eq_def <| And.intro @aSlice.eq_def <| And.intro @bndOf.eq_def <| And.intro @intOfA.eq_def <| And.intro @binA.eq_def <| And.intro @binV.eq_def <| And.intro @intV.eq_def <| And.intro @strV.eq_def <|
  And.intro @nilKind.eq_def <| And.intro @eqRes.eq_def <| And.intro @unV.eq_def <| And.intro @convV.eq_def <| And.intro @minV.eq_def <| And.intro @maxV.eq_def <| And.intro @aMinMax.eq_def <| And.intro @aBuiltin.eq_def <| And.intro @aAppend.eq_def <|
  And.intro @aXItems.eq_def <| And.intro @aSrc.eq_def <| And.intro @ptrEq.eq_def <| And.intro @lenOf.eq_def <| And.intro @aLookup.eq_def <| And.intro @aMapUpdate.eq_def <| And.intro @aMapEntry.eq_def <| And.intro @aEntryStore.eq_def <| And.intro @zeroA.eq_def <| And.intro @TI.agg.eq_def <| And.intro @valOf.eq_def <| And.intro @valsL.eq_1 <| And.intro @valsL.eq_2 <|
  And.intro @arr_list <| And.intro @H_get <| And.intro @H_get0 <| And.intro @H_set <| And.intro @H_set0 <| And.intro @l_set0 <| And.intro @l_setS <| And.intro @l_getD0 <| And.intro @l_getDS <|
  And.intro @l_get0 <| And.intro @l_getS <| And.intro @o_mapS <| And.intro @o_mapN <| And.intro @o_bindS <| And.intro @o_bindN <| And.intro @l_mapC <| And.intro @l_mapN <|
  And.intro @l_lenA <| And.intro @l_lenC <| And.intro @l_lenN <| And.intro @l_appA <| And.intro @l_appC <| And.intro @l_appN <| And.intro @l_appE <|
  And.intro @l_allC <| And.intro @l_allN <| And.intro @Bool.and_true <| And.intro @Bool.true_and <| And.intro @Bool.false_eq_true <| And.intro @i_t <| And.intro @i_f <| And.intro @i_tp <| And.intro @i_fp <| And.intro @ite_tt <| And.intro @ite_ft <| And.intro @headStep.eq_def <| And.intro @hfz_b <| And.intro @hfz_a <| And.intro @hfz_x <| And.intro @hfz_m <| And.intro @hfz_p <| And.intro @hfz_c <| And.intro @unL_n <| And.intro @unL_d <| And.intro @unI_n <| And.intro @unI_c <| And.intro @headOp.eq_def <| And.intro @AV.bel.eq_def <| And.intro @belL.eq_1 <| And.intro @belL.eq_2 <| And.intro @lt_a <| And.intro @lt_a0 <| And.intro @o_tlS <| And.intro @o_tlN <| And.intro @o_gdS <| And.intro @o_gdN <| And.intro @ne_S <| And.intro @lt_S <| And.intro @e_self <| And.intro @t_and <| And.intro @and_t <| And.intro @l_drop0 <| And.intro @l_dropS <| And.intro @l_take0 <| And.intro @l_takeS <| And.intro @l_dropN <| And.intro @l_takeN <| And.intro @n_a0 <| And.intro @n_0a <| And.intro @l_lenM <| And.intro @Int.toNat_natCast <| And.intro @arr_get trivial
/-- truths turned over -/
theorem bn : type_of% (And.intro @Bool.not_eq_true' <| And.intro @Bool.not_eq_false' <| And.intro @Bool.not_eq_true <| And.intro @Bool.not_eq_false <| And.intro @Bool.not_not <| And.intro Bool.not_true <| And.intro Bool.not_false trivial) :=
 And.intro @Bool.not_eq_true' <| And.intro @Bool.not_eq_false' <| And.intro @Bool.not_eq_true <| And.intro @Bool.not_eq_false <| And.intro @Bool.not_not <| And.intro Bool.not_true <| And.intro Bool.not_false trivial
theorem rp : (∀ {α : Type} (a : α), List.replicate 0 a = []) ∧ (∀ {α : Type} (n : Nat) (a : α), List.replicate (n + 1) a = a :: List.replicate n a) ∧ (∀ {α : Type} (a : α) (l m : List α), a :: l ++ m = a :: (l ++ m)) ∧ (∀ {α : Type} (l : List α), [] ++ l = l) :=
 ⟨fun _ => rfl, fun _ _ => rfl, fun _ _ _ => rfl, fun _ => rfl⟩
end Av
end Go.Proofs.YtdekcppfpgeneaaGreatDoor
set_option linter.unusedVariables false
set_option linter.unusedSimpArgs false
namespace Go.Proofs.YtdekcppfpgeneaaGreatDoor
open Go Go.RowKit
namespace Av

/-! Runs of operations without calls. -/
theorem belM.mono {n m : Nat} (hm : n ≤ m) : ∀ (es : List (Value × AV)), belM n es → belM m es
 | [], h => h
 | p :: r, h => ⟨AV.bel.mono hm _ h.1, belM.mono hm r h.2⟩
theorem AObj.bel.mono {n m : Nat} (hm : n ≤ m) {o : AObj} (h : o.bel n) : o.bel m := by
 cases o with
 | box ty cells => exact belL.mono hm _ h
 | row ty k ver items => exact belL.mono hm _ h
 | mp kt et ks es => exact belM.mono hm _ h
 | free => trivial
 | dead => trivial
theorem HBel.mono {n m : Nat} {H : AHeap} (hm : n ≤ m) (h : HBel n H) : HBel m H := fun o ho => (h o ho).mono hm
theorem HBel.more {H G : AHeap} (h : HBel H.length H) (k : HBel (H ++ G).length G) : HBel (H ++ G).length (H ++ G) := (h.mono (by simp)).append k
theorem HBel.nil {n : Nat} : HBel n [] := fun _ h => nomatch h
theorem HBel.cons {n : Nat} {o : AObj} {H : AHeap} (h : o.bel n) (k : HBel n H) : HBel n (o :: H) := fun x hx => by
 rcases List.mem_cons.1 hx with rfl | hx
 ·exact h
 ·exact k x hx
theorem belL_app {n : Nat} : ∀ {a b : List AV}, belL n a → belL n b → belL n (a ++ b)
 | [], _, _, k => k
 | x :: a, b, h, k => by simp only [List.cons_append, belL] at h ⊢; exact ⟨h.1, belL_app h.2 k⟩
theorem belL_dL {n : Nat} : ∀ (l : List PD), belL n (dL l)
 | [] => by simp [dL, belL]
 | p :: l => by simp only [dL, List.map_cons, belL, AV.bel]; exact ⟨trivial, belL_dL l⟩
theorem bel_dI {n ty k ver : Nat} : ∀ (L : List (List PD)), (AObj.row ty k ver (dI L)).bel n
 | [] => by simp [AObj.bel, dI, belL]
 | it :: L => by
  show belL n ((dI (it :: L)).flatten)
  simp only [dI, List.map_cons, List.flatten_cons]
  exact belL_app (belL_dL it) (bel_dI (ty := ty) (k := k) (ver := ver) L)
theorem dI_len (L : List (List PD)) : (dI L).length = L.length := by simp [dI]
def estep (tt : TTab) (ops : Array Oper) (o : Oper) : Option (List AV × AHeap) → Option (List AV × AHeap)
 | none => none
 | some (env, H) => match o.guard with
  | none => (astep tt H env o.op).map fun p => (aput env o.dst p.1, p.2)
  | some (j, want) => match yieldedA ops env j with
   | some y => if wantB y want = true then (astep tt H env o.op).map fun p => (aput env o.dst p.1, p.2) else some (aput env o.dst skipV, H)
   | none => none
def erun (tt : TTab) (ops : Array Oper) : Nat → List Oper → Option (List AV × AHeap) → Option (List AV × AHeap)
 | 0, _, s => s
 | _ + 1, [], s => s
 | n + 1, o :: l, s => match acall ((s.map (·.1)).getD []) o.op with
  | some _ => none
  | none => erun tt ops n l (estep tt ops o s)
def hstep (tt : TTab) (ops : Array Oper) (o : Oper) : Option (List AV × AHeap × Prop) → Option (List AV × AHeap × Prop)
 | none => none
 | some (env, H, C) => if headOp o.op = true then match o.guard with
  | none => (headStep tt H env o.op).map fun p => (aput env o.dst p.1, H ++ p.2.toList, C ∧ p.1.bel (H ++ p.2.toList).length)
  | some (j, want) => match yieldedA ops env j with
   | some y => if wantB y want = true then (headStep tt H env o.op).map fun p => (aput env o.dst p.1, H ++ p.2.toList, C ∧ p.1.bel (H ++ p.2.toList).length) else some (aput env o.dst skipV, H, C)
   | none => none
  else none
def hrun (tt : TTab) (ops : Array Oper) : Nat → List Oper → Option (List AV × AHeap × Prop) → Option (List AV × AHeap × Prop)
 | 0, _, s => s
 | _ + 1, [], s => s
 | n + 1, o :: l, s => match acall ((s.map (·.1)).getD []) o.op with
  | some _ => none
  | none => hrun tt ops n l (hstep tt ops o s)
section
variable {P : Program} {tt : TTab} {base : World} {ops : Array Oper} {N0 : Nat} {K : List AV → AHeap → Prop}

theorem erun_none : ∀ (n : Nat) (l : List Oper), erun tt ops n l none = none
 | 0, _ => rfl
 | _ + 1, [] => rfl
 | n + 1, o :: l => by
  simp only [erun]
  split
  ·rfl
  ·exact erun_none n l
theorem hrun_none : ∀ (n : Nat) (l : List Oper), hrun tt ops n l none = none
 | 0, _ => rfl
 | _ + 1, [] => rfl
 | n + 1, o :: l => by
  simp only [hrun]
  split
  ·rfl
  ·exact hrun_none n l
theorem aops_run : ∀ (n : Nat) {l : List Oper} {env env' : List AV} {H H' : AHeap}, erun tt ops n l (some (env, H)) = some (env', H') → AOps P tt base ops (l.drop n) env' H' K → AOps P tt base ops l env H K
 | 0, l, env, env', H, H', h, k => by
  simp only [erun, Option.some.injEq, Prod.mk.injEq] at h
  obtain ⟨rfl, rfl⟩ := h
  exact k
 | n + 1, [], env, env', H, H', h, k => by
  simp only [erun, Option.some.injEq, Prod.mk.injEq] at h
  obtain ⟨rfl, rfl⟩ := h
  exact k
 | n + 1, o :: l, env, env', H, H', h, k => by
  simp only [erun, Option.map_some, Option.getD_some] at h
  split at h
  ·cases h
  ·rename_i hc
   simp only [AOps, AGuard]
   unfold estep at h
   simp only at h
   cases hg : o.guard with
   | none =>
    rw [hg] at h
    simp only at h
    simp only [AStep, hc]
    cases hs : astep tt H env o.op with
    | none => rw [hs] at h; simp only [Option.map_none] at h; rw [erun_none] at h; cases h
    | some p =>
     rw [hs] at h
     obtain ⟨r, H2⟩ := p
     exact aops_run n h k
   | some g =>
    obtain ⟨j, want⟩ := g
    rw [hg] at h
    simp only at h ⊢
    cases hy : yieldedA ops env j with
    | none => rw [hy] at h; simp only at h; rw [erun_none] at h; cases h
    | some b =>
     rw [hy] at h
     simp only at h ⊢
     by_cases hb : wantB b want = true
     ·rw [if_pos hb] at h ⊢
      simp only [AStep, hc]
      cases hs : astep tt H env o.op with
      | none => rw [hs] at h; simp only [Option.map_none] at h; rw [erun_none] at h; cases h
      | some p =>
       rw [hs] at h
       obtain ⟨r, H2⟩ := p
       exact aops_run n h k
     ·rw [if_neg hb] at h ⊢
      exact aops_run n h k
theorem ahops_run_C : ∀ (n : Nat) {l : List Oper} {env env' : List AV} {H H' : AHeap} {C C' : Prop}, hrun tt ops n l (some (env, H, C)) = some (env', H', C') → C' → C
 | 0, l, env, env', H, H', C, C', h, hC => by
  simp only [hrun, Option.some.injEq, Prod.mk.injEq] at h
  obtain ⟨_, _, rfl⟩ := h
  exact hC
 | n + 1, [], env, env', H, H', C, C', h, hC => by
  simp only [hrun, Option.some.injEq, Prod.mk.injEq] at h
  obtain ⟨_, _, rfl⟩ := h
  exact hC
 | n + 1, o :: l, env, env', H, H', C, C', h, hC => by
  simp only [hrun, Option.map_some, Option.getD_some] at h
  split at h
  ·cases h
  ·unfold hstep at h
   by_cases hh : headOp o.op = true
   ·simp only [hh, if_true] at h
    have go : ∀ x : Option (AV × Option AObj), hrun tt ops n l (x.map fun p => (aput env o.dst p.1, H ++ p.2.toList, C ∧ p.1.bel (H ++ p.2.toList).length)) = some (env', H', C') → C := fun x hx => by
     cases x with
     | none => simp only [Option.map_none] at hx; rw [hrun_none] at hx; cases hx
     | some p => exact (ahops_run_C n hx hC).1
    split at h
    ·exact go _ h
    ·split at h
     ·split at h
      ·exact go _ h
      ·exact ahops_run_C n h hC
     ·rw [hrun_none] at h; cases h
   ·simp only [if_neg hh] at h; rw [hrun_none] at h; cases h
theorem ahops_run : ∀ (n : Nat) {l : List Oper} {env env' : List AV} {H H' : AHeap} {C C' : Prop}, hrun tt ops n l (some (env, H, C)) = some (env', H', C') → C' → AHOps P tt base N0 ops (l.drop n) env' H' K → AHOps P tt base N0 ops l env H K
 | 0, l, env, env', H, H', C, C', h, hC, k => by
  simp only [hrun, Option.some.injEq, Prod.mk.injEq] at h
  obtain ⟨rfl, rfl, _⟩ := h
  exact k
 | n + 1, [], env, env', H, H', C, C', h, hC, k => by
  simp only [hrun, Option.some.injEq, Prod.mk.injEq] at h
  obtain ⟨rfl, rfl, _⟩ := h
  exact k
 | n + 1, o :: l, env, env', H, H', C, C', h, hC, k => by
  simp only [hrun, Option.map_some, Option.getD_some] at h
  split at h
  ·cases h
  ·rename_i hc
   simp only [AHOps, AGuard]
   unfold hstep at h
   by_cases hh : headOp o.op = true
   ·simp only [hh, if_true] at h
    have go : hrun tt ops n l ((headStep tt H env o.op).map fun p => (aput env o.dst p.1, H ++ p.2.toList, C ∧ p.1.bel (H ++ p.2.toList).length)) = some (env', H', C') →
      AHStep P tt base N0 env H o.op fun r H' => AHOps P tt base N0 ops l (aput env o.dst r) H' K := fun hx => by
     simp only [AHStep, hc, hh, true_and]
     cases hs : headStep tt H env o.op with
     | none => rw [hs] at hx; simp only [Option.map_none] at hx; rw [hrun_none] at hx; cases hx
     | some p =>
      rw [hs] at hx
      obtain ⟨r, q⟩ := p
      simp only [Option.map_some] at hx
      have hb := (ahops_run_C n hx hC).2
      have hk := ahops_run n hx hC k
      cases q with
      | none =>
       simp only [Option.toList_none, List.append_nil] at hb hk
       exact ⟨hb, hk⟩
      | some ob =>
       simp only [Option.toList_some] at hb hk
       exact ⟨by simpa using hb, hk⟩
    cases hg : o.guard with
    | none => rw [hg] at h; exact go h
    | some g =>
     obtain ⟨j, want⟩ := g
     rw [hg] at h
     simp only at h ⊢
     cases hy : yieldedA ops env j with
     | none => rw [hy] at h; simp only at h; rw [hrun_none] at h; cases h
     | some b =>
      rw [hy] at h
      simp only at h ⊢
      by_cases hb : wantB b want = true
      ·rw [if_pos hb] at h ⊢; exact go h
      ·rw [if_neg hb] at h ⊢; exact ahops_run n h hC k
   ·simp only [if_neg hh] at h; rw [hrun_none] at h; cases h
theorem aops_nil {env : List AV} {H : AHeap} (k : K env H) : AOps P tt base ops [] env H K := k
theorem ahops_nil {env : List AV} {H : AHeap} (k : K env H) : AHOps P tt base N0 ops [] env H K := k
theorem aops_call {o : Oper} {rest : List Oper} {env : List AV} {H : AHeap} {f : FuncId} {args : List AV} (hg : o.guard = none) (hc : acall env o.op = some (f, args)) (h : ∃ R, CallsA P base f args H R ∧ ∀ r H', R r H' → H.length ≤ H'.length → AOps P tt base ops rest (aput env o.dst r) H' K) : AOps P tt base ops (o :: rest) env H K := by
 simp only [AOps, AGuard, hg, AStep, hc]
 exact h
theorem ahops_call {o : Oper} {rest : List Oper} {env : List AV} {H : AHeap} {f : FuncId} {args : List AV} (hg : o.guard = none) (hc : acall env o.op = some (f, args)) (h : ∃ r, (∀ Hx : AHeap, (∀ l, l < N0 ∨ l ∈ refsL args → Hx[l]? = H[l]?) → CallsA P base f args Hx fun r' H' => r' = r ∧ H' = Hx) ∧ r.bel H.length ∧ AHOps P tt base N0 ops rest (aput env o.dst r) H K) : AHOps P tt base N0 ops (o :: rest) env H K := by
 simp only [AHOps, AGuard, hg, AHStep, hc]
 exact h
theorem aops_pure {o : Oper} {rest : List Oper} {env env' : List AV} {H : AHeap} {f : FuncId} {args : List AV} {r : AV} (hg : o.guard = none) (hc : acall env o.op = some (f, args)) (h : PureA P base f args r) (he : aput env o.dst r = env') (k : AOps P tt base ops rest env' H K) : AOps P tt base ops (o :: rest) env H K :=
 aops_call hg hc (at_pure h (by rw [he]; exact k))
theorem ahops_pure {o : Oper} {rest : List Oper} {env env' : List AV} {H : AHeap} {f : FuncId} {args : List AV} {r : AV} (hg : o.guard = none) (hc : acall env o.op = some (f, args)) (h : PureA P base f args r) (hb : r.bel H.length) (he : aput env o.dst r = env') (k : AHOps P tt base N0 ops rest env' H K) : AHOps P tt base N0 ops (o :: rest) env H K :=
 ahops_call hg hc (hd_pure (C := fun r H => AHOps P tt base N0 ops rest (aput env o.dst r) H K) h hb (by rw [he]; exact k))
/-- a function that reads what lies there, and leaves it -/
def ReadA (P : Program) (base : World) (f : FuncId) (args : List AV) (H : AHeap) (r : AV) : Prop := CallsA P base f args H fun r' H' => r' = r ∧ H' = H
theorem aops_read {o : Oper} {rest : List Oper} {env env' : List AV} {H : AHeap} {f : FuncId} {args : List AV} {r : AV} (hg : o.guard = none) (hc : acall env o.op = some (f, args)) (h : ReadA P base f args H r) (he : aput env o.dst r = env') (k : AOps P tt base ops rest env' H K) : AOps P tt base ops (o :: rest) env H K :=
 aops_call hg hc ⟨_, h, fun r' H' ⟨e1, e2⟩ _ => by rw [e1, e2, he]; exact k⟩
theorem aops_on {o : Oper} {rest : List Oper} {env : List AV} {H : AHeap} {j : Nat} {want : Bool} (hg : o.guard = some (j, want)) (hy : yieldedA ops env j = some (some want)) (h : AOps P tt base ops ({ o with guard := none } :: rest) env H K) : AOps P tt base ops (o :: rest) env H K := by
 have hw : wantB (some want) want = true := by cases want <;> rfl
 simp only [AOps, AGuard, hg, hy, hw, if_true] at h ⊢
 exact h
theorem ahops_on {o : Oper} {rest : List Oper} {env : List AV} {H : AHeap} {j : Nat} {want : Bool} (hg : o.guard = some (j, want)) (hy : yieldedA ops env j = some (some want)) (h : AHOps P tt base N0 ops ({ o with guard := none } :: rest) env H K) : AHOps P tt base N0 ops (o :: rest) env H K := by
 have hw : wantB (some want) want = true := by cases want <;> rfl
 simp only [AHOps, AGuard, hg, hy, hw, if_true] at h ⊢
 exact h
end
section
variable {X : Ctx} {Q : Exit → List AV → AHeap → Prop} {env env' : List AV} {H H' : AHeap}
end
end Av
end Go.Proofs.YtdekcppfpgeneaaGreatDoor
set_option linter.unusedVariables false
set_option linter.unusedSimpArgs false
namespace Go.Proofs.YtdekcppfpgeneaaGreatDoor
open Go Go.RowKit
namespace Av

theorem calls_frz (l : Nat) {P : Program} {base : World} {f : FuncId} {args args' : List AV} {H H' : AHeap} {R : AV → AHeap → Prop} (ha : frzL H[l]? l args = args') (hH : H.set l .dead = H') (h : CallsA P base f args' H' R) : CallsA P base f args H R := by
 subst ha hH
 refine ⟨h.enter, fun μ w vs hs hr => ?_⟩
 have hk := hs.kill l
 refine (h.run μ w vs hk.1 (RepL.frz hs l _ _ hr)).mono fun e w' ⟨v, r, H', μ', h1, h2, h3, h4, h5, h6⟩ => ⟨v, r, H', μ', h1, h2, by simpa using h3, h4, h5, ?_⟩
 have h6' : Evo H.length ⟨μ, H.set l .dead, w⟩ ⟨μ', H', w'⟩ := by simpa using h6
 exact (hk.2 _).trans h6'
theorem aw_frz (l : Nat) {X : Ctx} {Q : Exit → List AV → AHeap → Prop} {env env' : List AV} {H H' : AHeap} {c : Code} (ha : frzL H[l]? l env = env') (hH : H.set l .dead = H') (h : AW X c Q env' H') : AW X c Q env H := by
 subst ha hH
 intro s0 μ a w hN hs he hev
 exact h s0 μ a w (by simpa using hN) (hs.kill l).1 ⟨he.defers.keeps ((hs.kill l).2 0).keeps, RepL.frz hs l _ _ he.rep⟩ (hev.trans ((hs.kill l).2 _))
/-- a row of one's own becomes pure data, though a box holds it: the box's cells turn with it -/
theorem aw_frzB (l lb : Nat) {X : Ctx} {Q : Exit → List AV → AHeap → Prop} {env env' : List AV} {H H' : AHeap} {c : Code} {ty : Nat} {cells cells' : List AV} (hne : lb ≠ l) (hbx : H[lb]? = some (.box ty cells)) (hc : frzL H[l]? l cells = cells') (ha : frzL H[l]? l env = env') (hH : (H.set l .dead).set lb (.box ty cells') = H') (h : AW X c Q env' H') : AW X c Q env H := by
 subst ha hH hc
 intro s0 μ a w hN hs he hev
 have hk := hs.kill l
 have hob := hs.obj lb _ hbx
 obtain ⟨b, arr, h1, h2, h3, h4⟩ := hob
 have hbx' : (H.set l .dead)[lb]? = some (.box ty cells) := by rw [get_set_ne hne]; exact hbx
 have hlt : lb < (H.set l .dead).length := lt_of_get hbx'
 have hu := hk.1.upd hbx' (w' := w) (b := b) (o' := .box ty (frzL H[l]? l cells)) rfl rfl rfl (Nat.le_refl _) (fun _ _ _ => rfl) (.inr ⟨rfl, h1⟩) ⟨arr, h3, RepL.frz hs l _ _ h4⟩ (by
  unfold RefEvo
  simp only [hbx']
  exact .inr ⟨_, get_set_same hlt, by simp only [upd_same]; exact h1.symm⟩)
 have hE : Evo X.N ⟨μ, H, w⟩ ⟨Av.upd μ lb (some b), (H.set l .dead).set lb (.box ty (frzL H[l]? l cells)), w⟩ := (hk.2 _).trans (hu.2.mono (by simpa using hN))
 exact h s0 _ a w (by simpa using hN) hu.1 ⟨he.defers.keeps hE.keeps, RepL.evo hu.2 _ _ (RepL.frz hs l _ _ he.rep)⟩ (hev.trans hE)
theorem read_enter {P : Program} {tt : TTab} (hT : TabOk P tt) {base : World} {f : FuncId} {fn : Func} {c : Code} {args : List AV} {H : AHeap} {r : AV} (hcall : ∀ (vs : Array Value) (w : World), (callFunc f vs).run P w = .ok (.enter f vs) w) (hf : P.funcs[f]? = some fn) (hb : fn.body = some c)
  (h : HBel H.length H → belL H.length args → fctL args → AW ⟨P, tt, base, H.length, none⟩ c (retA tt fn.results.toList fun r' H' => ∃ G, H' = H ++ G ∧ sealA H' H.length r' = some r) (args ++ List.replicate (fn.ntmps - args.length) .undef) H) : ReadA P base f args H r :=
 .sealUp (callsA_enter hT hcall hf hb fun hB hb hF => (h hB hb hF).mono fun x env H' hq => by
  cases x with
  | normal => obtain ⟨r0, h1, G, h2, h3⟩ := hq; exact ⟨r0, h1, r, H, ⟨Nat.le_refl _, hB, ⟨G, h2⟩, h3⟩, rfl, rfl⟩
  | ret => obtain ⟨r0, h1, G, h2, h3⟩ := hq; exact ⟨r0, h1, r, H, ⟨Nat.le_refl _, hB, ⟨G, h2⟩, h3⟩, rfl, rfl⟩
  | _ => exact hq)
theorem got {H : AHeap} {l : Nat} {o : AObj} (h : H[l]? = some o) (G : AHeap) : (H ++ G)[l]? = some o := by rw [List.getElem?_append_left (lt_of_get h)]; exact h
theorem RepL.nils {s : St} (k : Nat) : ∀ {l : List AV} {vs : List Value} (i : Nat), RepL s l vs → l[i]? = some (.d (.v (.slice none 0 0))) → RepL s (l.set i (.d (.sl k []))) vs
 | [], vs, i, h, e => by simp at e
 | a :: r, vs, 0, h, e => by
  simp only [List.getElem?_cons_zero, Option.some.injEq] at e
  subst e
  simp only [RepL, List.set_cons_zero, Rep, PRep] at h ⊢
  obtain ⟨x, t, h1, ⟨rfl, _⟩, h3⟩ := h
  exact ⟨_, t, h1, ⟨none, 0, rfl, Nat.le_refl _, by unfold maxLen; omega, .inl trivial⟩, h3⟩
 | a :: r, vs, i + 1, h, e => by
  simp only [RepL, List.set_cons_succ] at h ⊢
  obtain ⟨x, t, h1, h2, h3⟩ := h
  exact ⟨x, t, h1, h2, RepL.nils k i h3 (by simpa using e)⟩
theorem aw_nils (i k : Nat) {X : Ctx} {Q : Exit → List AV → AHeap → Prop} {env env' : List AV} {H : AHeap} {c : Code} (hi : env[i]? = some (.d (.v (.slice none 0 0)))) (he : env.set i (.d (.sl k [])) = env') (h : AW X c Q env' H) : AW X c Q env H := by
 subst he
 intro s0 μ a w hN hs he hev
 exact h s0 μ a w hN hs ⟨he.defers, RepL.nils k i he.rep hi⟩ hev
theorem aops_nilcmp {P : Program} {tt : TTab} {base : World} {ops : Array Oper} {K : List AV → AHeap → Prop} {o : Oper} {rest : List Oper} {env : List AV} {H : AHeap} {l : List (List PD)} {e : Bool} (hg : o.guard = none) (hc : acall env o.op = none) (hs : astep tt H env o.op = none) (hn : nilCmp tt env o.op = some (l, e)) (k : ∀ b : Bool, (b = true → l = []) → AOps P tt base ops rest (aput env o.dst (.d (.v (.bool (b == e))))) H K) : AOps P tt base ops (o :: rest) env H K := by
 simp only [AOps, AGuard, hg, AStep, hc, hs, hn]
 exact k
theorem aops_pureF (l : Nat) {P : Program} {tt : TTab} {base : World} {ops : Array Oper} {K : List AV → AHeap → Prop} {o : Oper} {rest : List Oper} {env env' : List AV} {H H' : AHeap} {f : FuncId} {args args' : List AV} {r : AV} (hg : o.guard = none) (hc : acall env o.op = some (f, args)) (ha : frzL H[l]? l args = args') (hH : H.set l .dead = H') (h : PureA P base f args' r) (he : aput env o.dst r = env') (k : AOps P tt base ops rest env' H' K) : AOps P tt base ops (o :: rest) env H K :=
 aops_call hg hc ⟨_, calls_frz l ha hH (h H'), fun r' H'' ⟨e1, e2⟩ _ => by rw [e1, e2, he]; exact k⟩
end Av
end Go.Proofs.YtdekcppfpgeneaaGreatDoor
set_option linter.unusedVariables false
set_option linter.unusedSimpArgs false
namespace Go.Proofs.YtdekcppfpgeneaaGreatDoor
open Go Go.RowKit
namespace Av

/-! Operations one by one. -/
section
variable {P : Program} {tt : TTab} {base : World} {ops : Array Oper} {N0 : Nat} {K : List AV → AHeap → Prop} {o : Oper} {rest : List Oper} {env env' : List AV} {H H' : AHeap} {r : AV}
theorem aops_one (hg : o.guard = none) (hc : acall env o.op = none) (hs : astep tt H env o.op = some (r, H')) (he : aput env o.dst r = env') (k : AOps P tt base ops rest env' H' K) : AOps P tt base ops (o :: rest) env H K := by
 simp only [AOps, AGuard, hg, AStep, hc, hs, he]
 exact k
theorem aops_yes {j : Nat} {want : Bool} {y : Option Bool} (hg : o.guard = some (j, want)) (hc : acall env o.op = none) (hy : yieldedA ops env j = some y) (hb : wantB y want = true) (hs : astep tt H env o.op = some (r, H')) (he : aput env o.dst r = env') (k : AOps P tt base ops rest env' H' K) : AOps P tt base ops (o :: rest) env H K := by
 simp only [AOps, AGuard, hg, hy, hb, if_true, AStep, hc, hs, he]
 exact k
theorem aops_no {j : Nat} {want : Bool} {y : Option Bool} (hg : o.guard = some (j, want)) (hy : yieldedA ops env j = some y) (hb : wantB y want = false) (he : aput env o.dst skipV = env') (k : AOps P tt base ops rest env' H K) : AOps P tt base ops (o :: rest) env H K := by
 simp only [AOps, AGuard, hg, hy, hb, Bool.false_eq_true, if_false, he]
 exact k
end
end Av
end Go.Proofs.YtdekcppfpgeneaaGreatDoor
set_option linter.unusedVariables false
set_option linter.unusedSimpArgs false
namespace Go.Proofs.YtdekcppfpgeneaaGreatDoor
open Go Go.RowKit
namespace Av

/-! Guarded operations, whichever way the guard falls. -/
section
variable {P : Program} {tt : TTab} {base : World} {ops : Array Oper} {N0 : Nat} {K : List AV → AHeap → Prop} {o : Oper} {rest : List Oper} {env env' : List AV} {H H' : AHeap} {r : AV}
def AOpsC (P : Program) (tt : TTab) (base : World) (ops : Array Oper) (o : Oper) (rest : List Oper) (env : List AV) (H : AHeap) (K : List AV → AHeap → Prop) : Bool → Prop
 | true => AOps P tt base ops ({ o with guard := none } :: rest) env H K
 | false => AOps P tt base ops rest (aput env o.dst skipV) H K
theorem aops_grd {j : Nat} {want c : Bool} {y : Option Bool} (hg : o.guard = some (j, want)) (hy : yieldedA ops env j = some y) (hc : wantB y want = c) (k : AOpsC P tt base ops o rest env H K c) : AOps P tt base ops (o :: rest) env H K := by
 subst hc
 cases h : wantB y want with
 | true =>
  rw [h] at k
  have e : y = some want := by rw [wantB_eq] at h; simpa using h
  subst e
  exact aops_on hg hy k
 | false =>
  rw [h] at k
  simp only [AOps, AGuard, hg, hy, h, Bool.false_eq_true, if_false]
  exact k
theorem grd_on (k : AOps P tt base ops ({ o with guard := none } :: rest) env H K) : AOpsC P tt base ops o rest env H K true := k
theorem grd_off (he : aput env o.dst skipV = env') (k : AOps P tt base ops rest env' H K) : AOpsC P tt base ops o rest env H K false := by subst he; exact k
/-- a guard on a truth that is not known: both ways -/
theorem grd_split {b want : Bool} (he : aput env o.dst skipV = env') (h1 : b = want → AOps P tt base ops ({ o with guard := none } :: rest) env H K) (h2 : b = !want → AOps P tt base ops rest env' H K) : AOpsC P tt base ops o rest env H K (wantB (some b) want) := by
 subst he
 by_cases h : b = want
 ·have e : wantB (some b) want = true := by subst h; cases b <;> rfl
  rw [e]
  exact h1 h
 ·have e : wantB (some b) want = false := by cases b <;> cases want <;> first | rfl | exact absurd rfl h
  rw [e]
  exact h2 (by cases b <;> cases want <;> first | rfl | exact absurd rfl h)
def AHOpsC (P : Program) (tt : TTab) (base : World) (N0 : Nat) (ops : Array Oper) (o : Oper) (rest : List Oper) (env : List AV) (H : AHeap) (K : List AV → AHeap → Prop) : Bool → Prop
 | true => AHOps P tt base N0 ops ({ o with guard := none } :: rest) env H K
 | false => AHOps P tt base N0 ops rest (aput env o.dst skipV) H K
theorem ahops_grd {j : Nat} {want c : Bool} {y : Option Bool} (hg : o.guard = some (j, want)) (hy : yieldedA ops env j = some y) (hc : wantB y want = c) (k : AHOpsC P tt base N0 ops o rest env H K c) : AHOps P tt base N0 ops (o :: rest) env H K := by
 subst hc
 cases h : wantB y want with
 | true =>
  rw [h] at k
  have e : y = some want := by rw [wantB_eq] at h; simpa using h
  subst e
  exact ahops_on hg hy k
 | false =>
  rw [h] at k
  simp only [AHOps, AGuard, hg, hy, h, Bool.false_eq_true, if_false]
  exact k
theorem hgrd_on (k : AHOps P tt base N0 ops ({ o with guard := none } :: rest) env H K) : AHOpsC P tt base N0 ops o rest env H K true := k
theorem hgrd_off (he : aput env o.dst skipV = env') (k : AHOps P tt base N0 ops rest env' H K) : AHOpsC P tt base N0 ops o rest env H K false := by subst he; exact k
theorem hgrd_split {b want : Bool} (he : aput env o.dst skipV = env') (h1 : b = want → AHOps P tt base N0 ops ({ o with guard := none } :: rest) env H K) (h2 : b = !want → AHOps P tt base N0 ops rest env' H K) : AHOpsC P tt base N0 ops o rest env H K (wantB (some b) want) := by
 subst he
 by_cases h : b = want
 ·have e : wantB (some b) want = true := by subst h; cases b <;> rfl
  rw [e]
  exact h1 h
 ·have e : wantB (some b) want = false := by cases b <;> cases want <;> first | rfl | exact absurd rfl h
  rw [e]
  exact h2 (by cases b <;> cases want <;> first | rfl | exact absurd rfl h)
end
/-- a drawn region that is head alone -/
theorem aw_drawA {X : Ctx} {Q : Exit → List AV → AHeap → Prop} {env : List AV} {H : AHeap} {id : Nat} {ops : Array Oper} (hT : TabOk X.P X.tt) (hm : X.P.follows .mixedOrders = true) (hc : regOk ops = true) (hB : kindB .any ops ops.size = true) (hTl : tailB .any ops ops.size = true)
  (h : AHOps X.P X.tt X.base H.length ops ops.toList env H fun env' H' => Q .normal env' H') : AW X (.region id ops true) Q env H := by
 refine aw_draw ops.size hT hm hc hB hTl ?_
 have e1 : ops.toList.take ops.size = ops.toList := by rw [← Array.length_toList, List.take_length]
 have e2 : ops.toList.drop ops.size = [] := by rw [← Array.length_toList, List.drop_length]
 rw [e1, e2]
 simp only [AOps]
 exact h
end Av
end Go.Proofs.YtdekcppfpgeneaaGreatDoor
set_option linter.unusedVariables false
set_option linter.unusedSimpArgs false
namespace Go.Proofs.YtdekcppfpgeneaaGreatDoor
open Go Go.RowKit
namespace Av

/-! One operation, one premise. -/
section
variable {P : Program} {tt : TTab} {base : World} {ops : Array Oper} {N0 : Nat} {K : List AV → AHeap → Prop} {o : Oper} {rest : List Oper} {env env' : List AV} {H H' : AHeap} {C : Prop}
theorem aops_cons (k : AOps P tt base ops (o :: rest) env H K) : AOps P tt base ops (o :: rest) env H K := k
theorem ahops_cons (k : AHOps P tt base N0 ops (o :: rest) env H K) : AHOps P tt base N0 ops (o :: rest) env H K := k
theorem aops_o (hc : acall env o.op = none) (h : estep tt ops o (some (env, H)) = some (env', H')) (k : AOps P tt base ops rest env' H' K) : AOps P tt base ops (o :: rest) env H K :=
 aops_run 1 (l := o :: rest) (by simp only [erun, Option.map_some, Option.getD_some, hc]; exact h) k
theorem ahops_o (hc : acall env o.op = none) (h : hstep tt ops o (some (env, H, True)) = some (env', H', C)) (hC : C) (k : AHOps P tt base N0 ops rest env' H' K) : AHOps P tt base N0 ops (o :: rest) env H K :=
 ahops_run 1 (l := o :: rest) (C := True) (C' := C) (by simp only [hrun, Option.map_some, Option.getD_some, hc]; exact h) hC k
/-! a call whose function and arguments are known: its contract is then looked for -/
def AtC (P : Program) (tt : TTab) (base : World) (ops : Array Oper) (dst : Option Tmp) (rest : List Oper) (env : List AV) (H : AHeap) (K : List AV → AHeap → Prop) (f : FuncId) (args : List AV) : Prop :=
 ∃ R, CallsA P base f args H R ∧ ∀ r H', R r H' → H.length ≤ H'.length → AOps P tt base ops rest (aput env dst r) H' K
theorem aops_at {f : FuncId} {args : List AV} (hg : o.guard = none) (hc : acall env o.op = some (f, args)) (k : AtC P tt base ops o.dst rest env H K f args) : AOps P tt base ops (o :: rest) env H K := aops_call hg hc k
theorem at_p {dst : Option Tmp} {f : FuncId} {args : List AV} {r : AV} (h : PureA P base f args r) (he : aput env dst r = env') (k : AOps P tt base ops rest env' H K) : AtC P tt base ops dst rest env H K f args :=
 at_pure h (by rw [he]; exact k)
theorem at_r {dst : Option Tmp} {f : FuncId} {args : List AV} {r : AV} (h : ReadA P base f args H r) (he : aput env dst r = env') (k : AOps P tt base ops rest env' H K) : AtC P tt base ops dst rest env H K f args :=
 ⟨_, h, fun r' H' ⟨e1, e2⟩ _ => by rw [e1, e2, he]; exact k⟩
def AtH (P : Program) (tt : TTab) (base : World) (N0 : Nat) (ops : Array Oper) (dst : Option Tmp) (rest : List Oper) (env : List AV) (H : AHeap) (K : List AV → AHeap → Prop) (f : FuncId) (args : List AV) : Prop :=
 ∃ r, (∀ Hx : AHeap, (∀ l, l < N0 ∨ l ∈ refsL args → Hx[l]? = H[l]?) → CallsA P base f args Hx fun r' H' => r' = r ∧ H' = Hx) ∧ r.bel H.length ∧ AHOps P tt base N0 ops rest (aput env dst r) H K
theorem ahops_at {f : FuncId} {args : List AV} (hg : o.guard = none) (hc : acall env o.op = some (f, args)) (k : AtH P tt base N0 ops o.dst rest env H K f args) : AHOps P tt base N0 ops (o :: rest) env H K := ahops_call hg hc k
theorem ath_p {dst : Option Tmp} {f : FuncId} {args : List AV} {r : AV} (h : PureA P base f args r) (hb : r.bel H.length) (he : aput env dst r = env') (k : AHOps P tt base N0 ops rest env' H K) : AtH P tt base N0 ops dst rest env H K f args :=
 hd_pure (C := fun r H => AHOps P tt base N0 ops rest (aput env dst r) H K) h hb (by rw [he]; exact k)
theorem ath_r {dst : Option Tmp} {f : FuncId} {args : List AV} {r : AV} (h : ∀ Hx : AHeap, (∀ l, l < N0 ∨ l ∈ refsL args → Hx[l]? = H[l]?) → ReadA P base f args Hx r) (hb : r.bel H.length) (he : aput env dst r = env') (k : AHOps P tt base N0 ops rest env' H K) : AtH P tt base N0 ops dst rest env H K f args :=
 ⟨r, h, hb, by rw [he]; exact k⟩
/-! the same with what a run of the evaluator finds by itself -/
theorem rr {p : Prop} (h : p := by first | with_reducible rfl | rfl) : p := h
section
variable {j : Nat} {want c b : Bool} {y : Option Bool} {dst : Option Tmp} {f : FuncId} {args args' : List AV} {r : AV}
theorem zg (hg : o.guard = some (j, want)) (k : AOpsC P tt base ops o rest env H K c) (hy : yieldedA ops env j = some y := by simp only [avs] <;> rfl) (hc : wantB y want = c := by rfl) : AOps P tt base ops (o :: rest) env H K := aops_grd hg hy hc k
theorem zo (k : AOps P tt base ops rest env' H K) (he : aput env o.dst skipV = env' := by simp only [avs] <;> rfl) : AOpsC P tt base ops o rest env H K false := grd_off he k
theorem zs (h1 : b = want → AOps P tt base ops ({ o with guard := none } :: rest) env H K) (h2 : b = !want → AOps P tt base ops rest env' H K) (he : aput env o.dst skipV = env' := by simp only [avs] <;> rfl) : AOpsC P tt base ops o rest env H K (wantB (some b) want) := grd_split he h1 h2
theorem za (hg : o.guard = none) (k : AtC P tt base ops o.dst rest env H K f args) (hc : acall env o.op = some (f, args) := by simp only [avs] <;> rfl) : AOps P tt base ops (o :: rest) env H K := aops_at hg hc k
theorem zp (h : PureA P base f args r) (k : AOps P tt base ops rest env' H K) (he : aput env dst r = env' := by simp only [avs] <;> rfl) : AtC P tt base ops dst rest env H K f args := at_p h he k
theorem zd (h : ReadA P base f args H r) (k : AOps P tt base ops rest env' H K) (he : aput env dst r = env' := by simp only [avs] <;> rfl) : AtC P tt base ops dst rest env H K f args := at_r h he k
theorem zP (hg : o.guard = none) (h : PureA P base f args r) (k : AOps P tt base ops rest env' H K) (hc : acall env o.op = some (f, args) := by simp only [avs] <;> rfl) (he : aput env o.dst r = env' := by simp only [avs] <;> rfl) : AOps P tt base ops (o :: rest) env H K := aops_pure hg hc h he k
theorem zD (hg : o.guard = none) (h : ReadA P base f args H r) (k : AOps P tt base ops rest env' H K) (hc : acall env o.op = some (f, args) := by simp only [avs] <;> rfl) (he : aput env o.dst r = env' := by simp only [avs] <;> rfl) : AOps P tt base ops (o :: rest) env H K := aops_read hg hc h he k
theorem yg (hg : o.guard = some (j, want)) (k : AHOpsC P tt base N0 ops o rest env H K c) (hy : yieldedA ops env j = some y := by simp only [avs] <;> rfl) (hc : wantB y want = c := by rfl) : AHOps P tt base N0 ops (o :: rest) env H K := ahops_grd hg hy hc k
theorem yo (k : AHOps P tt base N0 ops rest env' H K) (he : aput env o.dst skipV = env' := by simp only [avs] <;> rfl) : AHOpsC P tt base N0 ops o rest env H K false := hgrd_off he k
theorem ys (h1 : b = want → AHOps P tt base N0 ops ({ o with guard := none } :: rest) env H K) (h2 : b = !want → AHOps P tt base N0 ops rest env' H K) (he : aput env o.dst skipV = env' := by simp only [avs] <;> rfl) : AHOpsC P tt base N0 ops o rest env H K (wantB (some b) want) := hgrd_split he h1 h2
theorem ya (hg : o.guard = none) (k : AtH P tt base N0 ops o.dst rest env H K f args) (hc : acall env o.op = some (f, args) := by simp only [avs] <;> rfl) : AHOps P tt base N0 ops (o :: rest) env H K := ahops_at hg hc k
theorem yp (h : PureA P base f args r) (k : AHOps P tt base N0 ops rest env' H K) (hb : r.bel H.length := by first | trivial | simp [AV.bel]) (he : aput env dst r = env' := by simp only [avs] <;> rfl) : AtH P tt base N0 ops dst rest env H K f args := ath_p h hb he k
theorem yd (h : ∀ Hx : AHeap, (∀ l, l < N0 ∨ l ∈ refsL args → Hx[l]? = H[l]?) → ReadA P base f args Hx r) (k : AHOps P tt base N0 ops rest env' H K) (hb : r.bel H.length := by simp [AV.bel]) (he : aput env dst r = env' := by simp only [avs] <;> rfl) : AtH P tt base N0 ops dst rest env H K f args := ath_r h hb he k
theorem yP (hg : o.guard = none) (h : PureA P base f args r) (k : AHOps P tt base N0 ops rest env' H K) (hc : acall env o.op = some (f, args) := by simp only [avs] <;> rfl) (hb : r.bel H.length := by trivial) (he : aput env o.dst r = env' := by simp only [avs] <;> rfl) : AHOps P tt base N0 ops (o :: rest) env H K := ahops_pure hg hc h hb he k
end
end
section
variable {X : Ctx} {Q : Exit → List AV → AHeap → Prop} {env : List AV} {H : AHeap} {id : Nat} {ops : Array Oper}
theorem zr (hT : TabOk X.P X.tt) (h : AOps X.P X.tt X.base ops ops.toList env H (fun env H => Q .normal env H)) (hc : regOk ops = true := by kernel_rfl) : AW X (.region id ops false) Q env H := aw_region hT hc h
theorem zf {c : Operand} {x y : Code} (hc : aeval env c = .d (.v (.bool false))) (ho : constOk c = true) (h : AW X y Q env H) : AW X (.cond c x y) Q env H := aw_cond hc ho (fun hb => absurd hb (by decide)) fun _ => h
theorem zt {c : Operand} {x y : Code} (hc : aeval env c = .d (.v (.bool true))) (ho : constOk c = true) (h : AW X x Q env H) : AW X (.cond c x y) Q env H := aw_cond hc ho (fun _ => h) fun hb => absurd hb (by decide)
theorem zw (n : Nat) (hT : TabOk X.P X.tt) (hm : X.P.follows .mixedOrders = true) (h : AHOps X.P X.tt X.base H.length ops (ops.toList.take n) env H fun env' H' => AOps X.P X.tt X.base ops (ops.toList.drop n) env' H' fun env H => Q .normal env H) (hc : regOk ops = true := by kernel_rfl) (hB : kindB .any ops n = true := by kernel_rfl) (hTl : tailB .any ops n = true := by kernel_rfl) : AW X (.region id ops true) Q env H := aw_draw n hT hm hc hB hTl h
end
end Av
end Go.Proofs.YtdekcppfpgeneaaGreatDoor
set_option linter.unusedVariables false
set_option linter.unusedSimpArgs false
namespace Go.Proofs.YtdekcppfpgeneaaGreatDoor
open Go Go.RowKit
namespace Av

/-! A call with a row of one's own az an argument, frozen; a call with rows viewed. -/
theorem at_v {P : Program} {tt : TTab} {base : World} {ops : Array Oper} {rest : List Oper} {env env' : List AV} {H : AHeap} {K : List AV → AHeap → Prop} {dst : Option Tmp} {f : FuncId} {args args' : List AV} {r : AV} (h : PureA P base f args' r) (hv : viewL H args = some args') (hf : flatA r = true) (he : aput env dst r = env') (k : AOps P tt base ops rest env' H K) : AtC P tt base ops dst rest env H K f args :=
 at_view (C := fun r H => AOps P tt base ops rest (aput env dst r) H K) h hv hf (he.symm ▸ k)
theorem at_f (l : Nat) {P : Program} {tt : TTab} {base : World} {ops : Array Oper} {rest : List Oper} {env env' : List AV} {H H' : AHeap} {K : List AV → AHeap → Prop} {dst : Option Tmp} {f : FuncId} {args args' : List AV} {r : AV} (ha : frzL H[l]? l args = args') (hH : H.set l .dead = H') (h : PureA P base f args' r) (he : aput env dst r = env') (k : AOps P tt base ops rest env' H' K) : AtC P tt base ops dst rest env H K f args :=
 ⟨_, calls_frz l ha hH (h H'), fun r0 H0 ⟨e1, e2⟩ _ => by subst e1 e2 he; exact k⟩
end Av
end Go.Proofs.YtdekcppfpgeneaaGreatDoor
set_option linter.unusedVariables false
namespace Go.Proofs.YtdekcppfpgeneaaGreatDoor
open Go
namespace Nt

/-! Natural numbers az limbs of nine decimal digits, the least one first: plain. -/
abbrev B9 : Nat := 1000000000
def valL : List Nat → Nat
 | [] => 0
 | a :: r => a + B9 * valL r
def trimL : List Nat → List Nat
 | [] => []
 | a :: r => match trimL r with
  | [] => if a = 0 then [] else [a]
  | t :: ts => a :: t :: ts
def LimbsOk (l : List Nat) : Prop := ∀ x ∈ l, x < B9
/-- without leading zeros -/
def Can (l : List Nat) : Prop := LimbsOk l ∧ trimL l = l
theorem valL_append (l m : List Nat) : valL (l ++ m) = valL l + B9 ^ l.length * valL m := by
 induction l with
 | nil => simp [valL]
 | cons a r ih => simp only [List.cons_append, valL, ih, List.length_cons, Nat.pow_succ, Nat.mul_add]; rw [Nat.mul_comm (B9 ^ r.length) B9, Nat.mul_assoc, Nat.add_assoc]
theorem valL_lt {l : List Nat} (h : LimbsOk l) : valL l < B9 ^ l.length := by
 induction l with
 | nil => simp [valL]
 | cons a r ih =>
  have h1 := ih fun x hx => h x (by simp [hx])
  have h2 : a < B9 := h a (by simp)
  simp only [valL, List.length_cons, Nat.pow_succ]
  have h3 : B9 * (valL r + 1) ≤ B9 * B9 ^ r.length := Nat.mul_le_mul_left _ h1
  rw [Nat.mul_comm (B9 ^ r.length)]
  rw [Nat.mul_add] at h3
  omega
theorem trim_snoc0 (l : List Nat) : trimL (l ++ [0]) = trimL l := by
 induction l with
 | nil => rfl
 | cons a r ih => simp only [List.cons_append, trimL, ih]
theorem trim_snoc {a : Nat} (h : a ≠ 0) (l : List Nat) : trimL (l ++ [a]) = l ++ [a] := by
 induction l with
 | nil => simp [trimL, h]
 | cons b r ih =>
  simp only [List.cons_append, trimL, ih]
  cases r <;> rfl
/-- the limbs of a number -/
def limbs (n : Nat) : List Nat := if h : n = 0 then [] else n % B9 :: limbs (n / B9)
 termination_by n
 decreasing_by exact Nat.div_lt_self (by omega) (by decide)
theorem limbs_zero : limbs 0 = [] := by unfold limbs; simp
theorem limbs_pos {n : Nat} (h : n ≠ 0) : limbs n = n % B9 :: limbs (n / B9) := by
 conv => lhs; unfold limbs
 rw [dif_neg h]
theorem limbs_val (n : Nat) : valL (limbs n) = n := by
 induction n using Nat.strongRecOn with
 | ind n ih =>
  by_cases h : n = 0
  ·subst h; rw [limbs_zero]; rfl
  ·rw [limbs_pos h, valL, ih _ (Nat.div_lt_self (by omega) (by decide))]
   exact Nat.mod_add_div n B9
theorem limbs_eq_nil {n : Nat} : limbs n = [] ↔ n = 0 := by
 constructor
 ·intro h
  have := limbs_val n
  rw [h] at this
  exact this.symm
 ·rintro rfl; exact limbs_zero
theorem limbs_ok (n : Nat) : LimbsOk (limbs n) := by
 induction n using Nat.strongRecOn with
 | ind n ih =>
  by_cases h : n = 0
  ·subst h; rw [limbs_zero]; intro x hx; simp at hx
  ·rw [limbs_pos h]
   intro x hx
   rcases List.mem_cons.1 hx with rfl | hx
   ·exact Nat.mod_lt _ (by decide)
   ·exact ih _ (Nat.div_lt_self (by omega) (by decide)) x hx
theorem trim_limbs {l : List Nat} (h : LimbsOk l) : trimL l = limbs (valL l) := by
 induction l with
 | nil => simp [trimL, valL, limbs_zero]
 | cons a r ih =>
  have h1 := ih fun x hx => h x (by simp [hx])
  have h2 : a < B9 := h a (by simp)
  unfold trimL
  rw [h1]
  have hm : (a + B9 * valL r) % B9 = a := by rw [Nat.add_mul_mod_self_left]; exact Nat.mod_eq_of_lt h2
  have hd : (a + B9 * valL r) / B9 = valL r := by rw [Nat.add_mul_div_left _ _ (by decide), Nat.div_eq_of_lt h2]; omega
  cases he : limbs (valL r) with
  | nil =>
   have h0 := limbs_eq_nil.1 he
   simp only [valL, h0, Nat.mul_zero, Nat.add_zero]
   by_cases ha : a = 0
   ·rw [if_pos ha, ha, limbs_zero]
   ·rw [if_neg ha, limbs_pos ha, Nat.mod_eq_of_lt h2, Nat.div_eq_of_lt h2, limbs_zero]
  | cons t ts =>
   have h0 : valL r ≠ 0 := fun e => by rw [e, limbs_zero] at he; cases he
   have hne : a + B9 * valL r ≠ 0 := by
    have : 0 < B9 * valL r := Nat.mul_pos (by decide) (by omega)
    omega
   simp only [valL]
   rw [limbs_pos hne, hm, hd, he]
theorem limbs_can (n : Nat) : Can (limbs n) := ⟨limbs_ok n, by rw [trim_limbs (limbs_ok n), limbs_val]⟩
theorem can_limbs {l : List Nat} (h : Can l) : l = limbs (valL l) := by rw [← trim_limbs h.1, h.2]
theorem limbs_len_le {n k : Nat} (h : n < B9 ^ k) : (limbs n).length ≤ k := by
 induction k generalizing n with
 | zero =>
  have : n = 0 := by simpa using h
  rw [this, limbs_zero]; exact Nat.le_refl _
 | succ k ih =>
  by_cases h0 : n = 0
  ·rw [h0, limbs_zero]; simp
  ·rw [limbs_pos h0, List.length_cons]
   have := ih (n := n / B9) (Nat.div_lt_of_lt_mul (by rw [Nat.pow_succ, Nat.mul_comm] at h; exact h))
   omega
theorem limbs_len_gt {n : Nat} (h : n ≠ 0) : B9 ^ ((limbs n).length - 1) ≤ n := by
 induction n using Nat.strongRecOn with
 | ind n ih =>
  rw [limbs_pos h, List.length_cons, Nat.add_sub_cancel]
  by_cases h0 : n / B9 = 0
  ·rw [h0, limbs_zero]; simp; omega
  ·have h1 := ih _ (Nat.div_lt_self (by omega) (by decide)) h0
   have h2 : (limbs (n / B9)).length ≠ 0 := fun e => h0 (limbs_eq_nil.1 (List.eq_nil_of_length_eq_zero e))
   have h3 : B9 ^ (limbs (n / B9)).length = B9 * B9 ^ ((limbs (n / B9)).length - 1) := by
    rw [Nat.mul_comm, ← Nat.pow_succ]; congr 1; omega
   rw [h3]
   calc B9 * B9 ^ ((limbs (n / B9)).length - 1) ≤ B9 * (n / B9) := Nat.mul_le_mul_left _ h1
    _ ≤ n := Nat.mul_div_le n B9
end Nt
end Go.Proofs.YtdekcppfpgeneaaGreatDoor
set_option linter.unusedVariables false
namespace Go.Proofs.YtdekcppfpgeneaaGreatDoor
open Go Go.RowKit

/-! the mixing of 64 bits -/
def mixB (z : BitVec 64) : BitVec 64 :=
 let a := z * 2862933555777941757#64
 let b := (a ^^^ (a >>> 32)) * 3935559000370003845#64
 b ^^^ (b >>> 29)

theorem wrapU (n : Int) : IntKind.u64.wrap n = n % 18446744073709551616 := by simp [IntKind.wrap, IntKind.bits, IntKind.signed]
end Go.Proofs.YtdekcppfpgeneaaGreatDoor
set_option linter.unusedVariables false
namespace Go.Proofs.YtdekcppfpgeneaaGreatDoor
open Go Go.RowKit

/-! blocks, states, digits -/
def byteAt (t : List UInt8) (i : Nat) : Nat := (t[i]?.getD 0).toNat
def blk (t : List UInt8) (f : Nat) : Nat → Nat
 | 0 => 0
 | k + 1 => blk t f k * 256 + byteAt t (f + k)
def st (t : List UInt8) : Nat → BitVec 64
 | 0 => 2611923443488327891#64 ^^^ BitVec.ofNat 64 t.length
 | j + 1 => mixB (st t j ^^^ BitVec.ofNat 64 (blk t (8 * j) 8))
end Go.Proofs.YtdekcppfpgeneaaGreatDoor
set_option linter.unusedVariables false
namespace Go.Proofs.YtdekcppfpgeneaaGreatDoor
open Go Go.RowKit

/-! equal digests of short texts, of texts that differ in one block -/
end Go.Proofs.YtdekcppfpgeneaaGreatDoor
set_option linter.unusedVariables false
namespace Go.Proofs.YtdekcppfpgeneaaGreatDoor
open Go Go.RowKit

/-! lists, chains, the form of a digest -/
def decVal (l : List UInt8) : Nat := l.foldl (fun a c => a * 10 + (c.toNat - 48)) 0
theorem dec_toNat (n : Nat) (h : n < 10) : (UInt8.ofNat (48 + n)).toNat = 48 + n := by
 have : ∀ m : Fin 10, (UInt8.ofNat (48 + m.val)).toNat = 48 + m.val := by decide
 exact this ⟨n, h⟩
theorem decVal_dec (n : Nat) : decVal (Lib.decDigits n) = n := by
 induction n using Nat.strongRecOn with
 | _ n ih =>
  rw [Lib.decDigits]
  split
  ·simp [decVal]; omega
  ·have e := ih (n / 10) (by omega)
   unfold decVal at e ⊢
   rw [List.foldl_append, e]
   simp only [List.foldl_cons, List.foldl_nil, dec_toNat _ (Nat.mod_lt n (by decide : 0 < 10))]
   omega
end Go.Proofs.YtdekcppfpgeneaaGreatDoor
set_option linter.unusedVariables false
set_option linter.unusedSimpArgs false
namespace Go.Proofs.YtdekcppfpgeneaaGreatDoor
open Go Go.RowKit
namespace Nt

/-! Decimal texts and limbs: plain. -/
theorem dec_lt {n : Nat} (h : n < 10) : Lib.decDigits n = [UInt8.ofNat (48 + n)] := by rw [Lib.decDigits, dif_pos h]
theorem dec_ge {n : Nat} (h : 10 ≤ n) : Lib.decDigits n = Lib.decDigits (n / 10) ++ [UInt8.ofNat (48 + n % 10)] := by rw [Lib.decDigits, dif_neg (by omega)]
theorem dec_pos (n : Nat) : 0 < (Lib.decDigits n).length := by
 rw [Lib.decDigits]
 split <;> simp
theorem dec_le (k : Nat) : ∀ n, n < 10 ^ (k + 1) → (Lib.decDigits n).length ≤ k + 1 := by
 induction k with
 | zero => intro n h; rw [dec_lt (by simpa using h)]; simp
 | succ k ih =>
  intro n h
  by_cases h10 : n < 10
  ·rw [dec_lt h10]; simp
  ·rw [dec_ge (by omega), List.length_append]
   have := ih (n / 10) (by rw [Nat.pow_succ] at h; omega)
   simp only [List.length_cons, List.length_nil]
   omega
theorem dec_pad (k : Nat) : ∀ v x, 0 < v → x < 10 ^ (k + 1) → Lib.decDigits (v * 10 ^ (k + 1) + x) = Lib.decDigits v ++ (List.replicate (k + 1 - (Lib.decDigits x).length) 48 ++ Lib.decDigits x) := by
 induction k with
 | zero =>
  intro v x hv hx
  have hx : x < 10 := by simpa using hx
  rw [dec_ge (by omega), dec_lt hx, show (v * 10 ^ (0 + 1) + x) / 10 = v by omega, show (v * 10 ^ (0 + 1) + x) % 10 = x by omega]
  simp
 | succ k ih =>
  intro v x hv hx
  obtain ⟨p, hp⟩ : ∃ p, p = 10 ^ (k + 1) := ⟨_, rfl⟩
  have hp0 : 0 < p := hp ▸ Nat.pow_pos (by decide)
  have hpx : 10 ^ (k + 1 + 1) = p * 10 := by rw [hp]; rfl
  rw [hpx] at hx ⊢
  have hvp : v * (p * 10) = v * p * 10 := (Nat.mul_assoc ..).symm
  have hge : 10 ≤ v * (p * 10) + x := by
   have : 1 * (1 * 10) ≤ v * (p * 10) := Nat.mul_le_mul hv (Nat.mul_le_mul hp0 (Nat.le_refl _))
   omega
  have h1 := ih v (x / 10) hv (by rw [← hp]; omega)
  rw [dec_ge hge, hvp, show (v * p * 10 + x) / 10 = v * p + x / 10 by omega, show (v * p * 10 + x) % 10 = x % 10 by omega, hp, h1]
  by_cases h10 : x < 10
  ·have hd : x / 10 = 0 := by omega
   rw [hd, dec_lt (by decide : (0 : Nat) < 10), dec_lt h10, Nat.mod_eq_of_lt h10]
   simp only [List.length_cons, List.length_nil, List.append_assoc]
   congr 1
   rw [show k + 1 + 1 - (0 + 1) = k + 1 by omega, show k + 1 - (0 + 1) = k by omega, List.replicate_succ']
   simp
  ·rw [dec_ge (n := x) (by omega)]
   simp only [List.length_append, List.length_cons, List.length_nil, List.append_assoc]
   rw [show k + 1 + 1 - ((Lib.decDigits (x / 10)).length + (0 + 1)) = k + 1 - (Lib.decDigits (x / 10)).length by omega]
def pad9 (x : Nat) : List UInt8 := List.replicate (9 - (Lib.decDigits x).length) 48 ++ Lib.decDigits x
theorem dec_B9 {v x : Nat} (hv : 0 < v) (hx : x < B9) : Lib.decDigits (x + B9 * v) = Lib.decDigits v ++ pad9 x := by
 have := dec_pad 8 v x hv hx
 rw [Nat.add_comm, Nat.mul_comm]
 exact this
theorem dec_9 {x : Nat} (hx : x < B9) : (Lib.decDigits x).length ≤ 9 := dec_le 8 x hx
theorem limbs_drop (m : Nat) : ∀ n, (limbs n).drop m = limbs (n / B9 ^ m) := by
 induction m with
 | zero => intro n; simp
 | succ m ih =>
  intro n
  by_cases h : n = 0
  ·subst h; rw [limbs_zero, Nat.zero_div, limbs_zero]; rfl
  ·rw [limbs_pos h, List.drop_succ_cons, ih, Nat.div_div_eq_div_mul, Nat.pow_succ, Nat.mul_comm B9]
theorem limbs_get (n m : Nat) (h : m < (limbs n).length) : (limbs n).getD m 0 = n / B9 ^ m % B9 ∧ n / B9 ^ m ≠ 0 := by
 have h1 := limbs_drop m n
 have h2 : (limbs n).drop m = (limbs n).getD m 0 :: (limbs n).drop (m + 1) := by
  rw [List.drop_eq_getElem_cons h]
  simp [List.getD, h]
 rw [h2] at h1
 by_cases h0 : n / B9 ^ m = 0
 ·rw [h0, limbs_zero] at h1; cases h1
 ·rw [limbs_pos h0] at h1
  simp only [List.cons.injEq] at h1
  exact ⟨h1.1, h0⟩
theorem limbs_end (n : Nat) : n / B9 ^ (limbs n).length = 0 := by
 have := limbs_drop (limbs n).length n
 rw [List.drop_length] at this
 exact limbs_eq_nil.1 this.symm
theorem limb_step (n m : Nat) : n / B9 ^ m = n / B9 ^ m % B9 + B9 * (n / B9 ^ (m + 1)) := by
 rw [Nat.pow_succ, ← Nat.div_div_eq_div_mul]
 exact (Nat.mod_add_div _ _).symm
/-! digits -/
def digitB (c : UInt8) : Bool := 48 ≤ c.toNat && c.toNat ≤ 57
theorem decVal_foldl (l : List UInt8) : ∀ a, l.foldl (fun a c => a * 10 + (c.toNat - 48)) a = a * 10 ^ l.length + decVal l := by
 induction l with
 | nil => intro a; simp [decVal]
 | cons c r ih =>
  intro a
  unfold decVal
  simp only [List.foldl_cons, List.length_cons]
  rw [ih, ih (0 * 10 + (c.toNat - 48)), Nat.pow_succ, Nat.add_mul, Nat.mul_assoc, Nat.mul_comm 10, Nat.zero_mul, Nat.zero_add]
  omega
theorem decVal_append (a b : List UInt8) : decVal (a ++ b) = decVal a * 10 ^ b.length + decVal b := by
 conv => lhs; unfold decVal
 rw [List.foldl_append, decVal_foldl]
 rfl
theorem decVal_lt {l : List UInt8} (h : l.all digitB = true) : decVal l < 10 ^ l.length := by
 induction l with
 | nil => decide
 | cons c r ih =>
  simp only [List.all_cons, Bool.and_eq_true] at h
  have h1 := ih h.2
  have : decVal (c :: r) = decVal [c] * 10 ^ r.length + decVal r := decVal_append [c] r
  have h2 : decVal [c] = c.toNat - 48 := by simp [decVal]
  have h3 : c.toNat ≤ 57 := by have := h.1; simp [digitB] at this; omega
  rw [this, h2, List.length_cons, Nat.pow_succ]
  have : (c.toNat - 48) * 10 ^ r.length ≤ 9 * 10 ^ r.length := Nat.mul_le_mul_right _ (by omega)
  omega
theorem parse_dec : ∀ (l : List UInt8) (acc k : Nat), l.all digitB = true → acc < 10 ^ k → k + l.length ≤ 18 → Lib.parseUint10 acc l = .ok (acc * 10 ^ l.length + decVal l)
 | [], acc, k, _, _, _ => by simp [Lib.parseUint10, decVal]
 | c :: r, acc, k, h, ha, hk => by
  simp only [List.all_cons, Bool.and_eq_true] at h
  have hd := h.1
  simp [digitB] at hd
  have hk2 : k + 1 ≤ 18 := by simp only [List.length_cons] at hk; omega
  have h17 : acc < 10 ^ 17 := Nat.lt_of_lt_of_le ha (Nat.pow_le_pow_right (by decide) (by omega))
  have h17' : acc < 100000000000000000 := h17
  have hr := parse_dec r (acc * 10 + (c.toNat - 48)) (k + 1) h.2 (by rw [Nat.pow_succ]; omega) (by simp only [List.length_cons] at hk; omega)
  rw [Lib.parseUint10, if_pos hd, if_neg (by omega), if_neg (by omega), hr]
  have e : decVal (c :: r) = decVal [c] * 10 ^ r.length + decVal r := decVal_append [c] r
  have h2 : decVal [c] = c.toNat - 48 := by simp [decVal]
  rw [e, h2, List.length_cons, Nat.pow_succ, Nat.add_mul, Nat.mul_assoc, Nat.mul_comm 10]
  congr 1
  omega
theorem parse_9 {l : List UInt8} (h : l.all digitB = true) (hl : l.length ≤ 18) : Lib.parseUint10 0 l = .ok (decVal l) := by
 have := parse_dec l 0 0 h (by decide) (by omega)
 simpa using this
theorem all_drop {l : List UInt8} (h : l.all digitB = true) (k : Nat) : (l.drop k).all digitB = true := by
 rw [List.all_eq_true] at h ⊢
 exact fun x hx => h x (List.mem_of_mem_drop hx)
theorem all_take {l : List UInt8} (h : l.all digitB = true) (k : Nat) : (l.take k).all digitB = true := by
 rw [List.all_eq_true] at h ⊢
 exact fun x hx => h x (List.mem_of_mem_take hx)
/-- the limbs that are read so far: those behind the place e -/
structure ParI (l : List UInt8) (e : Nat) (out : List Nat) : Prop where
 le : e ≤ l.length
 ok : LimbsOk out
 len : 9 * out.length = l.length - e
 val : valL out = decVal (l.drop e)
theorem ParI.start (l : List UInt8) : ParI l l.length [] := ⟨Nat.le_refl _, fun x hx => by simp at hx, by simp, by rw [List.drop_length]; rfl⟩
def segE (l : List UInt8) (e : Nat) : List UInt8 := (l.drop (e - 9)).take (e - (e - 9))
theorem drop_seg {l : List UInt8} {e : Nat} (h : e ≤ l.length) : l.drop (e - 9) = segE l e ++ l.drop e := by
 unfold segE
 conv => lhs; rw [← List.take_append_drop (e - (e - 9)) (l.drop (e - 9))]
 rw [List.drop_drop, show e - 9 + (e - (e - 9)) = e by omega]
theorem seg_len {l : List UInt8} {e : Nat} (h : e ≤ l.length) : (segE l e).length = e - (e - 9) := by
 unfold segE
 rw [List.length_take, List.length_drop]
 omega
theorem seg_all {l : List UInt8} (hd : l.all digitB = true) (e : Nat) : (segE l e).all digitB = true := all_take (all_drop hd _) _
theorem seg_lt {l : List UInt8} (hd : l.all digitB = true) {e : Nat} (h : e ≤ l.length) : decVal (segE l e) < B9 := by
 have := decVal_lt (seg_all hd e)
 refine Nat.lt_of_lt_of_le this ?_
 show 10 ^ _ ≤ 10 ^ 9
 exact Nat.pow_le_pow_right (by decide) (by rw [seg_len h]; omega)
theorem pow_B9 (k : Nat) : (10 : Nat) ^ (9 * k) = B9 ^ k := Nat.pow_mul 10 9 k
theorem ParI.val' {l : List UInt8} {e : Nat} {out : List Nat} (h : ParI l e out) : valL (out ++ [decVal (segE l e)]) = decVal (l.drop (e - 9)) := by
 rw [valL_append, h.val, drop_seg h.le, decVal_append, List.length_drop, ← h.len, pow_B9]
 simp only [valL]
 rw [Nat.mul_zero, Nat.add_zero, Nat.mul_comm, Nat.add_comm]
theorem ParI.ok' {l : List UInt8} (hd : l.all digitB = true) {e : Nat} {out : List Nat} (h : ParI l e out) : LimbsOk (out ++ [decVal (segE l e)]) := fun x hx => by
 rcases List.mem_append.1 hx with hx | hx
 ·exact h.ok x hx
 ·simp only [List.mem_singleton] at hx; subst hx; exact seg_lt hd h.le
theorem ParI.step {l : List UInt8} (hd : l.all digitB = true) {e : Nat} {out : List Nat} (h : ParI l e out) (h9 : 9 ≤ e) : ParI l (e - 9) (out ++ [decVal (segE l e)]) :=
 ⟨by have := h.le; omega, h.ok' hd, by have := h.len; have := h.le; simp only [List.length_append, List.length_cons, List.length_nil]; omega, h.val'⟩
theorem ParI.fin {l : List UInt8} {out : List Nat} (h : ParI l 0 out) : trimL out = limbs (decVal l) := by
 rw [trim_limbs h.ok, h.val, List.drop_zero]
theorem ParI.last {l : List UInt8} (hd : l.all digitB = true) {e : Nat} {out : List Nat} (h : ParI l e out) (h9 : e < 9) : trimL (out ++ [decVal (segE l e)]) = limbs (decVal l) := by
 rw [trim_limbs (h.ok' hd), h.val', show e - 9 = 0 by omega, List.drop_zero]
end Nt
end Go.Proofs.YtdekcppfpgeneaaGreatDoor
set_option linter.unusedVariables false
set_option linter.unusedSimpArgs false
namespace Go.Proofs.YtdekcppfpgeneaaGreatDoor
open Go Go.RowKit
namespace Av

/-! A nil slice az an empty row of one's own: what is appended to it needs no way of its own. -/
theorem Sim.nilrow {base : World} {s : St} (hs : Sim base s) (ty k : Nat) : ∃ μ', Sim base ⟨μ', s.H ++ [.row ty k 0 []], s.w⟩ ∧ Evo s.H.length s ⟨μ', s.H ++ [.row ty k 0 []], s.w⟩ ∧ Rep ⟨μ', s.H ++ [.row ty k 0 []], s.w⟩ (.ms s.H.length 0 0) (.slice none 0 0) := by
 obtain ⟨f1, f2⟩ := hs.free
 have ho : (s.H ++ [AObj.free])[s.H.length]? = some .free := H_get0 s.H _
 have hd := f1.drop ho (o' := .row ty k 0 []) (.inr (.inl ⟨rfl, ty, k, 0, rfl⟩))
 have hset : (s.H ++ [AObj.free]).set s.H.length (.row ty k 0 []) = s.H ++ [.row ty k 0 []] := H_set0 s.H _ _
 simp only [hset] at hd
 refine ⟨_, hd.1, f2.trans (hd.2.mono (by simp)), ?_⟩
 simp only [Rep, MsRep, H_get0, List.getElem?_cons_zero]
 exact ⟨⟨_, _, rfl⟩, lexle.refl _ _, fun _ _ => .inl ⟨upd_same _ _ _, by first | rfl | trivial, by first | rfl | trivial⟩⟩
theorem RepL.nilrow {s s' : St} {x : AV} (hx : Rep s' x (.slice none 0 0)) (he : Evo s.H.length s s') : ∀ {l : List AV} {vs : List Value} (i : Nat), RepL s l vs → l[i]? = some (.d (.v (.slice none 0 0))) → RepL s' (l.set i x) vs
 | [], vs, i, h, e => by simp at e
 | a :: r, vs, 0, h, e => by
  simp only [List.getElem?_cons_zero, Option.some.injEq] at e
  subst e
  simp only [RepL, List.set_cons_zero] at h ⊢
  obtain ⟨y, t, h1, h2, h3⟩ := h
  simp only [Rep, PRep] at h2
  exact ⟨y, t, h1, by rw [h2.1]; exact hx, RepL.evo he _ _ h3⟩
 | a :: r, vs, i + 1, h, e => by
  simp only [RepL, List.set_cons_succ] at h ⊢
  obtain ⟨y, t, h1, h2, h3⟩ := h
  exact ⟨y, t, h1, Rep.evo he _ _ h2, RepL.nilrow hx he i h3 (by simpa using e)⟩
theorem aw_nilrow (i ty k : Nat) {X : Ctx} {Q : Exit → List AV → AHeap → Prop} {env env' : List AV} {H : AHeap} {c : Code} (hi : env[i]? = some (.d (.v (.slice none 0 0)))) (he : env.set i (.ms H.length 0 0) = env') (h : AW X c Q env' (H ++ [.row ty k 0 []])) : AW X c Q env H := by
 subst he
 intro s0 μ a w hN hs he hev
 obtain ⟨μ', h1, h2, h3⟩ := hs.nilrow ty k
 exact h s0 μ' a w (by simp; omega) h1 ⟨he.defers.keeps h2.keeps, RepL.nilrow h3 h2 i he.rep hi⟩ (hev.trans (h2.mono hN))
/-- ways come together in a relation -/
theorem aw_mid2 {X : Ctx} {c y : Code} {Q Q2 : Exit → List AV → AHeap → Prop} {env : List AV} {H : AHeap} (Q0 : List AV → AHeap → Prop) (h : AW X c (fun ex env' H' => ex = .normal ∧ ∃ env0 H0, Goes X env' H' env0 H0 ∧ Q0 env0 H0) env H) (k : ∀ env0 H0, Q0 env0 H0 → AW X y Q2 env0 H0) : AW X c (thenA (fun env H => AW X y Q2 env H) Q) env H :=
 h.mono fun ex env H ⟨e, env0, H0, g, q⟩ => by subst e; exact aw_goes g (k _ _ q)
end Av
end Go.Proofs.YtdekcppfpgeneaaGreatDoor
set_option linter.unusedVariables false
set_option linter.unusedSimpArgs false
namespace Go.Proofs.YtdekcppfpgeneaaGreatDoor
open Go Go.RowKit
namespace Av

/-! A range over a function whose elements are known. -/
theorem wpIn_any {P : Program} {r : Option Nat} {n m : Nat} {c : Code} {Q : Exit → Act → World → Prop} {a : Act} {w : World} (h : c.wpIn (FR r) n P Q a w) : c.wpIn (FR r) m P Q a w :=
 fun b k cs hro hb _ => h b k cs hro hb fun d hd => by cases hd
/-- an iterator that gives these elements, one by one, and turns nothing itself -/
def SeqW (P : Program) (gf : Nat) (lb : Array Value) (encs : List (Array Value)) (s : St) : Prop :=
 ∀ (l : Nat) (J : Nat → World → Prop) (Jx : World → Prop) (W : World), (∀ k W1, J k W1 → ∀ b, s.imm b → W1.heap[b]? = s.w.heap[b]?) →
  (∀ k W1, k < encs.length → J k W1 → YieldAt Fence.wide 7 P l (encs.getD k #[]) W1 fun e W' => (e = .returned (.bool true) ∧ J (k + 1) W') ∨ (e = .returned (.bool false) ∧ Jx W')) →
  J 0 W → CallsIn Fence.wide 8 P gf (#[.func (.yield l) #[] #[]] ++ lb) W fun e W' => (∃ v, e = .returned v) ∧ (J encs.length W' ∨ Jx W')
def setPs (env : List AV) (ps : List Tmp) (xs : List AV) : List AV := (ps.zip xs).foldl (fun e p => e.set p.1 p.2) env
theorem setPs_rep {s : St} : ∀ (ps : List Tmp) (xs : List AV) (vs : List Value) (env : List AV) (t : Array Value), RepL s env t.toList → RepL s xs vs → RepL s (setPs env ps xs) ((ps.zip vs).foldl (fun t p => t.setIfInBounds p.1 p.2) t).toList
 | [], xs, vs, env, t, h, k => by simpa [setPs] using h
 | p :: ps, [], vs, env, t, h, k => by
  simp only [RepL] at k
  subst k
  simpa [setPs] using h
 | p :: ps, x :: xs, vs, env, t, h, k => by
  simp only [RepL] at k
  obtain ⟨v, r, rfl, k1, k2⟩ := k
  have := setPs_rep ps xs r (env.set p x) (t.setIfInBounds p v) (by simpa using RepL.set k1 p h) k2
  simpa [setPs] using this
def rndA (J : Nat → AHeap → Prop) (Jx : Code → AHeap → Prop) (k : Nat) : Exit → List AV → AHeap → Prop
 | .normal, _, H => J (k + 1) H
 | .ret, _, H => Jx .ret H
 | .exit id, _, H => Jx (.exit id) H
 | .goto t, _, H => Jx (.goto t) H
 | _, _, _ => False
theorem not_live {base : World} {s : St} (hs : Sim base s) {D : Nat} {x : Obj} (hx : s.w.heap[D]? = some x) (h1 : ∀ arr ty fr, x ≠ .cells arr ty fr) (h2 : ∀ e c, x ≠ .map e c) : ¬ s.live D := by
 rintro ⟨l, o, k1, k2, k3⟩
 have ho := hs.obj l o k1
 cases o with
 | free => cases k2
 | dead => cases k2
 | box ty cells =>
  obtain ⟨b, arr, q1, q2, q3, q4⟩ := ho
  rw [k3] at q1; cases q1
  rw [hx] at q3; exact h1 _ _ _ (Option.some.inj q3)
 | row ty k ver items =>
  rcases ho.2.2 with ⟨q1, _⟩ | ⟨b, arr, f, r, q1, q2, q3, q4, q5⟩
  ·rw [k3] at q1; cases q1
  ·rw [k3] at q1; cases q1
   rw [hx] at q3; exact h1 _ _ _ (Option.some.inj q3)
 | mp kt et ks es =>
  obtain ⟨_, b, ents, clock, q1, q2, q3, q4⟩ := ho
  rw [k3] at q1; cases q1
  rw [hx] at q3; exact h2 _ _ (Option.some.inj q3)
set_option maxHeartbeats 1000000 in
theorem aw_range {P : Program} {tt : TTab} {base : World} {N : Nat} {Q : Exit → List AV → AHeap → Prop} {env : List AV} {H : AHeap} {g : Operand} {ps : Array Tmp} {assign body : Code} {gf : Nat} {caps : List AV} (elems : List (List AV))
  (hg : aeval env g = .fn (.func gf) [] caps) (hgo : constOk g = true) (eg : ∀ args w, (callFunc gf args).run P w = .ok (.enter gf args) w)
  (hseq : ∀ μ w (lb : Array Value), Sim base ⟨μ, H, w⟩ → RepL ⟨μ, H, w⟩ caps lb.toList → ∃ encs : List (Array Value), SeqW P gf lb encs ⟨μ, H, w⟩ ∧ encs.length = elems.length ∧ ∀ k, k < elems.length → (encs.getD k #[]).size = ps.size ∧ RepL ⟨μ, H, w⟩ (elems.getD k []) (encs.getD k #[]).toList)
  (J : Nat → AHeap → Prop) (Jx : Code → AHeap → Prop) (h0 : J 0 H)
  (hround : ∀ l k H', k < elems.length → J k H' → H.length ≤ H'.length → AW ⟨P, tt, base, H.length, some l⟩ assign (fun e env1 H1 => e = .normal ∧ AW ⟨P, tt, base, H.length, some l⟩ body (rndA J Jx k) env1 H1) (setPs env ps.toList (elems.getD k [])) H')
  (hdone : ∀ H', J elems.length H' → H.length ≤ H'.length → Q .normal env H')
  (hstop : ∀ c H', Jx c H' → H.length ≤ H'.length → AW ⟨P, tt, base, N, none⟩ c Q env H') : AW ⟨P, tt, base, N, none⟩ (.rangeFunc g ps assign body) Q env H := by
 intro s0 μ a w hN hs he hev
 have hge := he.eval hgo
 rw [hg] at hge
 simp only [Rep] at hge
 obtain ⟨vf, lb, hgv, hf1, hcaps⟩ := hge
 simp only [RepL] at hf1
 obtain rfl : vf = #[] := Array.toList_eq_nil_iff.1 hf1
 obtain ⟨encs, hsw, hlen, helem⟩ := hseq μ w lb hs hcaps
 refine wpIn_rangeFunc (F := FR none) ?_
 intro fn hfn
 obtain ⟨rec, hrec⟩ : ∃ rec : LoopState → Option Code → Loop, rec = fun st pe => { state := st, pending := pe, fn, tmps := a.tmps, params := ps, assign, body, defers := w.heap.size } := ⟨_, rfl⟩
 obtain ⟨W1, hW1⟩ : ∃ W1, (w.alloc (.deferred (some []))).alloc (.loop (rec .ready none)) = W1 := ⟨_, rfl⟩
 have hL1 : W1.heap[w.heap.size + 1]? = some (.loop (rec .ready none)) := by
  rw [← hW1]; have := World.alloc_heap_new (w.alloc (.deferred (some []))) (.loop (rec .ready none)); rwa [World.size_alloc] at this
 have hK1 : W1.heap[w.heap.size]? = some (.deferred (some [])) := by
  rw [← hW1]; exact (Below.heap_alloc _ _ _ (by simp)).trans (World.alloc_heap_new w _)
 have hb1 : Below w.heap.size w W1 := by
  rw [← hW1]; exact ((Below.refl _ w).alloc (Nat.le_refl _) _).alloc (by simp) _
 obtain ⟨hs1, hev1⟩ := Sim.below' (s := ⟨μ, H, w⟩) hs hb1
 -- what holds between two rounds
 let core : AHeap → World → Loop → Prop := fun H' W r => ∃ μ', H.length ≤ H'.length ∧ Sim base ⟨μ', H', W⟩ ∧ Evo H.length ⟨μ, H, w⟩ ⟨μ', H', W⟩ ∧ W.heap[w.heap.size + 1]? = some (.loop r) ∧ W.heap[w.heap.size]? = some (.deferred (some []))
 -- the record is turned
 have turn : ∀ {H' W r} (r' : Loop), core H' W r → core H' (W.putObj (w.heap.size + 1) (.loop r')) r' := by
  rintro H' W r r' ⟨μ', c1, c2, c3, c4, c5⟩
  have ho : Oth ⟨μ', H', W⟩ (w.heap.size + 1) (W.putObj (w.heap.size + 1) (.loop r')) := oth_put (s := ⟨μ', H', W⟩) c4 (fun _ _ _ e => by cases e) (fun _ _ _ e => by cases e) (not_live c2 c4 (fun _ _ _ e => by cases e) fun _ _ e => by cases e)
  have hbs := hs.below.size
  exact ⟨μ', c1, c2.oth ho (by simp only at hbs; omega) rfl rfl rfl, c3.oth c2 ho (by simp only; omega), World.putObj_heap_same (Array.getElem?_eq_some_iff.1 c4).1, (World.putObj_heap_other (by omega)).trans c5⟩
 have hcore1 : core H W1 (rec .ready none) := ⟨μ, Nat.le_refl _, hs1, hev1, hL1, hK1⟩
 refine ⟨w.heap.size + 1, [markOf w.heap.size], W1, { target := .fn (.func gf) lb, args := #[.func (.yield (w.heap.size + 1)) #[] #[]] }, W1, gf, #[.func (.yield (w.heap.size + 1)) #[] #[]] ++ lb, W1, ?_, ?_, ?_, ?_, fun _ => by omega, ?_⟩
 ·rw [← hW1, hrec]; exact run_enterLoop_outer _ _ _ _ _
 ·simp only [resolve, rangeCall, hgv]
  simp [go_sem]
 ·intro f' hf'; trivial
 ·simp [invoke, go_sem, eg]
 have hafter : ∀ {H' W r}, core H' W r → EnvRep (flr none s0) ⟨μ, H, w⟩ env a ∧ ∃ μ', N ≤ H'.length ∧ Sim base ⟨μ', H', W⟩ ∧ EnvRep (flr none s0) ⟨μ', H', W⟩ env { a with defers := [markOf w.heap.size] ++ a.defers } ∧ Evo N s0 ⟨μ', H', W⟩ := by
  rintro H' W r ⟨μ', c1, c2, c3, c4, c5⟩
  refine ⟨he, μ', Nat.le_trans hN c1, c2, ⟨?_, RepL.evo c3 _ _ he.rep⟩, hev.trans (c3.mono hN)⟩
  obtain ⟨Ds, e1, e2, e3⟩ := he.defers.keeps c3.keeps
  obtain ⟨Ds', e1', e2', e3'⟩ := he.defers
  have hsz := hev.keeps.size
  have eq : Ds' = Ds := by
   have : Ds'.map markOf = Ds.map markOf := e1'.symm.trans e1
   exact (List.map_inj_right fun x y h => by cases h; rfl).1 this
  subst eq
  refine ⟨w.heap.size :: Ds', by rw [List.map_cons, ← e1]; rfl, List.nodup_cons.2 ⟨fun hm => ?_, e2⟩, fun D hD => ?_⟩
  ·have := (e3' _ hm).2.1.1
   simp only at this
   omega
  ·rcases List.mem_cons.1 hD with rfl | hD
   ·exact ⟨hsz, ⟨(Array.getElem?_eq_some_iff.1 c5).1, not_live c2 c5 (fun _ _ _ e => by cases e) fun _ _ e => by cases e⟩, c5⟩
   ·exact e3 D hD
 refine (hsw (w.heap.size + 1) (fun k W => ∃ H', J k H' ∧ core H' W (rec .ready none)) (fun W => ∃ c H', Jx c H' ∧ core H' W (rec .done (some c))) W1
  (fun k W ⟨H', _, μ', _, _, c3, _⟩ b hb => c3.keeps.heap b hb) ?_ ⟨H, h0, hcore1⟩).mono ?_
 ·-- one round
  rintro k W hk ⟨H', hJ, hcore⟩
  rw [hlen] at hk
  obtain ⟨μ', c1, c2, c3, c4, c5⟩ := hcore
  obtain ⟨hsz, hel⟩ := helem k hk
  have hy := run_yield (P := P) (args := encs.getD k #[]) c4 (by rw [hrec]; exact hsz)
  rw [hrec] at hy
  refine ⟨fn, _, assign, body, hy, roundIn_of_wpIn hfn ?_⟩
  have henv : EnvRep 0 ⟨μ', H', W⟩ (setPs env ps.toList (elems.getD k [])) { tmps := (ps.zip (encs.getD k #[])).foldl (fun t (p, v) => t.setIfInBounds p v) a.tmps, defers := [] } := by
   refine ⟨MarksOk.nil _ _, ?_⟩
   have := setPs_rep ps.toList (elems.getD k []) (encs.getD k #[]).toList env a.tmps (RepL.evo c3 _ _ he.rep) (RepL.evo c3 _ _ hel)
   rw [← Array.toList_zip, Array.foldl_toList] at this
   exact this
  have ha := hround (w.heap.size + 1) k H' hk hJ c1 ⟨μ', H', W⟩ μ' _ W c1 c2 henv (.refl _ _)
  refine wpIn_any (m := 7) (wpIn_mono ha ?_)
  rintro e a1 w1 ⟨μ1, env1, H1, ⟨rfl, hbd⟩, g1, g2, g3, g4⟩
  have im : ∀ {D : Nat} {x : Obj}, W.heap[D]? = some x → (∀ arr ty fr, x ≠ .cells arr ty fr) → (∀ e c, x ≠ .map e c) → w1.heap[D]? = some x := fun {D x} hx n1 n2 => (g4.keeps.heap D ⟨(Array.getElem?_eq_some_iff.1 hx).1, not_live c2 hx n1 n2⟩).trans hx
  have i1 := im c4 (fun _ _ _ e => by cases e) fun _ _ e => by cases e
  have i2 := im c5 (fun _ _ _ e => by cases e) fun _ _ e => by cases e
  refine ⟨_, run_beginRound i1 (by rw [hrec]), ?_⟩
  have ho : Oth ⟨μ1, H1, w1⟩ (w.heap.size + 1) (w1.putObj (w.heap.size + 1) (.loop { rec .ready none with state := .busy })) := oth_put (s := ⟨μ1, H1, w1⟩) i1 (fun _ _ _ e => by cases e) (fun _ _ _ e => by cases e) (not_live g2 i1 (fun _ _ _ e => by cases e) fun _ _ e => by cases e)
  have hbs := hs.below.size
  have j2 := g2.oth ho (show base.heap.size ≤ w.heap.size + 1 from Nat.le_succ_of_le hbs) rfl rfl rfl
  have j1 : (w1.putObj (w.heap.size + 1) (.loop { rec .ready none with state := .busy })).heap[w.heap.size + 1]? = some (.loop { rec .ready none with state := .busy }) := World.putObj_heap_same (Array.getElem?_eq_some_iff.1 i1).1
  have j3 : (w1.putObj (w.heap.size + 1) (.loop { rec .ready none with state := .busy })).heap[w.heap.size]? = some (.deferred (some [])) := (World.putObj_heap_other (by omega)).trans i2
  have j4 : Evo H.length ⟨μ, H, w⟩ ⟨μ1, H1, w1.putObj (w.heap.size + 1) (.loop { rec .ready none with state := .busy })⟩ := (c3.trans g4).oth g2 ho (by simp only; omega)
  generalize w1.putObj (w.heap.size + 1) (.loop { rec .ready none with state := .busy }) = w2 at *
  have hm2 : EnvRep 0 ⟨μ1, H1, w2⟩ env1 a1 := by
   refine ⟨?_, RepL.oth g2 ho _ _ g3.rep⟩
   obtain ⟨Ds, e1, e2, e3⟩ := g3.defers
   refine ⟨Ds, e1, e2, fun D hD => ?_⟩
   obtain ⟨d1, d2, d3⟩ := e3 D hD
   have hne : D ≠ w.heap.size + 1 := fun e => by
    subst e
    simp only at d3
    rw [i1] at d3; cases d3
   exact ⟨d1, ho.imm d2, (ho.same D hne d2.1).trans d3⟩
  have hbd' := hbd ⟨μ1, H1, w2⟩ μ1 a1 w2 g1 j2 hm2 (.refl _ _)
  refine wpIn_any (m := 7) (wpIn_mono hbd' ?_)
  rintro e a3 w3 ⟨μ3, env3, H3, r1, r2, r3, r4, r5⟩
  have im2 : ∀ {D : Nat} {x : Obj}, w2.heap[D]? = some x → (∀ arr ty fr, x ≠ .cells arr ty fr) → (∀ e c, x ≠ .map e c) → w3.heap[D]? = some x := fun {D x} hx n1 n2 => (r5.keeps.heap D ⟨(Array.getElem?_eq_some_iff.1 hx).1, not_live j2 hx n1 n2⟩).trans hx
  have k1 := im2 j1 (fun _ _ _ e => by cases e) fun _ _ e => by cases e
  have k2 := im2 j3 (fun _ _ _ e => by cases e) fun _ _ e => by cases e
  have core3 : core H3 w3 { rec .ready none with state := .busy } := ⟨μ3, r2, r3, j4.trans r5, k1, k2⟩
  cases e with
  | normal => exact ⟨_, _, run_endRound none k1, .inl ⟨rfl, H3, r1, by have := turn { rec .ready none with state := .ready, pending := none } core3; rw [hrec] at this ⊢; exact this⟩⟩
  | ret => exact ⟨_, _, run_endRound (some .ret) k1, .inr ⟨rfl, .ret, H3, r1, by have := turn { rec .ready none with state := .done, pending := some .ret } core3; rw [hrec] at this ⊢; exact this⟩⟩
  | exit id => exact ⟨_, _, run_endRound (some (.exit id)) k1, .inr ⟨rfl, .exit id, H3, r1, by have := turn { rec .ready none with state := .done, pending := some (.exit id) } core3; rw [hrec] at this ⊢; exact this⟩⟩
  | goto t => exact ⟨_, _, run_endRound (some (.goto t)) k1, .inr ⟨rfl, .goto t, H3, r1, by have := turn { rec .ready none with state := .done, pending := some (.goto t) } core3; rw [hrec] at this ⊢; exact this⟩⟩
  | panic ch => exact r1.elim
  | outgrown => exact r1.elim
 ·-- behind it
  rintro e W2 ⟨⟨v, rfl⟩, (⟨H', hJ, hc⟩ | ⟨c, H', hJ, hc⟩)⟩
  ·rw [hlen] at hJ
   obtain ⟨μ0, c1, c2, c3, c4, c5⟩ := hc
   have hc2 := turn { rec .ready none with state := .exhausted } ⟨μ0, c1, c2, c3, c4, c5⟩
   obtain ⟨_, μ', q1, q2, q3, q4⟩ := hafter hc2
   exact ⟨none, _, by have := run_endLoop (P := P) c4 (by rw [hrec]; simp); rw [hrec] at this ⊢; exact this, μ', env, H', hdone H' hJ c1, q1, q2, q3, q4⟩
  ·obtain ⟨μ0, c1, c2, c3, c4, c5⟩ := hc
   have hc2 := turn { rec .done (some c) with state := .exhausted } ⟨μ0, c1, c2, c3, c4, c5⟩
   obtain ⟨_, μ', q1, q2, q3, q4⟩ := hafter hc2
   exact ⟨some c, _, by have := run_endLoop (P := P) c4 (by rw [hrec]; simp); rw [hrec] at this ⊢; exact this, hstop c H' hJ c1 s0 μ' _ _ q1 q2 q3 q4⟩
end Av
end Go.Proofs.YtdekcppfpgeneaaGreatDoor
set_option linter.unusedVariables false
set_option linter.unusedSimpArgs false
namespace Go.Proofs.YtdekcppfpgeneaaGreatDoor
open Go Go.RowKit
namespace Av

/-! What comes in az an argument, az pure data: for every type of numbers, texts, truths, structs, arrays and slices of these. -/
inductive PT where
 | b
 | s
 | i (k : IntKind)
 | sl (es : List PT)
def fieldsPT (sh : TypeId → Option (List PT)) (co : TypeId → Nat) : List Field → Nat → Option (List PT)
 | [], _ => some []
 | f :: r, o => match sh f.type with
  | some ts => if f.offset = o ∧ co f.type = ts.length then (fieldsPT sh co r (o + ts.length)).map (ts ++ ·) else none
  | none => none
def shapePT (P : Program) : Nat → TypeId → Option (List PT)
 | 0, _ => none
 | m + 1, t => match P.underlying t with
  | some .bool => some [.b]
  | some .string => some [.s]
  | some (.int k) => some [.i k]
  | some (.slice e) => match shapePT P m e with
   | some ts => if P.cellsOf e = ts.length ∧ 0 < ts.length then some [.sl ts] else none
   | none => none
  | some (.struct fs) => match fieldsPT (shapePT P m) P.cellsOf fs.toList 0 with
   | some ts => if P.cellsOf t = ts.length then some ts else none
   | none => none
  | _ => none
mutual
def PT.fits : PT → PD → Prop
 | .b, .v (.bool _) => True
 | .s, .v (.string _) => True
 | .i k, .v (.int k' _) => k' = k
 | .sl ts, .sl k l => k = ts.length ∧ ∀ it ∈ l, fitsL ts it
 | _, _ => False
def fitsL : List PT → List PD → Prop
 | [], [] => True
 | t :: ts, p :: ps => t.fits p ∧ fitsL ts ps
 | _, _ => False
end
theorem fitsL.length : ∀ {ts : List PT} {ps : List PD}, fitsL ts ps → ps.length = ts.length
 | [], [], _ => rfl
 | [], _ :: _, h => by simp only [fitsL] at h
 | _ :: _, [], h => by simp only [fitsL] at h
 | t :: ts, p :: ps, h => by simp only [fitsL] at h; simp [h.2.length]
theorem fitsL.append : ∀ {ts us : List PT} {ps qs : List PD}, fitsL ts ps → fitsL us qs → fitsL (ts ++ us) (ps ++ qs)
 | [], us, [], qs, _, k => k
 | [], _, _ :: _, _, h, _ => by simp only [fitsL] at h
 | _ :: _, _, [], _, h, _ => by simp only [fitsL] at h
 | t :: ts, us, p :: ps, qs, h, k => by simp only [fitsL, List.cons_append] at h ⊢; exact ⟨h.1, h.2.append k⟩
theorem PT.fits.one {t : PT} {p : PD} (h : t.fits p) : p.one = true := by
 cases t with
 | b => cases p with
  | v x => cases x <;> simp_all [PT.fits, PD.one, Value.oneCell']
  | sl k l => rfl
 | s => cases p with
  | v x => cases x <;> simp_all [PT.fits, PD.one, Value.oneCell']
  | sl k l => rfl
 | i k => cases p with
  | v x => cases x <;> simp_all [PT.fits, PD.one, Value.oneCell']
  | sl k l => rfl
 | sl ts => cases p with
  | v x => simp [PT.fits] at h
  | sl k l => rfl
theorem fits_s {p : PD} (h : PT.fits .s p) : ∃ x, p = .v (.string x) := by
 cases p with
 | v x => cases x <;> simp_all [PT.fits]
 | sl k l => simp [PT.fits] at h
theorem fits_i {k : IntKind} {p : PD} (h : PT.fits (.i k) p) : ∃ x, p = .v (.int k x) := by
 cases p with
 | v x => cases x <;> simp_all [PT.fits]
 | sl k l => simp [PT.fits] at h
theorem fits_sl {ts : List PT} {p : PD} (h : PT.fits (.sl ts) p) : ∃ l, p = .sl ts.length l ∧ ∀ it ∈ l, fitsL ts it := by
 cases p with
 | v x => simp [PT.fits] at h
 | sl k l => simp only [PT.fits] at h; exact ⟨l, by rw [h.1], h.2⟩
theorem fits_cons {t : PT} {ts : List PT} {ps : List PD} (h : fitsL (t :: ts) ps) : ∃ p r, ps = p :: r ∧ t.fits p ∧ fitsL ts r := by
 cases ps with
 | nil => simp only [fitsL] at h
 | cons p r => simp only [fitsL] at h; exact ⟨p, r, rfl, h.1, h.2⟩
theorem fits_nil {ps : List PD} (h : fitsL [] ps) : ps = [] := by
 cases ps with
 | nil => rfl
 | cons p r => simp only [fitsL] at h
/-- a list whose elements are each of a form -/
theorem list_of {α : Type} {f : α → List PD} {l : List (List PD)} (h : ∀ it ∈ l, ∃ x, it = f x) : ∃ xs : List α, l = xs.map f := by
 induction l with
 | nil => exact ⟨[], rfl⟩
 | cons it r ih =>
  obtain ⟨x, rfl⟩ := h it (by simp)
  obtain ⟨xs, rfl⟩ := ih fun it hi => h it (by simp [hi])
  exact ⟨x :: xs, rfl⟩
theorem fits_strs {p : PD} (h : PT.fits (.sl [.s]) p) : ∃ l : List ByteArray, p = .sl 1 (l.map fun x => [.v (.string x)]) := by
 obtain ⟨l, rfl, hl⟩ := fits_sl h
 obtain ⟨xs, rfl⟩ := list_of (f := fun x : ByteArray => [PD.v (.string x)]) (l := l) fun it hi => by
  obtain ⟨p, r, rfl, h1, h2⟩ := fits_cons (hl it hi)
  obtain ⟨x, rfl⟩ := fits_s h1
  exact ⟨x, by rw [fits_nil h2]⟩
 exact ⟨xs, rfl⟩
section
variable {H : Type} {enc : TypeId × Value → H} {P : Program} {w : World} {base : Nat} {spare : Nat → Bool} {held : Bool}
theorem cells_pc {s : St} (hw : s.w = w) {b : Nat} : ∀ {ts : List PT} {ps : List PD} {cs : List Value} {o : Nat}, fitsL ts ps → RepL s (dL ps) cs → (∀ j v, cs[j]? = some v → w.cell? ⟨b, o + j, none⟩ = some v) → PCells w s.imm ps b o
 | [], [], cs, o, _, _, _ => by simp only [PCells]
 | [], _ :: _, _, _, h, _, _ => by simp only [fitsL] at h
 | _ :: _, [], _, _, h, _, _ => by simp only [fitsL] at h
 | t :: ts, p :: ps, cs, o, h, hr, hc => by
  simp only [fitsL] at h
  simp only [dL, List.map_cons, RepL, Rep] at hr
  obtain ⟨x, r, rfl, h1, h2⟩ := hr
  simp only [PCells]
  refine ⟨⟨h.1.one, x, by simpa using hc 0 x rfl, by rw [← hw]; exact h1⟩, cells_pc hw h.2 h2 fun j v hj => ?_⟩
  have := hc (j + 1) v (by simpa using hj)
  rw [show o + 1 + j = o + (j + 1) by omega]
  exact this
theorem rows_pc {imm : Nat → Prop} {b k : Nat} : ∀ {l : List (List PD)} {o : Nat}, (∀ i, i < l.length → (l.getD i []).length = k ∧ PCells w imm (l.getD i []) b (o + i * k)) → PRows w imm l b k o
 | [], o, _ => by simp only [PRows]
 | it :: r, o, h => by
  simp only [PRows]
  have h0 := h 0 (by simp)
  simp only [List.getD_cons_zero, Nat.zero_mul, Nat.add_zero] at h0
  refine ⟨h0.1, h0.2, rows_pc fun i hi => ?_⟩
  have := h (i + 1) (by simpa using hi)
  simp only [List.getD_cons_succ] at this
  rw [show o + k + i * k = o + (i + 1) * k by rw [Nat.add_mul]; omega]
  exact this
theorem fields_pd {s : St} {n : Nat} (ih : ∀ (m : Nat) (t : TypeId) (cs : List Value) (x : DataW H × List MemPlace) (ts : List PT), shapePT P m t = some ts → DataW.trod enc P w base spare held n t cs = some x → ∃ ps, fitsL ts ps ∧ RepL s (dL ps) cs) {m : Nat} {cs : List Value} :
  ∀ (fs : List Field) (o : Nat) (ts : List PT), fieldsPT (shapePT P m) P.cellsOf fs o = some ts → o + ts.length = cs.length → (∀ f ∈ fs, ∃ x, DataW.trod enc P w base spare held n f.type ((cs.drop f.offset).take (P.cellsOf f.type)) = some x) →
   ∃ ps, fitsL ts ps ∧ RepL s (dL ps) (cs.drop o)
 | [], o, ts, h, hl, _ => by
  simp only [fieldsPT, Option.some.injEq] at h
  subst h
  exact ⟨[], by simp only [fitsL], by rw [List.drop_of_length_le (by simp at hl; omega)]; exact .nil⟩
 | f :: r, o, ts, h, hl, hx => by
  simp only [fieldsPT] at h
  split at h
  case h_2 => cases h
  rename_i us hus
  split at h
  case isFalse => cases h
  rename_i hof
  simp only [Option.map_eq_some_iff] at h
  obtain ⟨vs, h, rfl⟩ := h
  obtain ⟨x, hx0⟩ := hx f (by simp)
  obtain ⟨ps, h1, h2⟩ := ih m _ _ x us hus hx0
  rw [List.length_append] at hl
  obtain ⟨qs, h3, h4⟩ := fields_pd ih r (o + us.length) vs h (by omega) fun g hg => hx g (by simp [hg])
  refine ⟨ps ++ qs, h1.append h3, ?_⟩
  rw [hof.1, hof.2] at h2
  have := h2.append h4
  rw [show List.take us.length (List.drop o cs) ++ List.drop (o + us.length) cs = cs.drop o by rw [← List.drop_drop, List.take_append_drop]] at this
  rw [show dL (ps ++ qs) = dL ps ++ dL qs by simp [dL]]
  exact this
theorem open_pd {s : St} (hw : s.w = w) (hi : ∀ b, b < w.heap.size → s.imm b) : ∀ (n m : Nat) (t : TypeId) (cs : List Value) (x : DataW H × List MemPlace) (ts : List PT), shapePT P m t = some ts → DataW.trod enc P w base spare held n t cs = some x → ∃ ps, fitsL ts ps ∧ RepL s (dL ps) cs
 | 0, m, t, cs, x, ts, h, hx => by simp [DataW.trod] at hx
 | n + 1, 0, t, cs, x, ts, h, hx => by simp [shapePT] at h
 | n + 1, m + 1, t, cs, x, ts, h, hx => by
  unfold shapePT at h
  split at h
  ·rename_i hu
   cases h
   obtain ⟨b, rfl, _⟩ := DataW.trod_bool hu hx
   exact ⟨[.v (.bool b)], by simp [fitsL, PT.fits], .one (by simp only [Rep, PRep]; exact ⟨trivial, trivial⟩)⟩
  ·rename_i hu
   cases h
   obtain ⟨b, rfl, _, hs⟩ := DataW.trod_string hu hx
   exact ⟨[.v (.string b)], by simp [fitsL, PT.fits], .one (by simp only [Rep, PRep]; exact ⟨trivial, hs⟩)⟩
  ·rename_i k hu
   cases h
   obtain ⟨b, rfl, _, hs⟩ := DataW.trod_int hu hx
   exact ⟨[.v (.int k b)], by simp [fitsL, PT.fits], .one (by simp only [Rep, PRep]; exact ⟨trivial, by simpa [Lit.wf, small] using hs⟩)⟩
  ·rename_i e hu
   split at h
   case h_2 => cases h
   rename_i us hus
   split at h
   case isFalse => cases h
   rename_i hk
   cases h
   rcases DataW.trod_slice hu hx with ⟨rfl, _⟩ | ⟨a, len, cap, elems, rest, n', e1, rfl, _, hb, hl, hc, hel, hev, _, _⟩
   ·exact ⟨[.sl us.length []], by simp [fitsL, PT.fits], .one (by simp only [Rep, PRep]; exact ⟨none, 0, rfl, Nat.zero_le _, Nat.zero_le _, .inl trivial⟩)⟩
   ·obtain rfl : n = n' := by omega
    have each : ∀ i, i < len → ∃ ps : List PD, fitsL us ps ∧ PCells w s.imm ps a.block (a.off + i * us.length) ∧ a.spot = none ∧ a.block < w.heap.size := fun i hil => by
     have h1 := hev i hil
     obtain ⟨y, hy⟩ : ∃ y, elems[i]? = some y := ⟨_, List.getElem?_eq_getElem (by omega)⟩
     rw [hy] at h1
     obtain ⟨ci, h2, h3⟩ := Option.bind_eq_some_iff.1 h1
     obtain ⟨ps, h4, h5⟩ := open_pd hw hi n m e ci y us hus h3
     unfold World.cells? at h2
     rw [hk.1] at h2
     split at h2
     case isFalse => cases h2
     have hlc := mapM_some_length h2
     have hg := mapM_some_get h2
     simp only [List.length_range] at hlc
     have hj : ∀ j, j < us.length → w.cell? ((a.add (i * us.length)).add j) = ci[j]? := fun j hj => hg j j (by simp [hj])
     have h00 : w.cell? ((a.add (i * us.length)).add 0) = ci[0]? := hj 0 hk.2
     obtain ⟨v0, hv0⟩ : ∃ v, ci[0]? = some v := ⟨_, List.getElem?_eq_getElem (by omega)⟩
     rw [hv0] at h00
     have hblk := World.block_lt_of_cell? w _ h00
     have hblk' : a.block < w.heap.size := by
      have : ((a.add (i * us.length)).add 0).block = a.block := by unfold Addr.add; split <;> split <;> rfl
      rwa [this] at hblk
     -- the spot of the slice's own address
     have h0 := hev 0 (by omega)
     obtain ⟨y0, hy0⟩ : ∃ y, elems[0]? = some y := ⟨_, List.getElem?_eq_getElem (by omega)⟩
     rw [hy0] at h0
     obtain ⟨c0, g2, _⟩ := Option.bind_eq_some_iff.1 h0
     unfold World.cells? at g2
     rw [hk.1] at g2
     split at g2
     case isFalse => cases g2
     have glc := mapM_some_length g2
     simp only [List.length_range] at glc
     have gg := mapM_some_get g2 0 0 (by simp [hk.2])
     obtain ⟨u0, hu0⟩ : ∃ v, c0[0]? = some v := ⟨_, List.getElem?_eq_getElem (by omega)⟩
     rw [hu0] at gg
     have hsp : a.spot = none := by
      have := World.cell?_spot gg
      simpa [Addr.add] using this
     refine ⟨ps, h4, ?_, hsp, hblk'⟩
     refine cells_pc hw h4 h5 fun j v hv => ?_
     have hjl : j < us.length := by have := (List.getElem?_eq_some_iff.1 hv).1; omega
     rw [← hv, ← hj j hjl]
     congr 1
     obtain ⟨ab, ao, asp⟩ := a
     simp only at hsp
     subst hsp
     rw [addr_add, addr_add]
    obtain ⟨F, hF⟩ := Go.Deep.choose_lt each
    refine ⟨[.sl us.length ((List.range len).map F)], ?_, ?_⟩
    ·simp only [fitsL, PT.fits, and_true, true_and]
     intro it hit
     obtain ⟨i, hi1, rfl⟩ := List.mem_map.1 hit
     exact (hF i (List.mem_range.1 hi1)).1
    ·refine .one ?_
     simp only [Rep, PRep]
     refine ⟨some a, cap, by simp, by simpa using hl, hc, ?_⟩
     rcases Nat.eq_zero_or_pos len with rfl | hp
     ·exact .inl rfl
     ·have h0 := hF 0 hp
      refine .inr ⟨a.block, a.off, ?_, ?_, ?_⟩
      ·obtain ⟨ab, ao, asp⟩ := a
       have := h0.2.2.1
       simp only at this
       rw [this]
      ·exact hi _ h0.2.2.2
      ·rw [hw]
       refine rows_pc fun i hil => ?_
       have hil' : i < len := by simpa using hil
       have e2 : ((List.range len).map F).getD i [] = F i := by simp [List.getD, hil']
       rw [e2]
       exact ⟨(hF i hil').1.length, (hF i hil').2.1⟩
  ·rename_i fs hu
   split at h
   case h_2 => cases h
   rename_i us hus
   split at h
   case isFalse => cases h
   rename_i hk
   cases h
   obtain ⟨xs, n', e1, _, hl, hlen, hf⟩ := DataW.trod_struct hu hx
   obtain rfl : n = n' := by omega
   obtain ⟨ps, h1, h2⟩ := fields_pd (s := s) (fun m t cs x ts => open_pd hw hi n m t cs x ts) (cs := cs) fs.toList 0 _ hus (by omega) fun f hfm => by
    obtain ⟨i, hi1, hi2⟩ := List.mem_iff_getElem.1 hfm
    have h3 := hf i f (by simp at hi1; simp [← hi2, hi1])
    have : i < xs.length := by rw [hlen]; simpa using hi1
    exact ⟨xs[i], by rw [h3, List.getElem?_eq_getElem this]⟩
   exact ⟨ps, h1, by simpa using h2⟩
  ·cases h
end
end Av
end Go.Proofs.YtdekcppfpgeneaaGreatDoor
set_option linter.unusedVariables false
namespace Go.Proofs
open Go.Shelf
def Tryz.lays160_ren : Go.Shelf.Ren := ⟨fun | 160 => 124 | 232 => 163 | 231 => 162 | 227 => 164 | 234 => 166 | 233 => 165 | 236 => 168 | 235 => 167 | 228 => 207 | 271 => 210 | 151 => 209 | 197 => 208 | 120 => 230 | 152 => 229 | 260 => 228 | 137 => 238 | 119 => 239 | 224 => 240 | 225 => 241 | 217 => 243 | 266 => 244 | n => n, fun | 9 => 9 | 4 => 4 | 3 => 3 | 5 => 5 | 117 => 171 | 116 => 170 | 0 => 0 | 124 => 174 | 21 => 21 | 105 => 213 | 46 => 84 | 119 => 243 | 139 => 246 | 138 => 245 | n => n, fun | 3 => 3 | 4 => 4 | n => n⟩
theorem Tryz.lays160 : Go.Proofs.Lays.n160 Tryz.prog Tryz.lays160_ren := {
 mixed := by kernel_rfl
 f119 := Tryz.func239.trans (congrArg some (by kernel_rfl))
 f120 := Tryz.func230.trans (congrArg some (by kernel_rfl))
 f137 := Tryz.func238.trans (congrArg some (by kernel_rfl))
 f151 := Tryz.func209.trans (congrArg some (by kernel_rfl))
 f152 := Tryz.func229.trans (congrArg some (by kernel_rfl))
 f160 := Tryz.func124.trans (congrArg some (by kernel_rfl))
 f197 := Tryz.func208.trans (congrArg some (by kernel_rfl))
 f217 := Tryz.func243.trans (congrArg some (by kernel_rfl))
 f224 := Tryz.func240.trans (congrArg some (by kernel_rfl))
 f225 := Tryz.func241.trans (congrArg some (by kernel_rfl))
 f227 := Tryz.func164.trans (congrArg some (by kernel_rfl))
 f228 := Tryz.func207.trans (congrArg some (by kernel_rfl))
 f231 := Tryz.func162.trans (congrArg some (by kernel_rfl))
 f232 := Tryz.func163.trans (congrArg some (by kernel_rfl))
 f233 := Tryz.func165.trans (congrArg some (by kernel_rfl))
 f234 := Tryz.func166.trans (congrArg some (by kernel_rfl))
 f235 := Tryz.func167.trans (congrArg some (by kernel_rfl))
 f236 := Tryz.func168.trans (congrArg some (by kernel_rfl))
 f260 := Tryz.func228.trans (congrArg some (by kernel_rfl))
 f266 := Tryz.func244.trans (congrArg some (by kernel_rfl))
 f271 := Tryz.func210.trans (congrArg some (by kernel_rfl))
 t0 := Tryz.underlying0
 a0 := Tryz.isAgg0
 z0 := Tryz.sizeOf0
 v0 := Tryz.zeroValue0
 t3 := Tryz.underlying3
 a3 := Tryz.isAgg3
 z3 := Tryz.sizeOf3
 v3 := Tryz.zeroValue3
 t4 := Tryz.underlying4
 a4 := Tryz.isAgg4
 z4 := Tryz.sizeOf4
 v4 := Tryz.zeroValue4
 t5 := Tryz.underlying5
 a5 := Tryz.isAgg5
 z5 := Tryz.sizeOf5
 v5 := Tryz.zeroValue5
 t9 := Tryz.underlying9
 a9 := Tryz.isAgg9
 z9 := Tryz.sizeOf9
 v9 := Tryz.zeroValue9
 t21 := Tryz.underlying21
 a21 := Tryz.isAgg21
 z21 := Tryz.sizeOf21
 v21 := Tryz.zeroValue21
 t46 := Tryz.underlying84
 a46 := Tryz.isAgg84
 z46 := Tryz.sizeOf84
 v46 := Tryz.zeroValue84
 t105 := Tryz.underlying213
 a105 := Tryz.isAgg213
 z105 := Tryz.sizeOf213
 v105 := Tryz.zeroValue213
 t116 := Tryz.underlying170
 a116 := Tryz.isAgg170
 z116 := Tryz.sizeOf170
 t117 := Tryz.underlying171
 a117 := Tryz.isAgg171
 z117 := Tryz.sizeOf171
 v117 := Tryz.zeroValue171
 t119 := Tryz.underlying243
 a119 := Tryz.isAgg243
 z119 := Tryz.sizeOf243
 t124 := Tryz.underlying174
 a124 := Tryz.isAgg174
 z124 := Tryz.sizeOf174
 v124 := Tryz.zeroValue174
 t138 := Tryz.underlying245
 a138 := Tryz.isAgg245
 z138 := Tryz.sizeOf245
 v138 := Tryz.zeroValue245
 t139 := Tryz.underlying246
 a139 := Tryz.isAgg246
 z139 := Tryz.sizeOf246
 v139 := Tryz.zeroValue246
 g3 := by kernel_rfl
 g4 := by kernel_rfl }
def Tryz.lays172_ren : Go.Shelf.Ren := ⟨fun | 172 => 70 | 244 => 99 | 245 => 100 | 247 => 127 | 279 => 128 | 280 => 129 | 281 => 130 | 282 => 131 | 287 => 169 | 316 => 170 | 171 => 88 | 205 => 171 | 321 => 211 | 322 => 212 | 243 => 116 | 246 => 147 | 283 => 183 | 284 => 184 | 285 => 185 | 286 => 186 | 129 => 161 | 317 => 215 | 318 => 216 | 319 => 217 | 320 => 218 | 337 => 231 | 338 => 232 | n => n, fun | 9 => 9 | 3 => 3 | 75 => 96 | 76 => 97 | 4 => 4 | 5 => 5 | 167 => 137 | 37 => 138 | 0 => 0 | 85 => 139 | 2 => 2 | 168 => 141 | 53 => 167 | 175 => 175 | 46 => 84 | 210 => 179 | 127 => 217 | 145 => 220 | 143 => 218 | 21 => 21 | 171 => 189 | 173 => 191 | 212 => 225 | 51 => 165 | 20 => 20 | 213 => 226 | 232 => 249 | 233 => 250 | 80 => 200 | n => n, fun | 15 => 0 | 16 => 1 | 17 => 2 | 18 => 5 | 19 => 6 | n => n⟩
theorem Tryz.lays172 : Go.Proofs.Lays.n172 Tryz.prog Tryz.lays172_ren := {
 mixed := by kernel_rfl
 f129 := Tryz.func161.trans (congrArg some (by kernel_rfl))
 f171 := Tryz.func88.trans (congrArg some (by kernel_rfl))
 f172 := Tryz.func70.trans (congrArg some (by kernel_rfl))
 f205 := Tryz.func171.trans (congrArg some (by kernel_rfl))
 f243 := Tryz.func116.trans (congrArg some (by kernel_rfl))
 f244 := Tryz.func99.trans (congrArg some (by kernel_rfl))
 f245 := Tryz.func100.trans (congrArg some (by kernel_rfl))
 f246 := Tryz.func147.trans (congrArg some (by kernel_rfl))
 f247 := Tryz.func127.trans (congrArg some (by kernel_rfl))
 f279 := Tryz.func128.trans (congrArg some (by kernel_rfl))
 f280 := Tryz.func129.trans (congrArg some (by kernel_rfl))
 f281 := Tryz.func130.trans (congrArg some (by kernel_rfl))
 f282 := Tryz.func131.trans (congrArg some (by kernel_rfl))
 f283 := Tryz.func183.trans (congrArg some (by kernel_rfl))
 f284 := Tryz.func184.trans (congrArg some (by kernel_rfl))
 f285 := Tryz.func185.trans (congrArg some (by kernel_rfl))
 f286 := Tryz.func186.trans (congrArg some (by kernel_rfl))
 f287 := Tryz.func169.trans (congrArg some (by kernel_rfl))
 f316 := Tryz.func170.trans (congrArg some (by kernel_rfl))
 f317 := Tryz.func215.trans (congrArg some (by kernel_rfl))
 f318 := Tryz.func216.trans (congrArg some (by kernel_rfl))
 f319 := Tryz.func217.trans (congrArg some (by kernel_rfl))
 f320 := Tryz.func218.trans (congrArg some (by kernel_rfl))
 f321 := Tryz.func211.trans (congrArg some (by kernel_rfl))
 f322 := Tryz.func212.trans (congrArg some (by kernel_rfl))
 f337 := Tryz.func231.trans (congrArg some (by kernel_rfl))
 f338 := Tryz.func232.trans (congrArg some (by kernel_rfl))
 t0 := Tryz.underlying0
 a0 := Tryz.isAgg0
 z0 := Tryz.sizeOf0
 v0 := Tryz.zeroValue0
 t2 := Tryz.underlying2
 a2 := Tryz.isAgg2
 z2 := Tryz.sizeOf2
 v2 := Tryz.zeroValue2
 t3 := Tryz.underlying3
 a3 := Tryz.isAgg3
 z3 := Tryz.sizeOf3
 v3 := Tryz.zeroValue3
 t4 := Tryz.underlying4
 a4 := Tryz.isAgg4
 z4 := Tryz.sizeOf4
 v4 := Tryz.zeroValue4
 t5 := Tryz.underlying5
 a5 := Tryz.isAgg5
 z5 := Tryz.sizeOf5
 v5 := Tryz.zeroValue5
 t9 := Tryz.underlying9
 a9 := Tryz.isAgg9
 z9 := Tryz.sizeOf9
 v9 := Tryz.zeroValue9
 t20 := Tryz.underlying20
 a20 := Tryz.isAgg20
 z20 := Tryz.sizeOf20
 v20 := Tryz.zeroValue20
 t21 := Tryz.underlying21
 a21 := Tryz.isAgg21
 z21 := Tryz.sizeOf21
 v21 := Tryz.zeroValue21
 t37 := Tryz.underlying138
 a37 := Tryz.isAgg138
 z37 := Tryz.sizeOf138
 v37 := Tryz.zeroValue138
 t46 := Tryz.underlying84
 a46 := Tryz.isAgg84
 z46 := Tryz.sizeOf84
 v46 := Tryz.zeroValue84
 t51 := Tryz.underlying165
 a51 := Tryz.isAgg165
 z51 := Tryz.sizeOf165
 v51 := Tryz.zeroValue165
 t53 := Tryz.underlying167
 a53 := Tryz.isAgg167
 z53 := Tryz.sizeOf167
 v53 := Tryz.zeroValue167
 t75 := Tryz.underlying96
 a75 := Tryz.isAgg96
 z75 := Tryz.sizeOf96
 v75 := Tryz.zeroValue96
 t76 := Tryz.underlying97
 a76 := Tryz.isAgg97
 z76 := Tryz.sizeOf97
 v76 := Tryz.zeroValue97
 t85 := Tryz.underlying139
 a85 := Tryz.isAgg139
 z85 := Tryz.sizeOf139
 v85 := Tryz.zeroValue139
 t127 := Tryz.underlying217
 a127 := Tryz.isAgg217
 z127 := Tryz.sizeOf217
 v127 := Tryz.zeroValue217
 t143 := Tryz.underlying218
 a143 := Tryz.isAgg218
 z143 := Tryz.sizeOf218
 v143 := Tryz.zeroValue218
 t145 := Tryz.underlying220
 a145 := Tryz.isAgg220
 z145 := Tryz.sizeOf220
 v145 := Tryz.zeroValue220
 t167 := Tryz.underlying137
 a167 := Tryz.isAgg137
 z167 := Tryz.sizeOf137
 v167 := Tryz.zeroValue137
 t168 := Tryz.underlying141
 a168 := Tryz.isAgg141
 z168 := Tryz.sizeOf141
 v168 := Tryz.zeroValue141
 t171 := Tryz.underlying189
 a171 := Tryz.isAgg189
 z171 := Tryz.sizeOf189
 v171 := Tryz.zeroValue189
 t173 := Tryz.underlying191
 a173 := Tryz.isAgg191
 z173 := Tryz.sizeOf191
 v173 := Tryz.zeroValue191
 t175 := Tryz.underlying175
 a175 := Tryz.isAgg175
 z175 := Tryz.sizeOf175
 v175 := Tryz.zeroValue175
 t210 := Tryz.underlying179
 a210 := Tryz.isAgg179
 z210 := Tryz.sizeOf179
 v210 := Tryz.zeroValue179
 t212 := Tryz.underlying225
 a212 := Tryz.isAgg225
 z212 := Tryz.sizeOf225
 v212 := Tryz.zeroValue225
 t213 := Tryz.underlying226
 a213 := Tryz.isAgg226
 z213 := Tryz.sizeOf226
 t232 := Tryz.underlying249
 a232 := Tryz.isAgg249
 z232 := Tryz.sizeOf249
 v232 := Tryz.zeroValue249
 t233 := Tryz.underlying250
 a233 := Tryz.isAgg250
 z233 := Tryz.sizeOf250
 v233 := Tryz.zeroValue250
 g15 := by kernel_rfl
 g16 := by kernel_rfl
 g17 := by kernel_rfl
 g18 := by kernel_rfl
 g19 := by kernel_rfl }
open Go.RowKit in
/-- strconv.Atoi: "Atoi is equivalent to ParseInt(s, 10, 0), converted to type int.": AT A DECIMAL NUMERAL OF AT MOST 18 BYTES: its value, and a nil error. The world behind the call: the one new row that the library's '[]byte(s)' lays. (LAID: no walk: one application.) -/
theorem Tryz.strconv_Atoi (s : ByteArray) (n : Int) (hl : s.size ≤ 18) (h : Lib.atoi s.data.toList = some n) (w : World) :
  Calls Tryz.prog 70 #[.string s] w fun e w' => e = .returned (.tuple #[.int .i64 n, .nilIface]) ∧ ∃ t, w' = Lib.bytesWorld w 5 t := Any.strconv_Atoi Tryz.lays172 s n hl h w
def Tryz.lays283_ren : Go.Shelf.Ren := ⟨fun | 283 => 183 | n => n, fun | 3 => 3 | 9 => 9 | 4 => 4 | n => n, fun | n => n⟩
theorem Tryz.lays283 : Go.Proofs.Lays.n283 Tryz.prog Tryz.lays283_ren := {
 mixed := by kernel_rfl
 f283 := Tryz.func183.trans (congrArg some (by kernel_rfl))
 t3 := Tryz.underlying3
 a3 := Tryz.isAgg3
 z3 := Tryz.sizeOf3
 v3 := Tryz.zeroValue3
 t4 := Tryz.underlying4
 a4 := Tryz.isAgg4
 z4 := Tryz.sizeOf4
 v4 := Tryz.zeroValue4
 t9 := Tryz.underlying9
 a9 := Tryz.isAgg9
 z9 := Tryz.sizeOf9
 v9 := Tryz.zeroValue9 }
open Go.Lib in
/-- internal/strconv.small: "small returns the string for an i with 0 <= i < nSmalls.": i's decimal numeral. The world is az it was. (LAID: no walk: one application.) -/
theorem Tryz.internal_strconv_small (i : Nat) (h : i < 100) (w : World) :
  Calls Tryz.prog 183 #[.int .i64 i] w fun e w' => e = .returned (.string ⟨(Lib.decDigits i).toArray⟩) ∧ w' = w := Any.internal_strconv_small Tryz.lays283 i h w
def Tryz.laysM284_ren : Go.Shelf.Ren := ⟨fun | 284 => 184 | 129 => 161 | 317 => 215 | 318 => 216 | n => n, fun | 53 => 167 | 3 => 3 | 212 => 225 | 0 => 0 | 4 => 4 | 46 => 84 | 5 => 5 | 9 => 9 | n => n, fun | 17 => 2 | n => n⟩
theorem Tryz.laysM284 : Go.Proofs.LaysM.n284 Tryz.prog Tryz.laysM284_ren := {
 mixed := by kernel_rfl
 f129 := Tryz.func161.trans (congrArg some (by kernel_rfl))
 f284 := Tryz.func184.trans (congrArg some (by kernel_rfl))
 f317 := Tryz.func215.trans (congrArg some (by kernel_rfl))
 f318 := Tryz.func216.trans (congrArg some (by kernel_rfl))
 t0 := Tryz.underlying0
 a0 := Tryz.isAgg0
 z0 := Tryz.sizeOf0
 v0 := Tryz.zeroValue0
 t3 := Tryz.underlying3
 a3 := Tryz.isAgg3
 z3 := Tryz.sizeOf3
 v3 := Tryz.zeroValue3
 t4 := Tryz.underlying4
 a4 := Tryz.isAgg4
 z4 := Tryz.sizeOf4
 v4 := Tryz.zeroValue4
 t5 := Tryz.underlying5
 a5 := Tryz.isAgg5
 z5 := Tryz.sizeOf5
 v5 := Tryz.zeroValue5
 t9 := Tryz.underlying9
 a9 := Tryz.isAgg9
 z9 := Tryz.sizeOf9
 v9 := Tryz.zeroValue9
 t46 := Tryz.underlying84
 a46 := Tryz.isAgg84
 z46 := Tryz.sizeOf84
 v46 := Tryz.zeroValue84
 t53 := Tryz.underlying167
 a53 := Tryz.isAgg167
 z53 := Tryz.sizeOf167
 v53 := Tryz.zeroValue167
 t212 := Tryz.underlying225
 a212 := Tryz.isAgg225
 z212 := Tryz.sizeOf225
 v212 := Tryz.zeroValue225
 g17 := by kernel_rfl
 i0 := by kernel_rfl
 i3 := by kernel_rfl
 i4 := by kernel_rfl
 i5 := by kernel_rfl
 i9 := by kernel_rfl
 i46 := by kernel_rfl
 i53 := by kernel_rfl
 i212 := by kernel_rfl
 m17 := by kernel_rfl }
open Go.Lib in
/-- internal/strconv.numDigits, at a d that is not 0: THE NUMBER OF d's DECIMAL DIGITS. The world is az it was. (LAID: no walk: one application.) -/
theorem Tryz.internal_strconv_numDigits (u : Nat) (h1 : 1 ≤ u) (h2 : u < 18446744073709551616) (w : World) (htab : Lib.TabIs Tryz.prog w "internal/strconv.uint64pow10" .u64 Lib.pow10Tab) :
  Calls Tryz.prog 184 #[.int .u64 u] w fun e w' => e = .returned (.int .i64 (Lib.nDigits u)) ∧ w' = w := Any.internal_strconv_numDigits Tryz.laysM284 u h1 h2 w htab
def Tryz.lays285_ren : Go.Shelf.Ren := ⟨fun | 285 => 185 | n => n, fun | 37 => 138 | 53 => 167 | 3 => 3 | 4 => 4 | 51 => 165 | 9 => 9 | 5 => 5 | 0 => 0 | n => n, fun | n => n⟩
theorem Tryz.lays285 : Go.Proofs.Lays.n285 Tryz.prog Tryz.lays285_ren := {
 mixed := by kernel_rfl
 f285 := Tryz.func185.trans (congrArg some (by kernel_rfl))
 t0 := Tryz.underlying0
 a0 := Tryz.isAgg0
 z0 := Tryz.sizeOf0
 v0 := Tryz.zeroValue0
 t3 := Tryz.underlying3
 a3 := Tryz.isAgg3
 z3 := Tryz.sizeOf3
 v3 := Tryz.zeroValue3
 t4 := Tryz.underlying4
 a4 := Tryz.isAgg4
 z4 := Tryz.sizeOf4
 v4 := Tryz.zeroValue4
 t5 := Tryz.underlying5
 a5 := Tryz.isAgg5
 z5 := Tryz.sizeOf5
 v5 := Tryz.zeroValue5
 t9 := Tryz.underlying9
 a9 := Tryz.isAgg9
 z9 := Tryz.sizeOf9
 v9 := Tryz.zeroValue9
 t37 := Tryz.underlying138
 a37 := Tryz.isAgg138
 z37 := Tryz.sizeOf138
 v37 := Tryz.zeroValue138
 t51 := Tryz.underlying165
 a51 := Tryz.isAgg165
 z51 := Tryz.sizeOf165
 v51 := Tryz.zeroValue165
 t53 := Tryz.underlying167
 a53 := Tryz.isAgg167
 z53 := Tryz.sizeOf167
 v53 := Tryz.zeroValue167 }
open Go.RowKit Go.Sort Go.Lib in
/-- internal/strconv.formatBase10: "formatBase10 formats the decimal representation of u into a. The caller is responsible for ensuring that a is big enough to hold u. If a is too big, leading zeros will be filled in az needed.": THE ROW HOLDS u's DIGITS ('FmtInv .. 0 ..': every place t holds 'dg u (len - 1 - t)'); all else is az it was but for the count of draws. (LAID: no walk: one application.) -/
theorem Tryz.internal_strconv_formatBase10 (blk off cap : Nat) (u : Nat) (d : Array UInt8) (w : World) (hH : Holds (fun (b : UInt8) => Value.int .u8 (b.toNat : Int)) w blk off d) (hu : u < 10 ^ d.size) (hu64 : u < 18446744073709551616) (hsz : d.size < 4611686018427387904) :
  Calls Tryz.prog 185 #[.slice (some ⟨blk, off, none⟩) d.size cap, .int .u64 u] w fun e w' =>
   e = .returned (.tuple #[]) ∧ ∃ (n v' : Nat) (dk : Array UInt8), w' = (putRow (fun (b : UInt8) => Value.int .u8 (b.toNat : Int)) w blk off dk).drewN n ∧ FmtInv d.size u 0 v' dk := Any.internal_strconv_formatBase10 Tryz.lays285 blk off cap u d w hH hu hu64 hsz
def Tryz.laysM171_ren : Go.Shelf.Ren := ⟨fun | 171 => 88 | 243 => 116 | 246 => 147 | 283 => 183 | 284 => 184 | 285 => 185 | 286 => 186 | 129 => 161 | 317 => 215 | 318 => 216 | 319 => 217 | 320 => 218 | 337 => 231 | 338 => 232 | n => n, fun | 3 => 3 | 9 => 9 | 2 => 2 | 4 => 4 | 171 => 189 | 0 => 0 | 53 => 167 | 37 => 138 | 5 => 5 | 173 => 191 | 212 => 225 | 51 => 165 | 20 => 20 | 213 => 226 | 46 => 84 | 232 => 249 | 233 => 250 | n => n, fun | 17 => 2 | 18 => 5 | 19 => 6 | n => n⟩
theorem Tryz.laysM171 : Go.Proofs.LaysM.n171 Tryz.prog Tryz.laysM171_ren := {
 mixed := by kernel_rfl
 f129 := Tryz.func161.trans (congrArg some (by kernel_rfl))
 f171 := Tryz.func88.trans (congrArg some (by kernel_rfl))
 f243 := Tryz.func116.trans (congrArg some (by kernel_rfl))
 f246 := Tryz.func147.trans (congrArg some (by kernel_rfl))
 f283 := Tryz.func183.trans (congrArg some (by kernel_rfl))
 f284 := Tryz.func184.trans (congrArg some (by kernel_rfl))
 f285 := Tryz.func185.trans (congrArg some (by kernel_rfl))
 f286 := Tryz.func186.trans (congrArg some (by kernel_rfl))
 f317 := Tryz.func215.trans (congrArg some (by kernel_rfl))
 f318 := Tryz.func216.trans (congrArg some (by kernel_rfl))
 f319 := Tryz.func217.trans (congrArg some (by kernel_rfl))
 f320 := Tryz.func218.trans (congrArg some (by kernel_rfl))
 f337 := Tryz.func231.trans (congrArg some (by kernel_rfl))
 f338 := Tryz.func232.trans (congrArg some (by kernel_rfl))
 t0 := Tryz.underlying0
 a0 := Tryz.isAgg0
 z0 := Tryz.sizeOf0
 v0 := Tryz.zeroValue0
 t2 := Tryz.underlying2
 a2 := Tryz.isAgg2
 z2 := Tryz.sizeOf2
 v2 := Tryz.zeroValue2
 t3 := Tryz.underlying3
 a3 := Tryz.isAgg3
 z3 := Tryz.sizeOf3
 v3 := Tryz.zeroValue3
 t4 := Tryz.underlying4
 a4 := Tryz.isAgg4
 z4 := Tryz.sizeOf4
 v4 := Tryz.zeroValue4
 t5 := Tryz.underlying5
 a5 := Tryz.isAgg5
 z5 := Tryz.sizeOf5
 v5 := Tryz.zeroValue5
 t9 := Tryz.underlying9
 a9 := Tryz.isAgg9
 z9 := Tryz.sizeOf9
 v9 := Tryz.zeroValue9
 t20 := Tryz.underlying20
 a20 := Tryz.isAgg20
 z20 := Tryz.sizeOf20
 v20 := Tryz.zeroValue20
 t37 := Tryz.underlying138
 a37 := Tryz.isAgg138
 z37 := Tryz.sizeOf138
 v37 := Tryz.zeroValue138
 t46 := Tryz.underlying84
 a46 := Tryz.isAgg84
 z46 := Tryz.sizeOf84
 v46 := Tryz.zeroValue84
 t51 := Tryz.underlying165
 a51 := Tryz.isAgg165
 z51 := Tryz.sizeOf165
 v51 := Tryz.zeroValue165
 t53 := Tryz.underlying167
 a53 := Tryz.isAgg167
 z53 := Tryz.sizeOf167
 v53 := Tryz.zeroValue167
 t171 := Tryz.underlying189
 a171 := Tryz.isAgg189
 z171 := Tryz.sizeOf189
 v171 := Tryz.zeroValue189
 t173 := Tryz.underlying191
 a173 := Tryz.isAgg191
 z173 := Tryz.sizeOf191
 v173 := Tryz.zeroValue191
 t212 := Tryz.underlying225
 a212 := Tryz.isAgg225
 z212 := Tryz.sizeOf225
 v212 := Tryz.zeroValue225
 t213 := Tryz.underlying226
 a213 := Tryz.isAgg226
 z213 := Tryz.sizeOf226
 t232 := Tryz.underlying249
 a232 := Tryz.isAgg249
 z232 := Tryz.sizeOf249
 v232 := Tryz.zeroValue249
 t233 := Tryz.underlying250
 a233 := Tryz.isAgg250
 z233 := Tryz.sizeOf250
 v233 := Tryz.zeroValue250
 g17 := by kernel_rfl
 g18 := by kernel_rfl
 g19 := by kernel_rfl
 i0 := by kernel_rfl
 i2 := by kernel_rfl
 i3 := by kernel_rfl
 i4 := by kernel_rfl
 i5 := by kernel_rfl
 i9 := by kernel_rfl
 i20 := by kernel_rfl
 i37 := by kernel_rfl
 i46 := by kernel_rfl
 i51 := by kernel_rfl
 i53 := by kernel_rfl
 i171 := by kernel_rfl
 i173 := by kernel_rfl
 i212 := by kernel_rfl
 i232 := by kernel_rfl
 i233 := by kernel_rfl
 m17 := by kernel_rfl
 m18 := by kernel_rfl
 m19 := by kernel_rfl }
open Go.RowKit Go.Sort Go.Lib in
/-- strconv.Itoa: "Itoa is equivalent to FormatInt(int64(i), 10).": i's DECIMAL NUMERAL ('Lib.itoa': a '-' where i is negative, then the digits), FOR EVERY int. The world behind the call: the world before it, new blocks behind the heap (the library's 'var a [24]byte'), draws. (LAID: no walk: one application.) -/
theorem Tryz.strconv_Itoa (n : Int) (h0 : -9223372036854775808 ≤ n) (h1 : n ≤ 9223372036854775807) (w : World) (htab : Lib.TabIs Tryz.prog w "internal/strconv.uint64pow10" .u64 Lib.pow10Tab) :
  Calls Tryz.prog 88 #[.int .i64 n] w fun e w' => e = .returned (.string ⟨(Lib.itoa n).toArray⟩) ∧ ∃ k os, w' = grow (w.drewN k) os := Any.strconv_Itoa Tryz.laysM171 n h0 h1 w htab
def Tryz.lays287_ren : Go.Shelf.Ren := ⟨fun | 287 => 169 | 321 => 211 | 322 => 212 | n => n, fun | 9 => 9 | 3 => 3 | 53 => 167 | 75 => 96 | 4 => 4 | 167 => 137 | 5 => 5 | 46 => 84 | 37 => 138 | 0 => 0 | 21 => 21 | 80 => 200 | n => n, fun | n => n⟩
theorem Tryz.lays287 : Go.Proofs.Lays.n287 Tryz.prog Tryz.lays287_ren := {
 mixed := by kernel_rfl
 f287 := Tryz.func169.trans (congrArg some (by kernel_rfl))
 f321 := Tryz.func211.trans (congrArg some (by kernel_rfl))
 f322 := Tryz.func212.trans (congrArg some (by kernel_rfl))
 t0 := Tryz.underlying0
 a0 := Tryz.isAgg0
 z0 := Tryz.sizeOf0
 v0 := Tryz.zeroValue0
 t3 := Tryz.underlying3
 a3 := Tryz.isAgg3
 z3 := Tryz.sizeOf3
 v3 := Tryz.zeroValue3
 t4 := Tryz.underlying4
 a4 := Tryz.isAgg4
 z4 := Tryz.sizeOf4
 v4 := Tryz.zeroValue4
 t5 := Tryz.underlying5
 a5 := Tryz.isAgg5
 z5 := Tryz.sizeOf5
 v5 := Tryz.zeroValue5
 t9 := Tryz.underlying9
 a9 := Tryz.isAgg9
 z9 := Tryz.sizeOf9
 v9 := Tryz.zeroValue9
 t21 := Tryz.underlying21
 a21 := Tryz.isAgg21
 z21 := Tryz.sizeOf21
 v21 := Tryz.zeroValue21
 t37 := Tryz.underlying138
 a37 := Tryz.isAgg138
 z37 := Tryz.sizeOf138
 v37 := Tryz.zeroValue138
 t46 := Tryz.underlying84
 a46 := Tryz.isAgg84
 z46 := Tryz.sizeOf84
 v46 := Tryz.zeroValue84
 t53 := Tryz.underlying167
 a53 := Tryz.isAgg167
 z53 := Tryz.sizeOf167
 v53 := Tryz.zeroValue167
 t75 := Tryz.underlying96
 a75 := Tryz.isAgg96
 z75 := Tryz.sizeOf96
 v75 := Tryz.zeroValue96
 t167 := Tryz.underlying137
 a167 := Tryz.isAgg137
 z167 := Tryz.sizeOf137
 v167 := Tryz.zeroValue137 }
open Go.RowKit in
def Tryz.lays101_ren : Go.Shelf.Ren := ⟨fun | 101 => 87 | 208 => 115 | 206 => 146 | n => n, fun | 9 => 9 | 4 => 4 | 3 => 3 | n => n, fun | n => n⟩
theorem Tryz.lays101 : Go.Proofs.Lays.n101 Tryz.prog Tryz.lays101_ren := {
 mixed := by kernel_rfl
 f101 := Tryz.func87.trans (congrArg some (by kernel_rfl))
 f206 := Tryz.func146.trans (congrArg some (by kernel_rfl))
 f208 := Tryz.func115.trans (congrArg some (by kernel_rfl))
 t3 := Tryz.underlying3
 a3 := Tryz.isAgg3
 z3 := Tryz.sizeOf3
 v3 := Tryz.zeroValue3
 t4 := Tryz.underlying4
 a4 := Tryz.isAgg4
 z4 := Tryz.sizeOf4
 v4 := Tryz.zeroValue4
 t9 := Tryz.underlying9
 a9 := Tryz.isAgg9
 z9 := Tryz.sizeOf9
 v9 := Tryz.zeroValue9 }
open Go.RowKit Go.Lib in
/-- strings.TrimPrefix: "TrimPrefix returns s without the provided leading prefix string. If s doesn't start with prefix, s is returned unchanged.": IT RETURNS 'Lib.trimPrefix s prefix'; the world is az it was. (LAID: no walk: one application.) -/
theorem Tryz.strings_TrimPrefix (s p : ByteArray) (w : World) :
  Calls Tryz.prog 87 #[.string s, .string p] w fun e w' => e = .returned (.string ⟨(Lib.trimPrefix s.data.toList p.data.toList).toArray⟩) ∧ w' = w := Any.strings_TrimPrefix Tryz.lays101 s p w
def Tryz.lays105_ren : Go.Shelf.Ren := ⟨fun | 105 => 191 | 212 => 221 | 99 => 222 | 165 => 223 | 166 => 190 | 170 => 192 | 169 => 193 | 263 => 234 | 264 => 235 | 206 => 146 | 240 => 220 | 241 => 236 | 276 => 233 | 277 => 242 | n => n, fun | 9 => 9 | 3 => 3 | 4 => 4 | 20 => 20 | 0 => 0 | 46 => 84 | 109 => 227 | 5 => 5 | 72 => 196 | 76 => 97 | 51 => 165 | 146 => 238 | 53 => 167 | 148 => 240 | 70 => 194 | 37 => 138 | 75 => 96 | 127 => 217 | 164 => 236 | 80 => 200 | n => n, fun | n => n⟩
theorem Tryz.lays105 : Go.Proofs.Lays.n105 Tryz.prog Tryz.lays105_ren := {
 mixed := by kernel_rfl
 f99 := Tryz.func222.trans (congrArg some (by kernel_rfl))
 f105 := Tryz.func191.trans (congrArg some (by kernel_rfl))
 f165 := Tryz.func223.trans (congrArg some (by kernel_rfl))
 f166 := Tryz.func190.trans (congrArg some (by kernel_rfl))
 f169 := Tryz.func193.trans (congrArg some (by kernel_rfl))
 f170 := Tryz.func192.trans (congrArg some (by kernel_rfl))
 f206 := Tryz.func146.trans (congrArg some (by kernel_rfl))
 f212 := Tryz.func221.trans (congrArg some (by kernel_rfl))
 f240 := Tryz.func220.trans (congrArg some (by kernel_rfl))
 f241 := Tryz.func236.trans (congrArg some (by kernel_rfl))
 f263 := Tryz.func234.trans (congrArg some (by kernel_rfl))
 f264 := Tryz.func235.trans (congrArg some (by kernel_rfl))
 f276 := Tryz.func233.trans (congrArg some (by kernel_rfl))
 f277 := Tryz.func242.trans (congrArg some (by kernel_rfl))
 t0 := Tryz.underlying0
 a0 := Tryz.isAgg0
 z0 := Tryz.sizeOf0
 v0 := Tryz.zeroValue0
 t3 := Tryz.underlying3
 a3 := Tryz.isAgg3
 z3 := Tryz.sizeOf3
 v3 := Tryz.zeroValue3
 t4 := Tryz.underlying4
 a4 := Tryz.isAgg4
 z4 := Tryz.sizeOf4
 v4 := Tryz.zeroValue4
 t5 := Tryz.underlying5
 a5 := Tryz.isAgg5
 z5 := Tryz.sizeOf5
 v5 := Tryz.zeroValue5
 t9 := Tryz.underlying9
 a9 := Tryz.isAgg9
 z9 := Tryz.sizeOf9
 v9 := Tryz.zeroValue9
 t20 := Tryz.underlying20
 a20 := Tryz.isAgg20
 z20 := Tryz.sizeOf20
 v20 := Tryz.zeroValue20
 t37 := Tryz.underlying138
 a37 := Tryz.isAgg138
 z37 := Tryz.sizeOf138
 v37 := Tryz.zeroValue138
 t46 := Tryz.underlying84
 a46 := Tryz.isAgg84
 z46 := Tryz.sizeOf84
 v46 := Tryz.zeroValue84
 t51 := Tryz.underlying165
 a51 := Tryz.isAgg165
 z51 := Tryz.sizeOf165
 v51 := Tryz.zeroValue165
 t53 := Tryz.underlying167
 a53 := Tryz.isAgg167
 z53 := Tryz.sizeOf167
 v53 := Tryz.zeroValue167
 t70 := Tryz.underlying194
 a70 := Tryz.isAgg194
 z70 := Tryz.sizeOf194
 v70 := Tryz.zeroValue194
 t72 := Tryz.underlying196
 a72 := Tryz.isAgg196
 z72 := Tryz.sizeOf196
 v72 := Tryz.zeroValue196
 t75 := Tryz.underlying96
 a75 := Tryz.isAgg96
 z75 := Tryz.sizeOf96
 v75 := Tryz.zeroValue96
 t76 := Tryz.underlying97
 a76 := Tryz.isAgg97
 z76 := Tryz.sizeOf97
 v76 := Tryz.zeroValue97
 t109 := Tryz.underlying227
 a109 := Tryz.isAgg227
 z109 := Tryz.sizeOf227
 v109 := Tryz.zeroValue227
 t127 := Tryz.underlying217
 a127 := Tryz.isAgg217
 z127 := Tryz.sizeOf217
 v127 := Tryz.zeroValue217
 t146 := Tryz.underlying238
 a146 := Tryz.isAgg238
 z146 := Tryz.sizeOf238
 v146 := Tryz.zeroValue238
 t148 := Tryz.underlying240
 a148 := Tryz.isAgg240
 z148 := Tryz.sizeOf240
 v148 := Tryz.zeroValue240
 t164 := Tryz.underlying236
 a164 := Tryz.isAgg236
 z164 := Tryz.sizeOf236
 v164 := Tryz.zeroValue236 }
theorem Tryz.Builder_Extra_105 : Builder.Extra Tryz.prog Tryz.lays105_ren := {
 sizeBuilder := by kernel_rfl
 liesBuilder := by kernel_rfl
 t5 := Tryz.underlying5
 a5 := Tryz.isAgg5
 z5 := Tryz.sizeOf5
 v5 := Tryz.zeroValue5
 infoByte := by kernel_rfl
 cellsByte := by kernel_rfl
 sizeByte := by kernel_rfl
 neB5 := by decide }
open Go.RowKit Go.Lib in
/-- **strings.Repeat: count ≥ 0, the result within one allocation: count copies of s.** (LAID: no walk: one application.) -/
theorem Tryz.strings_Repeat (s : ByteArray) (c : Nat) (w : World) (hc : c ≤ 9223372036854775807) (hlen : s.size * c ≤ 140737488355328) :
  Calls Tryz.prog 191 #[.string s, .int .i64 c] w fun e w' => e = .returned (.string ⟨(Lib.repeatL s.data.toList c).toArray⟩) ∧ Below w.heap.size w w' := Any.strings_Repeat Tryz.lays105 Tryz.Builder_Extra_105 s c w hc hlen
end Go.Proofs
set_option linter.unusedVariables false
namespace Go.Proofs.YtdekcppfpgeneaaGreatDoor
open Go Go.RowKit

/-! what the walks read of the library's tables -/
def Tabs (w : World) : Prop :=
 Lib.TabIs Tryz.prog w "internal/strconv.uint64pow10" .u64 Lib.pow10Tab ∧ w.cell? ⟨6, 15, none⟩ = some (.int .u8 4) ∧ 6 < w.heap.size
theorem Tabs.stays {w w' : World} {B : Nat} (h : Tabs w) (hb : Below B w w') (hB : w.heap.size ≤ B) : Tabs w' := by
 obtain ⟨h1, h2, h3⟩ := h
 refine ⟨Joins.tab_stays (g := 2) (by kernel_rfl) h1 hb hB, ?_, ?_⟩
 ·rw [hb.cell (by show 6 < B; omega)]; exact h2
 ·exact Nat.lt_of_lt_of_le h3 hb.size
theorem Tabs.on {w w' : World} (h : Tabs w) (hb : Below w.heap.size w w') : Tabs w' := h.stays hb (Nat.le_refl _)

end Go.Proofs.YtdekcppfpgeneaaGreatDoor
set_option linter.unusedVariables false
namespace Go.Proofs.YtdekcppfpgeneaaGreatDoor
open Go Go.RowKit

end Go.Proofs.YtdekcppfpgeneaaGreatDoor
set_option linter.unusedVariables false
namespace Go.Proofs.YtdekcppfpgeneaaGreatDoor
open Go Go.RowKit

end Go.Proofs.YtdekcppfpgeneaaGreatDoor
set_option linter.unusedVariables false
namespace Go.Proofs.YtdekcppfpgeneaaGreatDoor
open Go Go.RowKit

end Go.Proofs.YtdekcppfpgeneaaGreatDoor
set_option linter.unusedVariables false
namespace Go.Proofs.YtdekcppfpgeneaaGreatDoor
open Go Go.RowKit

end Go.Proofs.YtdekcppfpgeneaaGreatDoor
set_option linter.unusedVariables false
namespace Go.Proofs.YtdekcppfpgeneaaGreatDoor
open Go Go.RowKit

end Go.Proofs.YtdekcppfpgeneaaGreatDoor
set_option linter.unusedVariables false
namespace Go.Proofs.YtdekcppfpgeneaaGreatDoor
open Go Go.RowKit

/-! Is -/
theorem dropWhile_nil (p : UInt8 → Bool) : ∀ l : List UInt8, l.dropWhile p = [] ↔ ∀ x ∈ l, p x = true
 | [] => by simp
 | a :: l => by
  rw [List.dropWhile_cons]
  by_cases ha : p a = true
  ·rw [if_pos ha, dropWhile_nil p l]; simp [ha]
  ·rw [if_neg ha]
   constructor
   ·intro h; cases h
   ·intro h; exact absurd (h a (List.mem_cons_self ..)) ha
theorem dropWhile_first (p : UInt8 → Bool) : ∀ {l : List UInt8} {a : UInt8} {r : List UInt8}, l.dropWhile p = a :: r → p a = false
 | [], _, _, h => by cases h
 | x :: l, a, r, h => by
  rw [List.dropWhile_cons] at h
  by_cases hx : p x = true
  ·rw [if_pos hx] at h; exact dropWhile_first p h
  ·rw [if_neg hx] at h
   injection h with h1 _
   subst h1
   simpa using hx
theorem trim_nil (l cs : List UInt8) : (Lib.trimS l cs = []) ↔ ∀ x ∈ l, cs.contains x = true := by
 unfold Lib.trimS Lib.trimLeftS Lib.trimRightS
 rw [dropWhile_nil]
 constructor
 ·intro h x hx
  cases hr : l.reverse.dropWhile (cs.contains ·) with
  | nil =>
   rw [dropWhile_nil] at hr
   exact hr x (List.mem_reverse.2 hx)
  | cons a r =>
   exfalso
   have ha : cs.contains a = false := dropWhile_first _ hr
   have := h a (by rw [hr]; simp)
   rw [ha] at this
   cases this
 ·intro h x hx
  have h1 := List.mem_reverse.1 hx
  exact h x (List.mem_reverse.1 ((List.dropWhile_sublist _).subset h1))
end Go.Proofs.YtdekcppfpgeneaaGreatDoor
set_option linter.unusedVariables false
namespace Go.Proofs.YtdekcppfpgeneaaGreatDoor
open Go Go.RowKit

end Go.Proofs.YtdekcppfpgeneaaGreatDoor
set_option linter.unusedVariables false
namespace Go.Proofs.YtdekcppfpgeneaaGreatDoor
open Go Go.RowKit

end Go.Proofs.YtdekcppfpgeneaaGreatDoor
set_option linter.unusedVariables false
namespace Go.Proofs.YtdekcppfpgeneaaGreatDoor
open Go Go.RowKit

def hd (v : Nat) : List UInt8 := if v = 0 then [] else Lib.decDigits v
end Go.Proofs.YtdekcppfpgeneaaGreatDoor
set_option linter.unusedVariables false
set_option linter.unusedSimpArgs false
namespace Go.Proofs.YtdekcppfpgeneaaGreatDoor
open Go Go.RowKit
namespace Av

/-! Contracts of the walks, in the engine's words. -/
theorem arr1 {vs : Array Value} {a : Value} (h : vs.toList = [a]) : vs = #[a] := Array.toList_inj.1 h
theorem args_v {s : St} {r : List AV} {x : Value} {vs : List Value} (h : RepL s (.d (.v x) :: r) vs) : ∃ t, vs = x :: t ∧ RepL s r t := by
 simp only [RepL, Rep, PRep] at h
 obtain ⟨_, t, rfl, ⟨rfl, h1⟩, h2⟩ := h
 exact ⟨t, rfl, h2⟩
theorem args_nil {s : St} {vs : List Value} (h : RepL s [] vs) : vs = [] := by simpa only [RepL] using h
theorem args1 {s : St} {x : Value} {vs : Array Value} (h : RepL s [.d (.v x)] vs.toList) : vs = #[x] := by
 obtain ⟨t, e, h⟩ := args_v h
 rw [args_nil h] at e
 exact arr1 e
theorem args2 {s : St} {x y : Value} {vs : Array Value} (h : RepL s [.d (.v x), .d (.v y)] vs.toList) : vs = #[x, y] := by
 obtain ⟨t, e, h⟩ := args_v h
 obtain ⟨t2, e2, h⟩ := args_v h
 rw [e2, args_nil h] at e
 exact Array.toList_inj.1 e
theorem args3 {s : St} {x y z : Value} {vs : Array Value} (h : RepL s [.d (.v x), .d (.v y), .d (.v z)] vs.toList) : vs = #[x, y, z] := by
 obtain ⟨t, e, h⟩ := args_v h
 obtain ⟨t2, e2, h⟩ := args_v h
 obtain ⟨t3, e3, h⟩ := args_v h
 rw [e3, args_nil h] at e2
 rw [e2] at e
 exact Array.toList_inj.1 e
theorem pure_scalar {P : Program} {base : World} {f : FuncId} {args : List AV} {x : Value} (hcall : ∀ (vs : Array Value) (w : World), (callFunc f vs).run P w = .ok (.enter f vs) w) (hx : small x)
  (h : ∀ (s : St) (vs : Array Value), Sim base s → RepL s args vs.toList → Calls P f vs s.w fun e w' => e = .returned x ∧ Below s.w.heap.size s.w w') : PureA P base f args (.d (.v x)) :=
 pure_of_calls hcall fun s vs hs ha => (h s vs hs ha).mono fun e w' ⟨h1, h2⟩ => ⟨x, h1, h2, by simp only [PRep]; exact ⟨trivial, hx⟩⟩
theorem pure_of_rep {P : Program} {base : World} {f : FuncId} {args : List AV} {r : AV} (hcall : ∀ (vs : Array Value) (w : World), (callFunc f vs).run P w = .ok (.enter f vs) w)
  (h : ∀ (s : St) (vs : Array Value), Sim base s → RepL s args vs.toList → Calls P f vs s.w fun e w' => ∃ v, e = .returned v ∧ Below s.w.heap.size s.w w' ∧ ∀ s' : St, s'.w = w' → (∀ b, b < w'.heap.size → s.w.heap.size ≤ b → s'.imm b) → Rep s' r v) : PureA P base f args r := fun H =>
 ⟨hcall, fun μ w vs hs ha => (h ⟨μ, H, w⟩ vs hs ha).mono fun e w' ⟨v, h1, h2, h3⟩ => by
  have hs' := hs.below' (s := ⟨μ, H, w⟩) h2
  refine ⟨v, r, H, μ, h1, ⟨rfl, rfl⟩, Nat.le_refl _, hs'.1, ?_, hs'.2⟩
  refine h3 ⟨μ, H, w'⟩ rfl fun b hb hge => ⟨hb, fun hl => ?_⟩
  have hlt := (hs.live_ge (s := ⟨μ, H, w⟩) hl).2
  have hge' : w.heap.size ≤ b := hge
  have hlt' : b < w.heap.size := hlt
  omega⟩
theorem tabs_s {base : World} {s : St} (hs : Sim base s) (hT : Tabs base) : Tabs s.w := hT.on hs.below
/-- a text of digits -/
def decT (n : Nat) : ByteArray := ⟨(Lib.decDigits n).toArray⟩
theorem decT_size (n : Nat) : (decT n).size = (Lib.decDigits n).length := by rw [Lib.size_eq]; simp [decT]
theorem decT_list (n : Nat) : (decT n).data.toList = Lib.decDigits n := by simp [decT]
theorem decT_9 {n : Nat} (h : n < 1000000000) : 0 < (decT n).size ∧ (decT n).size ≤ 9 := by
 rw [decT_size]
 exact ⟨Nt.dec_pos n, Nt.dec_9 h⟩
/-! FormatUint at base 10. -/
theorem holds_zero0 (w : World) (T : TypeId) (nd : Nat) (hs : nd ≤ 24) : Sort.Holds (fun (b : UInt8) => Value.int .u8 (b.toNat : Int)) (w.alloc (.cells Lib.zeros24 T)) w.heap.size 0 (Array.replicate nd (0 : UInt8)) := fun j hj => by
 have hj' : j < nd := by simpa using hj
 refine ⟨?_, World.frozen?_alloc_new _ _ _ _⟩
 rw [World.cell?_alloc_new, Lib.zeros24_at _ (by omega), getElem!_pos _ j hj]
 simp
theorem fin_pos0 (w : World) (o : Obj) (dk : Array UInt8) (k : Nat) : ∃ os, (Sort.putRow (fun (b : UInt8) => Value.int .u8 (b.toNat : Int)) (w.alloc o) w.heap.size 0 dk).drewN k = Sort.grow (w.drewN k) os := by
 rw [Sort.alloc_eq_grow]
 obtain ⟨os', _, e⟩ := Sort.putRow_grow_new (fun (b : UInt8) => Value.int .u8 (b.toNat : Int)) w #[o] w.heap.size 0 dk (Nat.le_refl _)
 exact ⟨os', by rw [e]; rfl⟩
set_option maxHeartbeats 4000000 in
set_option maxRecDepth 100000 in
theorem ifmt_calls (u : Nat) (hu64 : u < 18446744073709551616) (w : World) (htab : Tabs w) : Calls Tryz.prog 219 #[.int .u64 u, .int .i64 10] w fun e w' => e = .returned (.string (decT u)) ∧ Below w.heap.size w w' := by
 by_cases hs : u < 100
 ·go_enter Tryz.func219, Tryz.ntmps219
  have hw : IntKind.i64.wrap (u : Int) = (u : Int) := by rw [IntKind.wrap_i64]; omega
  go_wp2_with fail
  refine (Tryz.internal_strconv_small u hs _).mono ?_
  rintro e w1 ⟨rfl, rfl⟩
  go_wp2
  go_ret
  exact ⟨rfl, Below.refl _ _⟩
 ·have hu1 : 1 ≤ u := by omega
  have hnd20 : Lib.nDigits u ≤ 20 := by have := Lib.numDigits_eq u hu1 hu64; split at this <;> omega
  have hal : Tryz.prog.arrayLen 189 = 24 := by kernel_rfl
  have hsl1 : ∀ W, (Instr.sliceAt 189 (.pointer (some ⟨w.heap.size, 0, none⟩)) none (some (.int .i64 (Lib.nDigits u : Int))) none).run Tryz.prog W = .ok (.slice (some ⟨w.heap.size, 0, none⟩) (Lib.nDigits u) 24) W := fun W => by
   have hel : Tryz.prog.elem 189 = 5 := by kernel_rfl
   rw [run_sliceAt_array_h W 189 ⟨w.heap.size, 0, none⟩ (by kernel_rfl) .i64 (Lib.nDigits u : Int) (by omega) (by rw [hal]; omega), hal, hel, Tryz.sizeOf5]
   simp [slicedAt, Lib.add_plain, Result.andThen]
  have hH0 := holds_zero0 w 189 (Lib.nDigits u) (by omega)
  have hfmt := Tryz.internal_strconv_formatBase10 w.heap.size 0 24 u (Array.replicate (Lib.nDigits u) 0) (w.alloc (.cells Lib.zeros24 189)) hH0 (by rw [Array.size_replicate]; exact Lib.lt_pow_nDigits u) hu64 (by rw [Array.size_replicate]; omega)
  rw [Array.size_replicate] at hfmt
  have HH0 := Lib.hid hH0
  clear hH0 hal
  go_enter Tryz.func219, Tryz.ntmps219
  go_wp2_with fail
  refine (Tryz.internal_strconv_numDigits u hu1 hu64 _ (Lib.tabIs_alloc htab.1 _)).mono ?_
  rintro e w' ⟨rfl, rfl⟩
  go_wp2_with fail
  refine hfmt.mono ?_
  rintro e w' ⟨rfl, k, v', dk, rfl, hF⟩
  have hcv : (convert 138 9 (.slice (some ⟨w.heap.size, 0, none⟩) (Lib.nDigits u) 24)).run Tryz.prog ((Sort.putRow (fun (b : UInt8) => Value.int .u8 (b.toNat : Int)) (w.alloc (.cells Lib.zeros24 189)) w.heap.size 0 dk).drewN k) = .ok (.string ⟨(Lib.decDigits u).toArray⟩) ((Sort.putRow (fun (b : UInt8) => Value.int .u8 (b.toNat : Int)) (w.alloc (.cells Lib.zeros24 189)) w.heap.size 0 dk).drewN k) := by
   have h := run_convert_bytes_back (P := Tryz.prog) ((Sort.putRow (fun (b : UInt8) => Value.int .u8 (b.toNat : Int)) (w.alloc (.cells Lib.zeros24 189)) w.heap.size 0 dk).drewN k) 138 9 5 ⟨w.heap.size, 0, none⟩ 24 (Lib.decDigits u) (by kernel_rfl) (by kernel_rfl) (by kernel_rfl) (fun j hj => by
    rw [Lib.row_is_numeral hF j hj, Lib.add_plain, World.cell?_drewN]
    exact Sort.cell?_putRow (fun (b : UInt8) => Value.int .u8 (b.toNat : Int)) _ w.heap.size 0 _ dk HH0.out (by rw [hF.size, Array.size_replicate]) j (by rw [hF.size]; rw [Lib.decDigits_length] at hj; exact hj))
   rw [Lib.decDigits_length] at h
   exact h
  go_wp2
  go_ret
  obtain ⟨os, eo⟩ := fin_pos0 w (.cells Lib.zeros24 189) dk k
  exact ⟨rfl, by rw [eo]; exact Lib.below_grow _ _ (Nat.le_refl _) _ _⟩
theorem fmt_calls (u : Nat) (hu64 : u < 18446744073709551616) (w : World) (htab : Tabs w) : Calls Tryz.prog 189 #[.int .u64 u, .int .i64 10] w fun e w' => e = .returned (.string (decT u)) ∧ Below w.heap.size w w' := by
 go_enter Tryz.func189, Tryz.ntmps189
 go_wp2_with fail
 refine (ifmt_calls u hu64 w htab).mono ?_
 rintro e w1 ⟨rfl, hb⟩
 go_wp2
 go_ret
 exact ⟨rfl, hb⟩
theorem fmt_a {base : World} (hT : Tabs base) (u : Nat) (hu : u < 1000000000) : PureA Tryz.prog base 189 [.d (.v (.int .u64 (u : Int))), .d (.v (.int .i64 10))] (.d (.v (.string (decT u)))) :=
 pure_scalar Tryz.call189 (by have := (decT_9 hu).2; show _ ≤ _; omega) fun s vs hs ha => by
  rw [args2 ha]
  exact fmt_calls u (by omega) s.w (tabs_s hs hT)
/-! Repeat -/
theorem rep_a {base : World} (x : ByteArray) (c : Nat) (hc : c ≤ 1000) (hx : x.size ≤ 1000) : PureA Tryz.prog base 191 [.d (.v (.string x)), .d (.v (.int .i64 (c : Int)))] (.d (.v (.string ⟨(Lib.repeatL x.data.toList c).toArray⟩))) :=
 pure_scalar Tryz.call191 (by
  show ByteArray.size _ ≤ _
  rw [Lib.size_eq]
  simp only [Lib.repeatL_length]
  have : c * x.data.toList.length ≤ 1000 * 1000 := Nat.mul_le_mul hc (by rw [← Lib.size_eq]; exact hx)
  omega) fun s vs hs ha => by
  rw [args2 ha]
  exact Tryz.strings_Repeat x c s.w (by omega) (Nat.le_trans (Nat.mul_le_mul hx hc) (by decide))
end Av
end Go.Proofs.YtdekcppfpgeneaaGreatDoor
set_option linter.unusedVariables false
set_option linter.unusedSimpArgs false
namespace Go.Proofs.YtdekcppfpgeneaaGreatDoor
open Go Go.RowKit
namespace Av
theorem strneF {a b : ByteArray} (h : ¬ a = b) : ¬ a.toList = b.toList := fun e => by
 rw [ByteArray.toList_eq, ByteArray.toList_eq] at e
 exact h (ByteArray.ext (Array.toList_inj.1 e))
theorem kinds_ii {xs : List Value} (h : kindsL [.int .i64, .int .i64] xs = true) : ∃ a n, xs = [.int .i64 a, .int .i64 n] := by
 match xs, h with
 | [], h => simp [kindsL] at h
 | [x], h => simp [kindsL] at h
 | x :: y :: z :: r, h => simp [kindsL] at h
 | [x, y], h =>
  simp only [kindsL, Bool.and_eq_true, Bool.and_true] at h
  cases x <;> simp [kindV] at h
  cases y <;> simp [kindV] at h
  obtain ⟨rfl, rfl⟩ := h
  exact ⟨_, _, rfl⟩
theorem kinds_bss {xs : List Value} (h : kindsL [.bool, .str, .str] xs = true) : ∃ a b c, xs = [.bool a, .string b, .string c] := by
 match xs, h with
 | [], h => simp [kindsL] at h
 | [x], h => simp [kindsL] at h
 | [x, y], h => simp [kindsL] at h
 | x :: y :: z :: u :: r, h => simp [kindsL] at h
 | [x, y, z], h =>
  simp only [kindsL, Bool.and_eq_true, Bool.and_true] at h
  cases x <;> simp [kindV] at h
  cases y <;> simp [kindV] at h
  cases z <;> simp [kindV] at h
  exact ⟨_, _, _, rfl⟩
theorem flat63 : FlatOk Tryz.prog 63 [.int .i64, .int .i64] := by
 have u3 := Tryz.underlying3
 have a3 := Tryz.isAgg3
 have z3 := Tryz.sizeOf3
 have hS : Tryz.prog.underlying 63 = some (.struct (Tryz.prog.fieldsOf 63)) := by kernel_rfl
 have hp : Tryz.prog.stoodInHeld 63 = false := by kernel_rfl
 refine ⟨by kernel_rfl, fun xs ys w hx hy => ?_⟩
 obtain ⟨a, p, rfl⟩ := kinds_ii hx
 obtain ⟨b, q, rfl⟩ := kinds_ii hy
 refine ⟨?_, fun e => ?_⟩
 ·show (Op.equalIn (9999 + 1) 63 (.agg #[.int .i64 a, .int .i64 p]) (.agg #[.int .i64 b, .int .i64 q])).run Tryz.prog w = _
  rw [run_equalIn_agg w 9999 63 _ _ hS hp]
  simp only [Program.fieldsOf, Tryz.underlying63]
  go_simp
  simp only [eqL, eqV]
  by_cases h1 : a = b <;> by_cases h2 : p = q <;> simp [h1, h2]
 ·show (Instr.checkKey e (9999 + 1) 63 (.agg #[.int .i64 a, .int .i64 p])).run Tryz.prog w = _
  unfold Instr.checkKey
  simp only [Program.fieldsOf, Tryz.underlying63]
  go_simp
  rw [MapKept.run_checkKey u3 (k := .int .i64 a) (by first | rfl | trivial) e 9998, Result.andThen_ok, MapKept.run_checkKey u3 (k := .int .i64 p) (by first | rfl | trivial) e 9998]
theorem flat40 : FlatOk Tryz.prog 40 [.bool, .str, .str] := by
 have u4 := Tryz.underlying4
 have a4 := Tryz.isAgg4
 have z4 := Tryz.sizeOf4
 have u9 := Tryz.underlying9
 have a9 := Tryz.isAgg9
 have z9 := Tryz.sizeOf9
 have hS : Tryz.prog.underlying 40 = some (.struct (Tryz.prog.fieldsOf 40)) := by kernel_rfl
 have hp : Tryz.prog.stoodInHeld 40 = false := by kernel_rfl
 refine ⟨by kernel_rfl, fun xs ys w hx hy => ?_⟩
 obtain ⟨a, p, s, rfl⟩ := kinds_bss hx
 obtain ⟨b, q, t, rfl⟩ := kinds_bss hy
 refine ⟨?_, fun e => ?_⟩
 ·show (Op.equalIn (9999 + 1) 40 (.agg #[.bool a, .string p, .string s]) (.agg #[.bool b, .string q, .string t])).run Tryz.prog w = _
  rw [run_equalIn_agg w 9999 40 _ _ hS hp]
  simp only [Program.fieldsOf, Tryz.underlying40]
  go_simp
  simp only [eqL, eqV]
  by_cases h2 : p = q
  ·subst h2
   by_cases h3 : s = t
   ·subst h3; cases a <;> cases b <;> simp
   ·have h5 := strneF h3
    cases a <;> cases b <;> simp [h3, h5]
  ·have h4 := strneF h2
   by_cases h3 : s = t
   ·subst h3; cases a <;> cases b <;> simp [h2, h4]
   ·have h5 := strneF h3
    cases a <;> cases b <;> simp [h2, h4, h3, h5]
 ·show (Instr.checkKey e (9999 + 1) 40 (.agg #[.bool a, .string p, .string s])).run Tryz.prog w = _
  unfold Instr.checkKey
  simp only [Program.fieldsOf, Tryz.underlying40]
  go_simp
  rw [MapKept.run_checkKey u4 (k := .bool a) (by first | rfl | trivial) e 9998, Result.andThen_ok, MapKept.run_checkKey u9 (k := .string p) (by first | rfl | trivial) e 9998, Result.andThen_ok, MapKept.run_checkKey u9 (k := .string s) (by first | rfl | trivial) e 9998]
theorem kinds_iibss {xs : List Value} (h : kindsL [.int .i64, .int .i64, .bool, .str, .str] xs = true) : ∃ i j a b c, xs = [.int .i64 i, .int .i64 j, .bool a, .string b, .string c] := by
 match xs, h with
 | [], h => simp [kindsL] at h
 | [x], h => simp [kindsL] at h
 | x :: y :: r, h =>
  have h1 : kindsL [.int .i64, .int .i64] [x, y] = true ∧ kindsL [.bool, .str, .str] r = true := by
   simp only [kindsL, Bool.and_eq_true, Bool.and_true] at h ⊢
   exact ⟨⟨h.1, h.2.1⟩, h.2.2⟩
  obtain ⟨i, j, e1⟩ := kinds_ii h1.1
  obtain ⟨a, b, c, e2⟩ := kinds_bss h1.2
  simp only [List.cons.injEq, and_true] at e1
  exact ⟨i, j, a, b, c, by rw [e1.1, e1.2, e2]⟩
theorem eqi40 (d : Nat) (a b : Bool) (p q s t : ByteArray) (w : World) : (Op.equalIn (d + 1 + 1) 40 (.agg #[.bool a, .string p, .string s]) (.agg #[.bool b, .string q, .string t])).run Tryz.prog w = .ok (eqL [.bool a, .string p, .string s] [.bool b, .string q, .string t]) w := by
 have u4 := Tryz.underlying4
 have a4 := Tryz.isAgg4
 have z4 := Tryz.sizeOf4
 have u9 := Tryz.underlying9
 have a9 := Tryz.isAgg9
 have z9 := Tryz.sizeOf9
 have hS : Tryz.prog.underlying 40 = some (.struct (Tryz.prog.fieldsOf 40)) := by kernel_rfl
 have hp : Tryz.prog.stoodInHeld 40 = false := by kernel_rfl
 rw [run_equalIn_agg w (d + 1) 40 _ _ hS hp]
 simp only [Program.fieldsOf, Tryz.underlying40]
 go_simp
 simp only [eqL, eqV]
 by_cases h2 : p = q
 ·subst h2
  by_cases h3 : s = t
  ·subst h3; cases a <;> cases b <;> simp
  ·have h5 := strneF h3
   cases a <;> cases b <;> simp [h3, h5]
 ·have h4 := strneF h2
  by_cases h3 : s = t
  ·subst h3; cases a <;> cases b <;> simp [h2, h4]
  ·have h5 := strneF h3
   cases a <;> cases b <;> simp [h2, h4, h3, h5]
theorem flat42 : FlatOk Tryz.prog 42 [.int .i64, .int .i64, .bool, .str, .str] := by
 have u3 := Tryz.underlying3
 have a3 := Tryz.isAgg3
 have z3 := Tryz.sizeOf3
 have u4 := Tryz.underlying4
 have u9 := Tryz.underlying9
 have a40 := Tryz.isAgg40
 have z40 := Tryz.sizeOf40
 have hS : Tryz.prog.underlying 42 = some (.struct (Tryz.prog.fieldsOf 42)) := by kernel_rfl
 have hp : Tryz.prog.stoodInHeld 42 = false := by kernel_rfl
 refine ⟨by kernel_rfl, fun xs ys w hx hy => ?_⟩
 obtain ⟨i, j, a, p, s, rfl⟩ := kinds_iibss hx
 obtain ⟨k, l, b, q, t, rfl⟩ := kinds_iibss hy
 refine ⟨?_, fun e => ?_⟩
 ·show (Op.equalIn (9999 + 1) 42 (.agg #[.int .i64 i, .int .i64 j, .bool a, .string p, .string s]) (.agg #[.int .i64 k, .int .i64 l, .bool b, .string q, .string t])).run Tryz.prog w = _
  rw [run_equalIn_agg w 9999 42 _ _ hS hp]
  simp only [Program.fieldsOf, Tryz.underlying42]
  have e40 := eqi40 9997 a b p q s t
  simp only [Nat.reduceAdd] at e40
  go_simp
  show _ = Result.ok (eqV (.int .i64 i) (.int .i64 k) && (eqV (.int .i64 j) (.int .i64 l) && eqL [.bool a, .string p, .string s] [.bool b, .string q, .string t])) w
  generalize eqL [.bool a, .string p, .string s] [.bool b, .string q, .string t] = c
  simp only [eqV]
  by_cases h1 : i = k <;> by_cases h2 : j = l <;> cases c <;> simp [h1, h2]
 ·show (Instr.checkKey e (9999 + 1) 42 (.agg #[.int .i64 i, .int .i64 j, .bool a, .string p, .string s])).run Tryz.prog w = _
  unfold Instr.checkKey
  simp only [Program.fieldsOf, Tryz.underlying42]
  go_simp
  rw [MapKept.run_checkKey u3 (k := .int .i64 i) (by first | rfl | trivial) e 9998, Result.andThen_ok, MapKept.run_checkKey u3 (k := .int .i64 j) (by first | rfl | trivial) e 9998, Result.andThen_ok]
  have u40 := Tryz.underlying40
  unfold Instr.checkKey
  simp only [Program.fieldsOf, u40]
  go_simp
  rw [MapKept.run_checkKey u4 (k := .bool a) (by first | rfl | trivial) e 9997, Result.andThen_ok, MapKept.run_checkKey u9 (k := .string p) (by first | rfl | trivial) e 9997, Result.andThen_ok, MapKept.run_checkKey u9 (k := .string s) (by first | rfl | trivial) e 9997]
end Av
end Go.Proofs.YtdekcppfpgeneaaGreatDoor
set_option linter.unusedVariables false
namespace Go.Proofs.YtdekcppfpgeneaaGreatDoor
open Go Go.RowKit
namespace Av

/-! The types of this program, az far az they are needed. -/
def ti1 : TI := { size := 1, bytes := 8, kind := .func, zero := [.nilFunc] }
theorem ok1 : TTok Tryz.prog 1 ti1 := ttok_mk Tryz.type1 (by kernel_rfl) (by kernel_rfl) (by kernel_rfl) (fun _ h => nomatch h)
def ti2 : TI := { size := 1, bytes := 8, kind := .int .i64, zero := [.int .i64 0] }
theorem ok2 : TTok Tryz.prog 2 ti2 := ttok_mk Tryz.type2 (by kernel_rfl) (by kernel_rfl) (by kernel_rfl) (fun _ h => nomatch h)
def ti3 : TI := { size := 1, bytes := 8, kind := .int .i64, zero := [.int .i64 0] }
theorem ok3 : TTok Tryz.prog 3 ti3 := ttok_mk Tryz.type3 (by kernel_rfl) (by kernel_rfl) (by kernel_rfl) (fun _ h => nomatch h)
def ti4 : TI := { size := 1, bytes := 1, kind := .bool, zero := [.bool false] }
theorem ok4 : TTok Tryz.prog 4 ti4 := ttok_mk Tryz.type4 (by kernel_rfl) (by kernel_rfl) (by kernel_rfl) (fun _ h => nomatch h)
def ti5 : TI := { size := 1, bytes := 1, kind := .int .u8, zero := [.int .u8 0] }
theorem ok5 : TTok Tryz.prog 5 ti5 := ttok_mk Tryz.type5 (by kernel_rfl) (by kernel_rfl) (by kernel_rfl) (fun _ h => nomatch h)
def ti9 : TI := { size := 1, bytes := 16, kind := .str, zero := [.string ⟨#[]⟩] }
theorem ok9 : TTok Tryz.prog 9 ti9 := ttok_mk Tryz.type9 (by kernel_rfl) (by kernel_rfl) (by kernel_rfl) (fun _ h => nomatch h)
def ti22 : TI := { size := 1, bytes := 24, kind := .slice 9, zero := [.slice none 0 0] }
theorem ok22 : TTok Tryz.prog 22 ti22 := ttok_mk Tryz.type22 (by kernel_rfl) (by kernel_rfl) (by kernel_rfl) (fun _ h => nomatch h)
def ti23 : TI := { size := 1, bytes := 24, kind := .slice 42, zero := [.slice none 0 0] }
theorem ok23 : TTok Tryz.prog 23 ti23 := ttok_mk Tryz.type23 (by kernel_rfl) (by kernel_rfl) (by kernel_rfl) (fun _ h => nomatch h)
def ti25 : TI := { size := 3, bytes := 72, kind := .struct [(0, 22), (1, 23), (2, 23)], zero := [.slice none 0 0, .slice none 0 0, .slice none 0 0] }
theorem ok25 : TTok Tryz.prog 25 ti25 := ttok_mk Tryz.type25 (by kernel_rfl) (by kernel_rfl) (by kernel_rfl) (fun _ h => nomatch h)
def ti26 : TI := { size := 1, bytes := 24, kind := .slice 36, zero := [.slice none 0 0] }
theorem ok26 : TTok Tryz.prog 26 ti26 := ttok_mk Tryz.type26 (by kernel_rfl) (by kernel_rfl) (by kernel_rfl) (fun _ h => nomatch h)
def ti30 : TI := { size := 1, bytes := 8, kind := .int .i64, zero := [.int .i64 0] }
theorem ok30 : TTok Tryz.prog 30 ti30 := ttok_mk Tryz.type30 (by kernel_rfl) (by kernel_rfl) (by kernel_rfl) (fun _ h => nomatch h)
def ti36 : TI := { size := 10, bytes := 136, kind := .struct [(0, 9), (1, 9), (2, 9), (3, 9), (4, 9), (5, 22), (6, 3), (7, 3), (8, 3), (9, 3)], zero := [.string ⟨#[]⟩, .string ⟨#[]⟩, .string ⟨#[]⟩, .string ⟨#[]⟩, .string ⟨#[]⟩, .slice none 0 0, .int .i64 0, .int .i64 0, .int .i64 0, .int .i64 0] }
theorem ok36 : TTok Tryz.prog 36 ti36 := ttok_mk Tryz.type36 (by kernel_rfl) (by kernel_rfl) (by kernel_rfl) (fun _ h => nomatch h)
def ti40 : TI := { size := 3, bytes := 40, kind := .struct [(0, 4), (1, 9), (2, 9)], zero := [.bool false, .string ⟨#[]⟩, .string ⟨#[]⟩], flat := some [.bool, .str, .str] }
theorem ok40 : TTok Tryz.prog 40 ti40 := ttok_mk Tryz.type40 (by kernel_rfl) (by kernel_rfl) (by kernel_rfl) (fun ks h => by cases h; exact flat40)
def ti42 : TI := { size := 5, bytes := 56, kind := .struct [(0, 3), (1, 3), (2, 40)], zero := [.int .i64 0, .int .i64 0, .bool false, .string ⟨#[]⟩, .string ⟨#[]⟩], flat := some [.int .i64, .int .i64, .bool, .str, .str] }
theorem ok42 : TTok Tryz.prog 42 ti42 := ttok_mk Tryz.type42 (by kernel_rfl) (by kernel_rfl) (by kernel_rfl) (fun ks h => by cases h; exact flat42)
def ti56 : TI := { size := 1, bytes := 8, kind := .func, zero := [.nilFunc] }
theorem ok56 : TTok Tryz.prog 56 ti56 := ttok_mk Tryz.type56 (by kernel_rfl) (by kernel_rfl) (by kernel_rfl) (fun _ h => nomatch h)
def ti58 : TI := { size := 1, bytes := 8, kind := .map 63 3, zero := [.map none] }
theorem ok58 : TTok Tryz.prog 58 ti58 := ttok_mk Tryz.type58 (by kernel_rfl) (by kernel_rfl) (by kernel_rfl) (fun _ h => nomatch h)
def ti61 : TI := { size := 1, bytes := 8, kind := .func, zero := [.nilFunc] }
theorem ok61 : TTok Tryz.prog 61 ti61 := ttok_mk Tryz.type61 (by kernel_rfl) (by kernel_rfl) (by kernel_rfl) (fun _ h => nomatch h)
def ti63 : TI := { size := 2, bytes := 16, kind := .struct [(0, 3), (1, 3)], zero := [.int .i64 0, .int .i64 0], flat := some [.int .i64, .int .i64] }
theorem ok63 : TTok Tryz.prog 63 ti63 := ttok_mk Tryz.type63 (by kernel_rfl) (by kernel_rfl) (by kernel_rfl) (fun ks h => by cases h; exact flat63)
def ti67 : TI := { size := 1, bytes := 8, kind := .func, zero := [.nilFunc] }
theorem ok67 : TTok Tryz.prog 67 ti67 := ttok_mk Tryz.type67 (by kernel_rfl) (by kernel_rfl) (by kernel_rfl) (fun _ h => nomatch h)
def ti68 : TI := { size := 1, bytes := 8, kind := .map 3 3, zero := [.map none] }
theorem ok68 : TTok Tryz.prog 68 ti68 := ttok_mk Tryz.type68 (by kernel_rfl) (by kernel_rfl) (by kernel_rfl) (fun _ h => nomatch h)
def ti69 : TI := { size := 1, bytes := 8, kind := .func, zero := [.nilFunc] }
theorem ok69 : TTok Tryz.prog 69 ti69 := ttok_mk Tryz.type69 (by kernel_rfl) (by kernel_rfl) (by kernel_rfl) (fun _ h => nomatch h)
def ti72 : TI := { size := 1, bytes := 8, kind := .func, zero := [.nilFunc] }
theorem ok72 : TTok Tryz.prog 72 ti72 := ttok_mk Tryz.type72 (by kernel_rfl) (by kernel_rfl) (by kernel_rfl) (fun _ h => nomatch h)
def ti80 : TI := { size := 1, bytes := 8, kind := .map 9 4, zero := [.map none] }
theorem ok80 : TTok Tryz.prog 80 ti80 := ttok_mk Tryz.type80 (by kernel_rfl) (by kernel_rfl) (by kernel_rfl) (fun _ h => nomatch h)
def ti81 : TI := { size := 1, bytes := 8, kind := .func, zero := [.nilFunc] }
theorem ok81 : TTok Tryz.prog 81 ti81 := ttok_mk Tryz.type81 (by kernel_rfl) (by kernel_rfl) (by kernel_rfl) (fun _ h => nomatch h)
def ti82 : TI := { size := 1, bytes := 24, kind := .slice 40, zero := [.slice none 0 0] }
theorem ok82 : TTok Tryz.prog 82 ti82 := ttok_mk Tryz.type82 (by kernel_rfl) (by kernel_rfl) (by kernel_rfl) (fun _ h => nomatch h)
def ti84 : TI := { size := 1, bytes := 8, kind := .int .u64, zero := [.int .u64 0] }
theorem ok84 : TTok Tryz.prog 84 ti84 := ttok_mk Tryz.type84 (by kernel_rfl) (by kernel_rfl) (by kernel_rfl) (fun _ h => nomatch h)
def ti86 : TI := { size := 1, bytes := 24, kind := .slice 63, zero := [.slice none 0 0] }
theorem ok86 : TTok Tryz.prog 86 ti86 := ttok_mk Tryz.type86 (by kernel_rfl) (by kernel_rfl) (by kernel_rfl) (fun _ h => nomatch h)
def ti89 : TI := { size := 1, bytes := 8, kind := .func, zero := [.nilFunc] }
theorem ok89 : TTok Tryz.prog 89 ti89 := ttok_mk Tryz.type89 (by kernel_rfl) (by kernel_rfl) (by kernel_rfl) (fun _ h => nomatch h)
def ti93 : TI := { size := 1, bytes := 8, kind := .func, zero := [.nilFunc] }
theorem ok93 : TTok Tryz.prog 93 ti93 := ttok_mk Tryz.type93 (by kernel_rfl) (by kernel_rfl) (by kernel_rfl) (fun _ h => nomatch h)
def ti96 : TI := { size := 1, bytes := 16, kind := .iface, zero := [.nilIface] }
theorem ok96 : TTok Tryz.prog 96 ti96 := ttok_mk Tryz.type96 (by kernel_rfl) (by kernel_rfl) (by kernel_rfl) (fun _ h => nomatch h)
def ti99 : TI := { size := 1, bytes := 24, kind := .slice 3, zero := [.slice none 0 0] }
theorem ok99 : TTok Tryz.prog 99 ti99 := ttok_mk Tryz.type99 (by kernel_rfl) (by kernel_rfl) (by kernel_rfl) (fun _ h => nomatch h)
def ti101 : TI := { size := 1, bytes := 8, kind := .map 9 103, zero := [.map none] }
theorem ok101 : TTok Tryz.prog 101 ti101 := ttok_mk Tryz.type101 (by kernel_rfl) (by kernel_rfl) (by kernel_rfl) (fun _ h => nomatch h)
def ti103 : TI := { size := 2, bytes := 16, kind := .struct [(0, 3), (1, 3)], zero := [.int .i64 0, .int .i64 0] }
theorem ok103 : TTok Tryz.prog 103 ti103 := ttok_mk Tryz.type103 (by kernel_rfl) (by kernel_rfl) (by kernel_rfl) (fun _ h => nomatch h)
def ti110 : TI := { size := 2, bytes := 16, kind := .struct [(0, 4), (1, 81)], zero := [.bool false, .nilFunc] }
theorem ok110 : TTok Tryz.prog 110 ti110 := ttok_mk Tryz.type110 (by kernel_rfl) (by kernel_rfl) (by kernel_rfl) (fun _ h => nomatch h)
def ti114 : TI := { size := 1, bytes := 8, kind := .func, zero := [.nilFunc] }
theorem ok114 : TTok Tryz.prog 114 ti114 := ttok_mk Tryz.type114 (by kernel_rfl) (by kernel_rfl) (by kernel_rfl) (fun _ h => nomatch h)
def ti118 : TI := { size := 1, bytes := 8, kind := .func, zero := [.nilFunc] }
theorem ok118 : TTok Tryz.prog 118 ti118 := ttok_mk Tryz.type118 (by kernel_rfl) (by kernel_rfl) (by kernel_rfl) (fun _ h => nomatch h)
def ti126 : TI := { size := 1, bytes := 8, kind := .func, zero := [.nilFunc] }
theorem ok126 : TTok Tryz.prog 126 ti126 := ttok_mk Tryz.type126 (by kernel_rfl) (by kernel_rfl) (by kernel_rfl) (fun _ h => nomatch h)
def ti127 : TI := { size := 2, bytes := 32, kind := .arr 2 9, zero := [.string ⟨#[]⟩, .string ⟨#[]⟩] }
theorem ok127 : TTok Tryz.prog 127 ti127 := ttok_mk Tryz.type127 (by kernel_rfl) (by kernel_rfl) (by kernel_rfl) (fun _ h => nomatch h)
def ti136 : TI := { size := 1, bytes := 24, kind := .slice 167, zero := [.slice none 0 0] }
theorem ok136 : TTok Tryz.prog 136 ti136 := ttok_mk Tryz.type136 (by kernel_rfl) (by kernel_rfl) (by kernel_rfl) (fun _ h => nomatch h)
def ti138 : TI := { size := 1, bytes := 24, kind := .slice 5, zero := [.slice none 0 0] }
theorem ok138 : TTok Tryz.prog 138 ti138 := ttok_mk Tryz.type138 (by kernel_rfl) (by kernel_rfl) (by kernel_rfl) (fun _ h => nomatch h)
def ti148 : TI := { size := 1, bytes := 24, kind := .slice 127, zero := [.slice none 0 0] }
theorem ok148 : TTok Tryz.prog 148 ti148 := ttok_mk Tryz.type148 (by kernel_rfl) (by kernel_rfl) (by kernel_rfl) (fun _ h => nomatch h)
def ti167 : TI := { size := 1, bytes := 8, kind := .int .u64, zero := [.int .u64 0] }
theorem ok167 : TTok Tryz.prog 167 ti167 := ttok_mk Tryz.type167 (by kernel_rfl) (by kernel_rfl) (by kernel_rfl) (fun _ h => nomatch h)
def ti186 : TI := { size := 1, bytes := 8, kind := .func, zero := [.nilFunc] }
theorem ok186 : TTok Tryz.prog 186 ti186 := ttok_mk Tryz.type186 (by kernel_rfl) (by kernel_rfl) (by kernel_rfl) (fun _ h => nomatch h)
def ti194 : TI := { size := 1, bytes := 8, kind := .ptr 196, zero := [.pointer none] }
theorem ok194 : TTok Tryz.prog 194 ti194 := ttok_mk Tryz.type194 (by kernel_rfl) (by kernel_rfl) (by kernel_rfl) (fun _ h => nomatch h)
def ti196 : TI := { size := 2, bytes := 32, kind := .struct [(0, 194), (1, 138)], zero := [.pointer none, .slice none 0 0] }
theorem ok196 : TTok Tryz.prog 196 ti196 := ttok_mk Tryz.type196 (by kernel_rfl) (by kernel_rfl) (by kernel_rfl) (fun _ h => nomatch h)
def tt : TTab := fun t => match t with
 | 1 => some ti1
 | 2 => some ti2
 | 3 => some ti3
 | 4 => some ti4
 | 5 => some ti5
 | 9 => some ti9
 | 22 => some ti22
 | 23 => some ti23
 | 25 => some ti25
 | 26 => some ti26
 | 30 => some ti30
 | 36 => some ti36
 | 40 => some ti40
 | 42 => some ti42
 | 56 => some ti56
 | 58 => some ti58
 | 61 => some ti61
 | 63 => some ti63
 | 67 => some ti67
 | 68 => some ti68
 | 69 => some ti69
 | 72 => some ti72
 | 80 => some ti80
 | 81 => some ti81
 | 82 => some ti82
 | 84 => some ti84
 | 86 => some ti86
 | 89 => some ti89
 | 93 => some ti93
 | 96 => some ti96
 | 99 => some ti99
 | 101 => some ti101
 | 103 => some ti103
 | 110 => some ti110
 | 114 => some ti114
 | 118 => some ti118
 | 126 => some ti126
 | 127 => some ti127
 | 136 => some ti136
 | 138 => some ti138
 | 148 => some ti148
 | 167 => some ti167
 | 186 => some ti186
 | 194 => some ti194
 | 196 => some ti196
 | _ => none
theorem ttOk : TabOk Tryz.prog tt := by
 intro t ti h
 unfold tt at h
 split at h <;> first | (cases h; done) | (simp only [Option.some.injEq] at h; subst h)
 ·exact ok1
 ·exact ok2
 ·exact ok3
 ·exact ok4
 ·exact ok5
 ·exact ok9
 ·exact ok22
 ·exact ok23
 ·exact ok25
 ·exact ok26
 ·exact ok30
 ·exact ok36
 ·exact ok40
 ·exact ok42
 ·exact ok56
 ·exact ok58
 ·exact ok61
 ·exact ok63
 ·exact ok67
 ·exact ok68
 ·exact ok69
 ·exact ok72
 ·exact ok80
 ·exact ok81
 ·exact ok82
 ·exact ok84
 ·exact ok86
 ·exact ok89
 ·exact ok93
 ·exact ok96
 ·exact ok99
 ·exact ok101
 ·exact ok103
 ·exact ok110
 ·exact ok114
 ·exact ok118
 ·exact ok126
 ·exact ok127
 ·exact ok136
 ·exact ok138
 ·exact ok148
 ·exact ok167
 ·exact ok186
 ·exact ok194
 ·exact ok196
theorem tts : (tt 1 = some { size := 1, bytes := 8, kind := .func, zero := [.nilFunc], flat := none }) ∧ (tt 2 = some { size := 1, bytes := 8, kind := .int .i64, zero := [.int .i64 0], flat := none }) ∧ (tt 3 = some { size := 1, bytes := 8, kind := .int .i64, zero := [.int .i64 0], flat := none }) ∧ (tt 4 = some { size := 1, bytes := 1, kind := .bool, zero := [.bool false], flat := none }) ∧ (tt 5 = some { size := 1, bytes := 1, kind := .int .u8, zero := [.int .u8 0], flat := none }) ∧ (tt 9 = some { size := 1, bytes := 16, kind := .str, zero := [.string ⟨#[]⟩], flat := none }) ∧ (tt 22 = some { size := 1, bytes := 24, kind := .slice 9, zero := [.slice none 0 0], flat := none }) ∧ (tt 23 = some { size := 1, bytes := 24, kind := .slice 42, zero := [.slice none 0 0], flat := none }) ∧ (tt 25 = some { size := 3, bytes := 72, kind := .struct [(0, 22), (1, 23), (2, 23)], zero := [.slice none 0 0, .slice none 0 0, .slice none 0 0], flat := none }) ∧ (tt 26 = some { size := 1, bytes := 24, kind := .slice 36, zero := [.slice none 0 0], flat := none }) ∧ (tt 30 = some { size := 1, bytes := 8, kind := .int .i64, zero := [.int .i64 0], flat := none }) ∧ (tt 36 = some { size := 10, bytes := 136, kind := .struct [(0, 9), (1, 9), (2, 9), (3, 9), (4, 9), (5, 22), (6, 3), (7, 3), (8, 3), (9, 3)], zero := [.string ⟨#[]⟩, .string ⟨#[]⟩, .string ⟨#[]⟩, .string ⟨#[]⟩, .string ⟨#[]⟩, .slice none 0 0, .int .i64 0, .int .i64 0, .int .i64 0, .int .i64 0], flat := none }) ∧ (tt 40 = some { size := 3, bytes := 40, kind := .struct [(0, 4), (1, 9), (2, 9)], zero := [.bool false, .string ⟨#[]⟩, .string ⟨#[]⟩], flat := some [.bool, .str, .str] }) ∧ (tt 42 = some { size := 5, bytes := 56, kind := .struct [(0, 3), (1, 3), (2, 40)], zero := [.int .i64 0, .int .i64 0, .bool false, .string ⟨#[]⟩, .string ⟨#[]⟩], flat := some [.int .i64, .int .i64, .bool, .str, .str] }) ∧ (tt 56 = some { size := 1, bytes := 8, kind := .func, zero := [.nilFunc], flat := none }) ∧ (tt 58 = some { size := 1, bytes := 8, kind := .map 63 3, zero := [.map none], flat := none }) ∧ (tt 61 = some { size := 1, bytes := 8, kind := .func, zero := [.nilFunc], flat := none }) ∧ (tt 63 = some { size := 2, bytes := 16, kind := .struct [(0, 3), (1, 3)], zero := [.int .i64 0, .int .i64 0], flat := some [.int .i64, .int .i64] }) ∧ (tt 67 = some { size := 1, bytes := 8, kind := .func, zero := [.nilFunc], flat := none }) ∧ (tt 68 = some { size := 1, bytes := 8, kind := .map 3 3, zero := [.map none], flat := none }) ∧ (tt 69 = some { size := 1, bytes := 8, kind := .func, zero := [.nilFunc], flat := none }) ∧ (tt 72 = some { size := 1, bytes := 8, kind := .func, zero := [.nilFunc], flat := none }) ∧ (tt 80 = some { size := 1, bytes := 8, kind := .map 9 4, zero := [.map none], flat := none }) ∧ (tt 81 = some { size := 1, bytes := 8, kind := .func, zero := [.nilFunc], flat := none }) ∧ (tt 82 = some { size := 1, bytes := 24, kind := .slice 40, zero := [.slice none 0 0], flat := none }) ∧ (tt 84 = some { size := 1, bytes := 8, kind := .int .u64, zero := [.int .u64 0], flat := none }) ∧ (tt 86 = some { size := 1, bytes := 24, kind := .slice 63, zero := [.slice none 0 0], flat := none }) ∧ (tt 89 = some { size := 1, bytes := 8, kind := .func, zero := [.nilFunc], flat := none }) ∧ (tt 93 = some { size := 1, bytes := 8, kind := .func, zero := [.nilFunc], flat := none }) ∧ (tt 96 = some { size := 1, bytes := 16, kind := .iface, zero := [.nilIface], flat := none }) ∧ (tt 99 = some { size := 1, bytes := 24, kind := .slice 3, zero := [.slice none 0 0], flat := none }) ∧ (tt 101 = some { size := 1, bytes := 8, kind := .map 9 103, zero := [.map none], flat := none }) ∧ (tt 103 = some { size := 2, bytes := 16, kind := .struct [(0, 3), (1, 3)], zero := [.int .i64 0, .int .i64 0], flat := none }) ∧ (tt 110 = some { size := 2, bytes := 16, kind := .struct [(0, 4), (1, 81)], zero := [.bool false, .nilFunc], flat := none }) ∧ (tt 114 = some { size := 1, bytes := 8, kind := .func, zero := [.nilFunc], flat := none }) ∧ (tt 118 = some { size := 1, bytes := 8, kind := .func, zero := [.nilFunc], flat := none }) ∧ (tt 126 = some { size := 1, bytes := 8, kind := .func, zero := [.nilFunc], flat := none }) ∧ (tt 127 = some { size := 2, bytes := 32, kind := .arr 2 9, zero := [.string ⟨#[]⟩, .string ⟨#[]⟩], flat := none }) ∧ (tt 136 = some { size := 1, bytes := 24, kind := .slice 167, zero := [.slice none 0 0], flat := none }) ∧ (tt 138 = some { size := 1, bytes := 24, kind := .slice 5, zero := [.slice none 0 0], flat := none }) ∧ (tt 148 = some { size := 1, bytes := 24, kind := .slice 127, zero := [.slice none 0 0], flat := none }) ∧ (tt 167 = some { size := 1, bytes := 8, kind := .int .u64, zero := [.int .u64 0], flat := none }) ∧ (tt 186 = some { size := 1, bytes := 8, kind := .func, zero := [.nilFunc], flat := none }) ∧ (tt 194 = some { size := 1, bytes := 8, kind := .ptr 196, zero := [.pointer none], flat := none }) ∧ (tt 196 = some { size := 2, bytes := 32, kind := .struct [(0, 194), (1, 138)], zero := [.pointer none, .slice none 0 0], flat := none }) := ⟨rfl, rfl, rfl, rfl, rfl, rfl, rfl, rfl, rfl, rfl, rfl, rfl, rfl, rfl, rfl, rfl, rfl, rfl, rfl, rfl, rfl, rfl, rfl, rfl, rfl, rfl, rfl, rfl, rfl, rfl, rfl, rfl, rfl, rfl, rfl, rfl, rfl, rfl, rfl, rfl, rfl, rfl, rfl, rfl, rfl⟩
theorem mixed : Tryz.prog.follows .mixedOrders = true := by kernel_rfl
end Av
end Go.Proofs.YtdekcppfpgeneaaGreatDoor
set_option linter.unusedVariables false
set_option linter.unusedSimpArgs false
namespace Go.Proofs.YtdekcppfpgeneaaGreatDoor
open Go Go.RowKit
namespace Av
attribute [local irreducible] AW AOps AHOps
open Nt

/-! Numbers az slices of limbs; words that serve everywhere. -/
def iA (n : Int) : AV := .d (.v (.int .i64 n))
def bA (b : Bool) : AV := .d (.v (.bool b))
def nilS : AV := .d (.v (.slice none 0 0))
theorem wrap_succ {k : Nat} {n : Nat} (h : k < n) (hn : n ≤ 9223372036854775807) : IntKind.i64.wrap ((k : Int) + 1) = ((k + 1 : Nat) : Int) := by rw [IntKind.wrap_i64]; omega
theorem wrap_in {n : Int} (h1 : -9223372036854775808 ≤ n) (h2 : n ≤ 9223372036854775807) : IntKind.i64.wrap n = n := by rw [IntKind.wrap_i64]; omega
def numR (l : List Nat) : List (List PD) := l.map fun n : Nat => [PD.v (.int .u64 (n : Int))]
def numP (l : List Nat) : PD := .sl 1 (numR l)
theorem numR_len (l : List Nat) : (numR l).length = l.length := List.length_map _
theorem numR_get (l : List Nat) {i : Nat} (h : i < l.length) : (numR l).getD i [] = [.v (.int .u64 (l[i] : Int))] := by simp [numR, h]
theorem numR_take (l : List Nat) (k : Nat) : (numR l).take k = numR (l.take k) := by simp [numR, List.map_take]
theorem numD_get (l : List Nat) {i : Nat} (h : i < l.length) : (dI (numR l)).getD i [] = [.d (.v (.int .u64 (l[i] : Int)))] := by simp [numR, dI, dL, h]
theorem numD_set (l : List Nat) (i n : Nat) : (dI (numR l)).set i [.d (.v (.int .u64 (n : Int)))] = dI (numR (l.set i n)) := by simp [numR, dI, dL, List.map_set]
theorem numD_snoc (l : List Nat) (n : Nat) : dI (numR l) ++ [[.d (.v (.int .u64 (n : Int)))]] = dI (numR (l ++ [n])) := by simp [numR, dI, dL]
theorem take_snoc_last {l : List Nat} {k : Nat} (h : k < l.length) : l.take (k + 1) = l.take k ++ [l[k]] := by rw [List.take_add_one, List.getElem?_eq_getElem h]; rfl
theorem trim_a (base : World) (l : List Nat) (hl : l.length ≤ 9223372036854775807) : PureA Tryz.prog base 179 [.d (numP l)] (.d (numP (trimL l))) := by
 refine pure_enter ttOk Tryz.call179 Tryz.func179 rfl fun H hB hb hF => ?_
 rw [Tryz.results179, Tryz.ntmps179]
 simp only [arr_list, List.length_cons, List.length_nil, List.replicate, List.cons_append, List.nil_append, Nat.reduceAdd, Nat.reduceSub]
 clear hF hb hB
 repeat refine aw_seq ?_
 refine zr ttOk ?_
 repeat (refine aops_cons ?_; first | (apply aops_o; rfl; simp only [estep, avs, tts, seval] <;> exact rr) | (refine zg rfl ?_; first | refine grd_on ?_ | refine zo ?_))
 refine aops_nil ?_
 repeat refine aw_seq ?_
 refine aw_block (aw_loop (fun k env H' => k ≤ l.length ∧ H' = H ∧ trimL l = trimL (l.take k) ∧ env = .d (numP (l.take k)) :: List.replicate 20 .undef) ?_ ⟨Nat.le_refl _, rfl, by rw [List.take_length], rfl⟩ ?_)
 ·simp [Goes, EnvLe, List.replicate, numP]
 rintro k env H' ⟨hk, rfl, ht, rfl⟩ hN
 simp only [List.replicate, numP]
 have hnl : (numR (l.take k)).length = k := by rw [numR_len, List.length_take]; omega
 cases k with
 | zero =>
  repeat refine aw_seq ?_
  refine zr ttOk ?_
  repeat (refine aops_cons ?_; first | (apply aops_o; rfl; simp only [estep, avs, tts, seval, hnl] <;> exact rr) | (refine zg rfl ?_; first | refine grd_on ?_ | refine zo ?_))
  refine aops_nil ?_
  repeat refine aw_seq ?_
  refine aw_cond rfl rfl (fun hb => ?_) fun hb => ?_
  ·cases hb
  refine aw_exit ?_
  repeat refine aw_seq ?_
  refine zr ttOk ?_
  repeat (refine aops_cons ?_; first | (apply aops_o; rfl; simp only [estep, avs, tts, seval] <;> exact rr) | (refine zg rfl ?_; first | refine grd_on ?_ | refine zo ?_))
  refine aops_nil ?_
  exact aw_ret ⟨_, rfl, [], by simp, by rw [ht]; rfl⟩
 | succ k =>
  have e0 : decide (((k + 1 : Nat) : Int) > 0) = true := by simp
  have e1 : IntKind.i64.wrap (((k + 1 : Nat) : Int) - 1) = (k : Int) := by rw [IntKind.wrap_i64]; omega
  have hlt : k < (l.take (k + 1)).length := by rw [List.length_take]; omega
  have hg := numR_get (l.take (k + 1)) hlt
  have hx : (l.take (k + 1))[k] = l[k] := by simp
  rw [hx] at hg
  have hix : (0 : Int) ≤ (k : Int) := by omega
  have hkk : k < k + 1 := by omega
  have hks : k ≤ k + 1 := by omega
  by_cases hz : l[k] = 0
  ·have e2 : decide (((l[k] : Nat) : Int) = 0) = true := by simp [hz]
   repeat refine aw_seq ?_
   refine zr ttOk ?_
   repeat (refine aops_cons ?_; first | (apply aops_o; rfl; simp only [estep, avs, tts, seval, hnl, e0, e1, hg, hix, hkk, e2] <;> exact rr) | (refine zg rfl ?_; first | refine grd_on ?_ | refine zo ?_))
   refine aops_nil ?_
   repeat refine aw_seq ?_
   refine aw_cond rfl rfl (fun hb => ?_) fun hb => ?_
   rotate_left
   ·cases hb
   refine aw_skip ?_
   repeat refine aw_seq ?_
   refine aw_block ?_
   repeat refine aw_seq ?_
   refine zr ttOk ?_
   repeat (refine aops_cons ?_; first | (apply aops_o; rfl; simp only [estep, avs, tts, seval, hnl, e1, hix, hks, Nat.zero_le, Nat.sub_zero] <;> exact rr) | (refine zg rfl ?_; first | refine grd_on ?_ | refine zo ?_))
   refine aops_nil ?_
   refine ⟨k, _, _, by omega, ⟨?_, .inl rfl⟩, by omega, rfl, ?_, rfl⟩
   ·simp [EnvLe, List.replicate, numP, numR_take]
    rw [List.take_take, Nat.min_eq_left (by omega)]
   ·rw [ht, take_snoc_last (by omega : k < l.length), hz, trim_snoc0]
  ·have e2 : decide (((l[k] : Nat) : Int) = 0) = false := by simp [hz]
   repeat refine aw_seq ?_
   refine zr ttOk ?_
   repeat (refine aops_cons ?_; first | (apply aops_o; rfl; simp only [estep, avs, tts, seval, hnl, e0, e1, hg, hix, hkk, e2] <;> exact rr) | (refine zg rfl ?_; first | refine grd_on ?_ | refine zo ?_))
   refine aops_nil ?_
   repeat refine aw_seq ?_
   refine aw_cond rfl rfl (fun hb => ?_) fun hb => ?_
   ·cases hb
   refine aw_exit ?_
   repeat refine aw_seq ?_
   refine zr ttOk ?_
   repeat (refine aops_cons ?_; first | (apply aops_o; rfl; simp only [estep, avs, tts, seval] <;> exact rr) | (refine zg rfl ?_; first | refine grd_on ?_ | refine zo ?_))
   refine aops_nil ?_
   exact aw_ret ⟨_, rfl, [], by simp, by rw [ht, take_snoc_last (by omega : k < l.length), trim_snoc hz]; rfl⟩
end Av
end Go.Proofs.YtdekcppfpgeneaaGreatDoor
set_option linter.unusedVariables false
namespace Go.Proofs.YtdekcppfpgeneaaGreatDoor
open Go
namespace Nt

/-! Sums, differences, products, limb by limb. -/
theorem getD_take {l : List Nat} {k : Nat} (h : k < l.length) : l.take (k + 1) = l.take k ++ [l.getD k 0] := by
 rw [List.take_add_one, List.getElem?_eq_getElem h]
 simp [List.getD, h]
theorem valL_take_succ (l : List Nat) (k : Nat) : valL (l.take (k + 1)) = valL (l.take k) + B9 ^ k * l.getD k 0 := by
 by_cases h : k < l.length
 ·rw [getD_take h, valL_append, List.length_take, Nat.min_eq_left (by omega)]
  simp [valL]
 ·have h1 : l.getD k 0 = 0 := by simp [List.getD, Nat.le_of_not_lt h]
  rw [h1, List.take_of_length_le (by omega), List.take_of_length_le (by omega)]; simp
theorem getD_lt {l : List Nat} (h : LimbsOk l) (k : Nat) : l.getD k 0 < B9 := by
 by_cases hk : k < l.length
 ·rw [show l.getD k 0 = l[k] by simp [List.getD, hk]]; exact h _ (List.getElem_mem hk)
 ·rw [show l.getD k 0 = 0 by simp [List.getD, Nat.le_of_not_lt hk]]; decide
/-- the sum's limbs, the carry -/
def addS (n m : List Nat) : Nat → List Nat × Nat
 | 0 => ([], 0)
 | k + 1 => let s := n.getD k 0 + (addS n m k).2 + m.getD k 0
  ((addS n m k).1 ++ [s % B9], s / B9)
theorem addS_len (n m : List Nat) (k : Nat) : (addS n m k).1.length = k := by
 induction k with
 | zero => rfl
 | succ k ih => simp only [addS, List.length_append, List.length_singleton, ih]
theorem addS_c {n m : List Nat} (hn : LimbsOk n) (hm : LimbsOk m) (k : Nat) : (addS n m k).2 ≤ 1 := by
 induction k with
 | zero => exact Nat.zero_le _
 | succ k ih =>
  simp only [addS]
  have h1 := getD_lt hn k
  have h2 := getD_lt hm k
  have : (n.getD k 0 + (addS n m k).2 + m.getD k 0) / B9 < 2 := Nat.div_lt_of_lt_mul (by omega)
  omega
theorem addS_ok {n m : List Nat} (k : Nat) : LimbsOk (addS n m k).1 := by
 induction k with
 | zero => intro x hx; simp [addS] at hx
 | succ k ih =>
  intro x hx
  simp only [addS, List.mem_append, List.mem_singleton] at hx
  rcases hx with hx | rfl
  ·exact ih x hx
  ·exact Nat.mod_lt _ (by decide)
theorem addS_val (n m : List Nat) (k : Nat) : valL (addS n m k).1 + B9 ^ k * (addS n m k).2 = valL (n.take k) + valL (m.take k) := by
 induction k with
 | zero => simp [addS, valL]
 | succ k ih =>
  rw [valL_take_succ, valL_take_succ]
  simp only [addS]
  rw [valL_append, addS_len]
  simp only [valL, Nat.mul_zero, Nat.add_zero]
  generalize n.getD k 0 = a at *
  generalize m.getD k 0 = b at *
  generalize (addS n m k).2 = c at *
  have h1 := Nat.mod_add_div (a + c + b) B9
  have h2 : B9 ^ k * ((a + c + b) % B9) + B9 ^ (k + 1) * ((a + c + b) / B9) = B9 ^ k * (a + c + b) := by
   rw [Nat.pow_succ, Nat.mul_assoc, ← Nat.mul_add, h1]
  rw [Nat.mul_add, Nat.mul_add] at h2
  omega
theorem add_val {n m : List Nat} (hn : LimbsOk n) (hm : LimbsOk m) (hl : m.length ≤ n.length) : trimL ((addS n m n.length).1 ++ [(addS n m n.length).2]) = limbs (valL n + valL m) := by
 have h1 : LimbsOk ((addS n m n.length).1 ++ [(addS n m n.length).2]) := by
  intro x hx
  rcases List.mem_append.1 hx with hx | hx
  ·exact addS_ok _ x hx
  ·simp only [List.mem_singleton] at hx
   have := addS_c hn hm n.length
   subst hx; show _ < 1000000000; omega
 rw [trim_limbs h1, valL_append, addS_len]
 have := addS_val n m n.length
 rw [List.take_length, List.take_of_length_le hl] at this
 simp only [valL, Nat.mul_zero, Nat.add_zero]
 rw [this]
/-- the difference's limbs, what is borrowed -/
def subS (n m : List Nat) : Nat → List Nat × Nat
 | 0 => ([], 0)
 | k + 1 => let t := (subS n m k).2 + m.getD k 0
  if n.getD k 0 < t then ((subS n m k).1 ++ [n.getD k 0 + B9 - t], 1) else ((subS n m k).1 ++ [n.getD k 0 - t], 0)
theorem subS_len (n m : List Nat) (k : Nat) : (subS n m k).1.length = k := by
 induction k with
 | zero => rfl
 | succ k ih => simp only [subS]; split <;> simp [ih]
theorem subS_b (n m : List Nat) (k : Nat) : (subS n m k).2 ≤ 1 := by
 cases k with
 | zero => exact Nat.zero_le _
 | succ k => simp only [subS]; split <;> simp
theorem subS_ok {n m : List Nat} (hn : LimbsOk n) (hm : LimbsOk m) (k : Nat) : LimbsOk (subS n m k).1 := by
 induction k with
 | zero => intro x hx; simp [subS] at hx
 | succ k ih =>
  have h1 := getD_lt hn k
  have h2 := getD_lt hm k
  have h3 := subS_b n m k
  intro x hx
  simp only [subS] at hx
  split at hx
  ·simp only [List.mem_append, List.mem_singleton] at hx
   rcases hx with hx | rfl
   ·exact ih x hx
   ·omega
  ·simp only [List.mem_append, List.mem_singleton] at hx
   rcases hx with hx | rfl
   ·exact ih x hx
   ·omega
theorem sub_key (P a b c B : Nat) (h : c + b ≤ a + B) : P * (a + B - (c + b)) + (P * c + P * b) = P * a + P * B := by
 rw [← Nat.mul_add, ← Nat.mul_add, Nat.sub_add_cancel h, Nat.mul_add]
theorem sub_step1 {P a b c B x y z : Nat} (ih : x + y = z + P * c) (h : c + b ≤ a + B) : x + P * (a + B - (c + b)) + (y + P * b) = z + P * a + P * B * 1 := by
 have := sub_key P a b c B h
 rw [Nat.mul_one]
 generalize P * (a + B - (c + b)) = u at *
 generalize P * B = v at *
 generalize P * c = w at *
 omega
theorem sub_step2 {P a b c x y z : Nat} (ih : x + y = z + P * c) (h : c + b ≤ a) : x + P * (a - (c + b)) + (y + P * b) = z + P * a := by
 have := sub_key P a b c 0 (by omega)
 simp only [Nat.add_zero, Nat.mul_zero] at this
 generalize P * (a - (c + b)) = u at *
 generalize P * c = w at *
 omega
theorem subS_succ (n m : List Nat) (k : Nat) : subS n m (k + 1) = if n.getD k 0 < (subS n m k).2 + m.getD k 0 then ((subS n m k).1 ++ [n.getD k 0 + B9 - ((subS n m k).2 + m.getD k 0)], 1) else ((subS n m k).1 ++ [n.getD k 0 - ((subS n m k).2 + m.getD k 0)], 0) := rfl
theorem valL_snoc (l : List Nat) (x : Nat) : valL (l ++ [x]) = valL l + B9 ^ l.length * x := by rw [valL_append]; rfl
theorem subS_val {n m : List Nat} (hn : LimbsOk n) (hm : LimbsOk m) (k : Nat) : valL (subS n m k).1 + valL (m.take k) = valL (n.take k) + B9 ^ k * (subS n m k).2 := by
 induction k with
 | zero => rfl
 | succ k ih =>
  have h2 := getD_lt hm k
  have h3 := subS_b n m k
  rw [valL_take_succ, valL_take_succ, subS_succ]
  by_cases hlt : n.getD k 0 < (subS n m k).2 + m.getD k 0
  ·rw [if_pos hlt]
   have hb : (subS n m k).2 + m.getD k 0 ≤ n.getD k 0 + B9 := by omega
   show valL ((subS n m k).1 ++ [_]) + _ = _ + B9 ^ (k + 1) * 1
   rw [valL_snoc, subS_len, Nat.pow_succ]
   exact sub_step1 ih hb
  ·rw [if_neg hlt]
   show valL ((subS n m k).1 ++ [_]) + _ = _ + B9 ^ (k + 1) * 0
   rw [valL_snoc, subS_len, Nat.mul_zero, Nat.add_zero]
   exact sub_step2 ih (by omega)
theorem sub_val {n m : List Nat} (hn : LimbsOk n) (hm : LimbsOk m) (hl : m.length ≤ n.length) (hv : valL m ≤ valL n) : trimL (subS n m n.length).1 = limbs (valL n - valL m) := by
 rw [trim_limbs (subS_ok hn hm _)]
 have h1 := subS_val hn hm n.length
 rw [List.take_length, List.take_of_length_le hl] at h1
 have h2 := valL_lt (subS_ok hn hm n.length)
 rw [subS_len] at h2
 have h3 := subS_b n m n.length
 have h4 : (subS n m n.length).2 = 0 := by
  rcases Nat.lt_or_ge (subS n m n.length).2 1 with h | h
  ·omega
  ·have h5 : (subS n m n.length).2 = 1 := by omega
   rw [h5, Nat.mul_one] at h1
   omega
 rw [h4] at h1
 simp only [Nat.mul_zero, Nat.add_zero] at h1
 congr 1
 omega
theorem valL_set {l : List Nat} {k : Nat} (h : k < l.length) (x : Nat) : valL (l.set k x) + B9 ^ k * l.getD k 0 = valL l + B9 ^ k * x := by
 induction l generalizing k with
 | nil => cases h
 | cons a r ih =>
  cases k with
  | zero => simp [valL]; omega
  | succ k =>
   have h1 := ih (k := k) (by simpa using h)
   simp only [List.set_cons_succ, valL, List.getD_cons_succ, Nat.pow_succ]
   have h2 : B9 * valL (r.set k x) + B9 * (B9 ^ k * r.getD k 0) = B9 * valL r + B9 * (B9 ^ k * x) := by rw [← Nat.mul_add, h1, Nat.mul_add]
   rw [Nat.mul_comm (B9 ^ k) B9, Nat.mul_assoc, Nat.mul_assoc]
   omega
theorem valL_zero (k : Nat) : valL (List.replicate k 0) = 0 := by
 induction k with
 | zero => rfl
 | succ k ih => simp [List.replicate_succ, valL, ih]
/-- one number is less, the same, or greater -/
def cmpN (a b : Nat) : Int := if a < b then -1 else if b < a then 1 else 0
theorem can_len_lt {l m : List Nat} (hl : Can l) (hm : Can m) (h : l.length < m.length) : valL l < valL m := by
 have h1 := valL_lt hl.1
 have h2 : valL m ≠ 0 := fun e => by
  have := can_limbs hm
  rw [e, limbs_zero] at this
  rw [this] at h; cases h
 have h3 := limbs_len_gt h2
 rw [← can_limbs hm] at h3
 exact Nat.lt_of_lt_of_le h1 (Nat.le_trans (Nat.pow_le_pow_right (by decide) (by omega)) h3)
theorem valL_split (l : List Nat) (k : Nat) : valL l = valL (l.take k) + B9 ^ (l.take k).length * valL (l.drop k) := by
 rw [← valL_append, List.take_append_drop]
theorem cmp_at {l m : List Nat} (hl : LimbsOk l) (hm : LimbsOk m) (he : l.length = m.length) {i : Nat} (hi : i < l.length) (hd : l.drop (i + 1) = m.drop (i + 1)) (hlt : l.getD i 0 < m.getD i 0) : valL l < valL m := by
 rw [valL_split l (i + 1), valL_split m (i + 1), hd, valL_take_succ, valL_take_succ, List.length_take, List.length_take, Nat.min_eq_left (by omega), Nat.min_eq_left (by omega)]
 have h1 := valL_lt (l := l.take i) fun x hx => hl x (List.mem_of_mem_take hx)
 rw [List.length_take, Nat.min_eq_left (by omega)] at h1
 have h2 : B9 ^ i * (l.getD i 0 + 1) ≤ B9 ^ i * m.getD i 0 := Nat.mul_le_mul_left _ hlt
 rw [Nat.mul_add] at h2
 omega
theorem drop_step {l m : List Nat} (he : l.length = m.length) {i : Nat} (hi : i < l.length) (hd : l.drop (i + 1) = m.drop (i + 1)) (hx : l.getD i 0 = m.getD i 0) : l.drop i = m.drop i := by
 have hm : i < m.length := by omega
 rw [List.drop_eq_getElem_cons hi, List.drop_eq_getElem_cons hm, hd]
 have h1 : l.getD i 0 = l[i] := by simp [List.getD, hi]
 have h2 : m.getD i 0 = m[i] := by simp [List.getD, hm]
 rw [← h1, ← h2, hx]
end Nt
end Go.Proofs.YtdekcppfpgeneaaGreatDoor
set_option linter.unusedVariables false
set_option linter.unusedSimpArgs false
namespace Go.Proofs.YtdekcppfpgeneaaGreatDoor
open Go Go.RowKit
namespace Av
--nosv
attribute [local irreducible] AW AOps AHOps
open Nt

/-! Sums and differences of numbers. -/
theorem wrapU {n : Nat} (h : n < 18446744073709551616) : IntKind.u64.wrap (n : Int) = (n : Int) := by rw [IntKind.wrap_u64]; omega
theorem u_add {a b : Nat} (h : a + b < 18446744073709551616) : IntKind.u64.wrap ((a : Int) + (b : Int)) = ((a + b : Nat) : Int) := by rw [← Int.natCast_add]; exact wrapU h
theorem u_sub {a b : Nat} (h : b ≤ a) (h2 : a < 18446744073709551616) : IntKind.u64.wrap ((a : Int) - (b : Int)) = ((a - b : Nat) : Int) := by rw [← Int.ofNat_sub h]; exact wrapU (by omega)
theorem u_mul {a b : Nat} (h : a * b < 18446744073709551616) : IntKind.u64.wrap ((a : Int) * (b : Int)) = ((a * b : Nat) : Int) := by rw [← Int.natCast_mul]; exact wrapU h
theorem u_mod (a : Nat) : ((a : Int)).tmod 1000000000 = ((a % B9 : Nat) : Int) := rfl
theorem u_div {a : Nat} (h : a < 18446744073709551616) : IntKind.u64.wrap (((a : Int)).tdiv 1000000000) = ((a / B9 : Nat) : Int) := by
 show IntKind.u64.wrap ((a / B9 : Nat) : Int) = _
 exact wrapU (Nat.lt_of_le_of_lt (Nat.div_le_self _ _) h)
theorem b9_ne : ((1000000000 : Int) = 0) = False := by simp
theorem getD_at {l : List Nat} {k : Nat} (h : k < l.length) : l[k] = l.getD k 0 := by simp [List.getD, h]
set_option maxRecDepth 100000 in
set_option maxHeartbeats 4000000 in
theorem add_a (base : World) (n m : List Nat) (hn : LimbsOk n) (hm : LimbsOk m) (hbn : n.length ≤ 1000000) (hbm : m.length ≤ 1000000) : PureA Tryz.prog base 142 [.d (numP n), .d (numP m)] (.d (numP (limbs (valL n + valL m)))) := by
 refine pure_enter ttOk Tryz.call142 Tryz.func142 rfl fun H hB hb hF => ?_
 rw [Tryz.results142, Tryz.ntmps142]
 simp only [arr_list, List.length_cons, List.length_nil, List.replicate, List.cons_append, List.nil_append, Nat.reduceAdd, Nat.reduceSub]
 clear hF hb
 have hnl := numR_len n
 have hml := numR_len m
 repeat refine aw_seq ?_
 refine zr ttOk ?_
 repeat (refine aops_cons ?_; first | (apply aops_o; rfl; simp only [estep, avs, tts, Nat.reduceAdd, Nat.reduceMul, Nat.reduceSub, Nat.reduceEqDiff, Nat.reduceLT, Nat.reduceLeDiff, Int.reduceToNat, Int.reduceLE, Int.reduceLT, Int.toNat_natCast, reduceCtorEq] <;> exact rr) | (refine zg rfl ?_; first | refine grd_on ?_ | refine zo ?_))
 refine aops_nil ?_
 repeat refine aw_seq ?_
 refine zr ttOk ?_
 repeat (refine aops_cons ?_; first | (apply aops_o; rfl; simp only [estep, avs, tts, Nat.reduceAdd, Nat.reduceMul, Nat.reduceSub, Nat.reduceEqDiff, Nat.reduceLT, Nat.reduceLeDiff, Int.reduceToNat, Int.reduceLE, Int.reduceLT, Int.toNat_natCast, reduceCtorEq, numP, hnl, hml] <;> exact rr) | (refine zg rfl ?_; first | refine grd_on ?_ | refine zo ?_))
 refine aops_nil ?_
 -- the longer one first
 repeat refine aw_seq ?_
 refine aw_mid2 (Q0 := fun env K => K = H ∧ ∃ p q, LimbsOk p ∧ LimbsOk q ∧ p.length ≤ 1000000 ∧ q.length ≤ p.length ∧ valL p + valL q = valL n + valL m ∧ env = .d (numP p) :: .d (numP q) :: List.replicate 51 .undef) ?_ ?_
 ·repeat refine aw_seq ?_
  refine aw_cond rfl rfl (fun hb => ?_) fun hb => ?_
  ·have hlt : n.length < m.length := by simpa using hb
   repeat refine aw_seq ?_
   refine zr ttOk ?_
   repeat (refine aops_cons ?_; first | (apply aops_o; rfl; simp only [estep, avs, tts, Nat.reduceAdd, Nat.reduceMul, Nat.reduceSub, Nat.reduceEqDiff, Nat.reduceLT, Nat.reduceLeDiff, Int.reduceToNat, Int.reduceLE, Int.reduceLT, Int.toNat_natCast, reduceCtorEq] <;> exact rr) | (refine zg rfl ?_; first | refine grd_on ?_ | refine zo ?_))
   refine aops_nil ?_
   exact ⟨rfl, _, _, ⟨by simp [EnvLe, List.replicate, numP], .inl rfl⟩, rfl, m, n, hm, hn, hbm, by omega, Nat.add_comm _ _, rfl⟩
  ·have hlt : ¬ n.length < m.length := by simpa using hb
   exact aw_skip ⟨rfl, _, _, ⟨by simp [EnvLe, List.replicate, numP], .inl rfl⟩, rfl, n, m, hn, hm, hbn, by omega, rfl, rfl⟩
 rintro env K ⟨rfl, p, q, hp, hq, hbp, hpq, hv, rfl⟩
 rw [← hv]
 clear hn hm hbn hbm hnl hml hv
 simp only [List.replicate, numP]
 have hnl := numR_len p
 have hml := numR_len q
 have c1 : (0 : Int) ≤ ((p.length + 1 : Nat) : Int) := by omega
 have c2 : ((p.length + 1 : Nat) : Int) ≤ 9223372036854775807 := by omega
 have c3 : ((8 : Nat) : Int) * ((p.length + 1 : Nat) : Int) ≤ 281474976710656 := by omega
 have w1 : IntKind.i64.wrap ((p.length : Int) + 1) = ((p.length + 1 : Nat) : Int) := by rw [IntKind.wrap_i64]; omega
 repeat refine aw_seq ?_
 refine zr ttOk ?_
 repeat (refine aops_cons ?_; first | (apply aops_o; rfl; simp only [estep, avs, tts, Nat.reduceAdd, Nat.reduceMul, Nat.reduceSub, Nat.reduceEqDiff, Nat.reduceLT, Nat.reduceLeDiff, Int.reduceToNat, Int.reduceLE, Int.reduceLT, Int.toNat_natCast, reduceCtorEq, hnl, w1, c1, c2, c3, Int.le_refl] <;> exact rr) | (refine zg rfl ?_; first | refine grd_on ?_ | refine zo ?_))
 refine aops_nil ?_
 repeat refine aw_seq ?_
 refine zr ttOk ?_
 repeat (refine aops_cons ?_; first | (apply aops_o; rfl; simp only [estep, avs, tts, Nat.reduceAdd, Nat.reduceMul, Nat.reduceSub, Nat.reduceEqDiff, Nat.reduceLT, Nat.reduceLeDiff, Int.reduceToNat, Int.reduceLE, Int.reduceLT, Int.toNat_natCast, reduceCtorEq] <;> exact rr) | (refine zg rfl ?_; first | refine grd_on ?_ | refine zo ?_))
 refine aops_nil ?_
 repeat refine aw_seq ?_
 refine zr ttOk ?_
 repeat (refine aops_cons ?_; first | (apply aops_o; rfl; simp only [estep, avs, tts, Nat.reduceAdd, Nat.reduceMul, Nat.reduceSub, Nat.reduceEqDiff, Nat.reduceLT, Nat.reduceLeDiff, Int.reduceToNat, Int.reduceLE, Int.reduceLT, Int.toNat_natCast, reduceCtorEq, hnl] <;> exact rr) | (refine zg rfl ?_; first | refine grd_on ?_ | refine zo ?_))
 refine aops_nil ?_
 refine aw_block (aw_loop (H0 := K ++ [.row 167 1 0 (dI (numR []))]) (fun r env K' => ∃ k, r = p.length - k ∧ k ≤ p.length ∧ K' = K ++ [.row 167 1 0 (dI (numR (addS p q k).1))] ∧ env = .d (numP p) :: .d (numP q) :: .undef :: .undef :: .undef :: .ms K.length 0 k :: .d (.v (.int .u64 ((addS p q k).2 : Int))) :: List.replicate 13 .undef ++ .d (numP p) :: iA p.length :: iA k :: List.replicate 30 .undef) ?_ ⟨0, rfl, Nat.zero_le _, rfl, rfl⟩ ?_)
 ·exact ⟨by simp [EnvLe, List.replicate, numP, iA, addS], .inl rfl⟩
 rintro r env K' ⟨k, rfl, hk, rfl, rfl⟩ hN
 simp only [List.replicate, numP, iA, List.cons_append, List.nil_append]
 repeat refine aw_seq ?_
 refine zr ttOk ?_
 repeat (refine aops_cons ?_; first | (apply aops_o; rfl; simp only [estep, avs, tts, Nat.reduceAdd, Nat.reduceMul, Nat.reduceSub, Nat.reduceEqDiff, Nat.reduceLT, Nat.reduceLeDiff, Int.reduceToNat, Int.reduceLE, Int.reduceLT, Int.toNat_natCast, reduceCtorEq] <;> exact rr) | (refine zg rfl ?_; first | refine grd_on ?_ | refine zo ?_))
 refine aops_nil ?_
 repeat refine aw_seq ?_
 refine aw_cond rfl rfl (fun hb => ?_) fun hb => ?_
 ·have hlt : k < p.length := by simpa using hb
  have hix : (0 : Int) ≤ (k : Int) := by omega
  have g1 := numR_get p hlt
  rw [getD_at hlt] at g1
  have b1 : p.getD k 0 < 1000000000 := getD_lt hp k
  have b2 : q.getD k 0 < 1000000000 := getD_lt hq k
  have b3 := addS_c hp hq k
  have hol : (dI (numR (addS p q k).1)).length = k := by rw [dI_len, numR_len, addS_len]
  have d1 : k + 1 ≤ 9223372036854775807 := by omega
  have d2 : (k + 1) * 8 ≤ 140737488355328 := by omega
  have s1 := u_add (a := p.getD k 0) (b := (addS p q k).2) (by omega)
  refine aw_skip ?_
  repeat refine aw_seq ?_
  refine aw_block ?_
  repeat refine aw_seq ?_
  refine zr ttOk ?_
  repeat (refine aops_cons ?_; first | (apply aops_o; rfl; simp only [estep, avs, tts, Nat.reduceAdd, Nat.reduceMul, Nat.reduceSub, Nat.reduceEqDiff, Nat.reduceLT, Nat.reduceLeDiff, Int.reduceToNat, Int.reduceLE, Int.reduceLT, Int.toNat_natCast, reduceCtorEq, hnl, hix, hlt, g1] <;> exact rr) | (refine zg rfl ?_; first | refine grd_on ?_ | refine zo ?_))
  refine aops_nil ?_
  repeat refine aw_seq ?_
  refine zr ttOk ?_
  repeat (refine aops_cons ?_; first | (apply aops_o; rfl; simp only [estep, avs, tts, Nat.reduceAdd, Nat.reduceMul, Nat.reduceSub, Nat.reduceEqDiff, Nat.reduceLT, Nat.reduceLeDiff, Int.reduceToNat, Int.reduceLE, Int.reduceLT, Int.toNat_natCast, reduceCtorEq, s1] <;> exact rr) | (refine zg rfl ?_; first | refine grd_on ?_ | refine zo ?_))
  refine aops_nil ?_
  repeat refine aw_seq ?_
  refine zr ttOk ?_
  repeat (refine aops_cons ?_; first | (apply aops_o; rfl; simp only [estep, avs, tts, Nat.reduceAdd, Nat.reduceMul, Nat.reduceSub, Nat.reduceEqDiff, Nat.reduceLT, Nat.reduceLeDiff, Int.reduceToNat, Int.reduceLE, Int.reduceLT, Int.toNat_natCast, reduceCtorEq, hml] <;> exact rr) | (refine zg rfl ?_; first | refine grd_on ?_ | refine zo ?_))
  refine aops_nil ?_
  repeat refine aw_seq ?_
  refine aw_mid2 (Q0 := fun env K' => K' = K ++ [.row 167 1 0 (dI (numR (addS p q k).1))] ∧ env = .d (numP p) :: .d (numP q) :: .undef :: .undef :: .undef :: .ms K.length 0 k :: .undef :: iA k :: .d (.v (.int .u64 ((p.getD k 0 + (addS p q k).2 + q.getD k 0 : Nat) : Int))) :: List.replicate 11 .undef ++ .d (numP p) :: iA p.length :: iA k :: List.replicate 30 .undef) ?_ ?_
  ·repeat refine aw_seq ?_
   refine aw_cond rfl rfl (fun hb => ?_) fun hb => ?_
   ·have hlq : k < q.length := by simpa using hb
    have g2 := numR_get q hlq
    rw [getD_at hlq] at g2
    have s2 := u_add (a := p.getD k 0 + (addS p q k).2) (b := q.getD k 0) (by omega)
    repeat refine aw_seq ?_
    refine zr ttOk ?_
    repeat (refine aops_cons ?_; first | (apply aops_o; rfl; simp only [estep, avs, tts, Nat.reduceAdd, Nat.reduceMul, Nat.reduceSub, Nat.reduceEqDiff, Nat.reduceLT, Nat.reduceLeDiff, Int.reduceToNat, Int.reduceLE, Int.reduceLT, Int.toNat_natCast, reduceCtorEq, hml, hix, hlq, g2, s2] <;> exact rr) | (refine zg rfl ?_; first | refine grd_on ?_ | refine zo ?_))
    refine aops_nil ?_
    exact ⟨rfl, _, _, ⟨by simp [EnvLe, List.replicate, numP, iA], .inl rfl⟩, rfl, rfl⟩
   ·have hlq : ¬ k < q.length := by simpa using hb
    have g2 : q.getD k 0 = 0 := by simp [List.getD, Nat.le_of_not_lt hlq]
    refine aw_skip ⟨rfl, _, _, ⟨?_, .inl rfl⟩, rfl, rfl⟩
    rw [g2]
    simp [EnvLe, List.replicate, numP, iA]
  rintro env K' ⟨rfl, rfl⟩
  simp only [List.replicate, numP, iA, List.cons_append, List.nil_append]
  have hsx : addS p q (k + 1) = ((addS p q k).1 ++ [(p.getD k 0 + (addS p q k).2 + q.getD k 0) % B9], (p.getD k 0 + (addS p q k).2 + q.getD k 0) / B9) := rfl
  have b4 : p.getD k 0 + (addS p q k).2 + q.getD k 0 < 18446744073709551616 := by omega
  generalize p.getD k 0 + (addS p q k).2 + q.getD k 0 = t at *
  repeat refine aw_seq ?_
  refine zr ttOk ?_
  repeat (refine aops_cons ?_; first | (apply aops_o; rfl; simp only [estep, avs, tts, Nat.reduceAdd, Nat.reduceMul, Nat.reduceSub, Nat.reduceEqDiff, Nat.reduceLT, Nat.reduceLeDiff, Int.reduceToNat, Int.reduceLE, Int.reduceLT, Int.toNat_natCast, reduceCtorEq, u_mod, b9_ne, hol, d1, d2] <;> exact rr) | (refine zg rfl ?_; first | refine grd_on ?_ | refine zo ?_))
  refine aops_nil ?_
  repeat refine aw_seq ?_
  refine zr ttOk ?_
  repeat (refine aops_cons ?_; first | (apply aops_o; rfl; simp only [estep, avs, tts, Nat.reduceAdd, Nat.reduceMul, Nat.reduceSub, Nat.reduceEqDiff, Nat.reduceLT, Nat.reduceLeDiff, Int.reduceToNat, Int.reduceLE, Int.reduceLT, Int.toNat_natCast, reduceCtorEq, u_div b4, b9_ne] <;> exact rr) | (refine zg rfl ?_; first | refine grd_on ?_ | refine zo ?_))
  refine aops_nil ?_
  repeat refine aw_seq ?_
  refine zr ttOk ?_
  repeat (refine aops_cons ?_; first | (apply aops_o; rfl; simp only [estep, avs, tts, Nat.reduceAdd, Nat.reduceMul, Nat.reduceSub, Nat.reduceEqDiff, Nat.reduceLT, Nat.reduceLeDiff, Int.reduceToNat, Int.reduceLE, Int.reduceLT, Int.toNat_natCast, reduceCtorEq, wrap_succ hlt (by omega : p.length ≤ 9223372036854775807)] <;> exact rr) | (refine zg rfl ?_; first | refine grd_on ?_ | refine zo ?_))
  refine aops_nil ?_
  refine ⟨p.length - (k + 1), _, _, by omega, ⟨?_, .inr ⟨by simp, ?_, .more hB (.cons (bel_dI _) .nil), ?_⟩⟩, k + 1, rfl, hlt, rfl, rfl⟩
  ·rw [hsx]; simp [EnvLe, List.replicate, numP, iA]
  ·simp [belL, AV.bel, List.replicate, iA, numP]
  ·rw [hsx, ← numD_snoc]
   exact ⟨_, by simp only [List.append_assoc, List.cons_append, List.nil_append]; rfl⟩
 ·refine aw_exit ?_
  have hkl : k = p.length := by simp at hb; omega
  subst hkl
  have hol : (dI (numR (addS p q p.length).1)).length = p.length := by rw [dI_len, numR_len, addS_len]
  have d1 : p.length + 1 ≤ 9223372036854775807 := by omega
  have d2 : (p.length + 1) * 8 ≤ 140737488355328 := by omega
  have ct := trim_a base ((addS p q p.length).1 ++ [(addS p q p.length).2]) (by rw [List.length_append, addS_len]; simp; omega)
  rw [add_val hp hq hpq] at ct
  repeat refine aw_seq ?_
  refine zr ttOk ?_
  repeat (refine aops_cons ?_; first | (apply aops_o; rfl; simp only [estep, avs, tts, Nat.reduceAdd, Nat.reduceMul, Nat.reduceSub, Nat.reduceEqDiff, Nat.reduceLT, Nat.reduceLeDiff, Int.reduceToNat, Int.reduceLE, Int.reduceLT, Int.toNat_natCast, reduceCtorEq, hol, d1, d2] <;> exact rr) | (refine zg rfl ?_; first | refine grd_on ?_ | refine zo ?_))
  have hol2 : (numR ((addS p q p.length).1 ++ [(addS p q p.length).2])).length = p.length + 1 := by rw [numR_len, List.length_append, addS_len]; rfl
  refine aops_pureF (K.length) rfl (by simp only [avs] <;> rfl) (by simp only [avs, tts, Nat.reduceAdd, Nat.reduceMul, Nat.reduceSub, Nat.reduceEqDiff, Nat.reduceLT, Nat.reduceLeDiff, Int.reduceToNat, Int.reduceLE, Int.reduceLT, Int.toNat_natCast, reduceCtorEq, frzL, frzA, frzO, unI_dI, dI_len, unI, unL, Nat.add_eq_left, Nat.left_eq_add, Nat.one_ne_zero, numD_snoc, hol2] <;> rfl) (by simp only [avs, tts, Nat.reduceAdd, Nat.reduceMul, Nat.reduceSub, Nat.reduceEqDiff, Nat.reduceLT, Nat.reduceLeDiff, Int.reduceToNat, Int.reduceLE, Int.reduceLT, Int.toNat_natCast, reduceCtorEq, frzL, frzA, frzO, unI_dI, dI_len, unI, unL, Nat.add_eq_left, Nat.left_eq_add, Nat.one_ne_zero, numD_snoc, hol2] <;> rfl) (ct) (by simp only [avs] <;> rfl) ?_
  repeat (refine aops_cons ?_; first | (apply aops_o; rfl; simp only [estep, avs, tts, Nat.reduceAdd, Nat.reduceMul, Nat.reduceSub, Nat.reduceEqDiff, Nat.reduceLT, Nat.reduceLeDiff, Int.reduceToNat, Int.reduceLE, Int.reduceLT, Int.toNat_natCast, reduceCtorEq] <;> exact rr) | (refine zg rfl ?_; first | refine grd_on ?_ | refine zo ?_))
  refine aops_nil ?_
  exact aw_ret ⟨_, rfl, [.dead, .row 167 1 0 (dI (numR [(addS p q p.length).2]))], by simp [numR, dI, dL], rfl⟩
end Av
end Go.Proofs.YtdekcppfpgeneaaGreatDoor
