import Derived.Test.YtpogffdbencfnaaGreatDoorDgMore
import Derived.Lib.Builder
import Derived.Lib.AppendStr
import Derived.Lib.UnsafeStr
set_option linter.unusedVariables false
namespace Go.Proofs.YtpogffdbencfnaaGreatDoor
open Go Go.RowKit

/-- A slice value that holds strings. -/
def IsStrs (w : World) (v : Value) (l : List ByteArray) : Prop :=
  ∃ (ao : Option Addr) (cap : Nat), v = .slice ao l.length cap ∧ l.length ≤ maxLen ∧ ∀ i, i < l.length → ∃ b o, ao = some ⟨b, o, none⟩ ∧ b < w.heap.size ∧
    w.cell? ⟨b, o + i, none⟩ = some (.string (l.getD i ByteArray.empty))
theorem IsStrs.on {w w' : World} {v : Value} {l : List ByteArray} (h : IsStrs w v l) (hb : Below w.heap.size w w') : IsStrs w' v l := by
  obtain ⟨ao, cap, h1, h2, h3⟩ := h
  refine ⟨ao, cap, h1, h2, fun i hi => ?_⟩
  obtain ⟨b, o, e, hlt, hc⟩ := h3 i hi
  exact ⟨b, o, e, Nat.lt_of_lt_of_le hlt hb.size, by rw [hb.cell (p := ⟨b, o + i, none⟩) hlt]; exact hc⟩
def listsOf (l : List ByteArray) : List (List UInt8) := l.map (·.data.toList)
def joinB (l : List ByteArray) : List UInt8 := joinL (listsOf l)
theorem joinB_append (l m : List ByteArray) : joinB (l ++ m) = joinB l ++ joinB m := by
  unfold joinB listsOf; rw [List.map_append, joinL_append]
theorem joinB_take (l : List ByteArray) (i : Nat) (h : i < l.length) : joinB (l.take (i + 1)) = joinB (l.take i) ++ (Lib.decDigits (l.getD i ByteArray.empty).size ++ [58] ++ (l.getD i ByteArray.empty).data.toList) := by
  rw [List.take_add_one, joinB_append, List.getElem?_eq_getElem h]
  have e : l.getD i ByteArray.empty = l[i] := by simp [List.getD, List.getElem?_eq_getElem h]
  rw [e, Lib.size_eq]
  simp [joinB, listsOf, joinL]
theorem joinB_take_le (l : List ByteArray) (i : Nat) : (joinB (l.take i)).length ≤ (joinB l).length := by
  have := joinB_append (l.take i) (l.drop i)
  rw [List.take_append_drop] at this
  rw [this, List.length_append]; omega
theorem bytes_app (l m : List UInt8) : Lib.byteCells (l ++ m) = Lib.byteCells l ++ Lib.byteCells m := by simp [Lib.byteCells]

def itoaS (n : Nat) : ByteArray := ⟨(Lib.decDigits n).toArray⟩
theorem itoa_calls (n : Nat) (hn : n ≤ 9223372036854775807) (w : World) (hT : Tabs w) :
    Calls Tryz.prog 61 #[.int .i64 n] w fun e w' => e = .returned (.string (itoaS n)) ∧ Below w.heap.size w w' := by
  refine (Tryz.strconv_Itoa n (by omega) (by omega) w hT.1).mono ?_
  rintro e w1 ⟨rfl, k, os, rfl⟩
  refine ⟨?_, Lib.below_grow _ w (Nat.le_refl _) k os⟩
  rw [Lib.itoa_nonneg]; rfl

theorem grownBy_of_below {w w' : World} (h : Below w.heap.size w w') : w.grownBy w' none := ⟨h.os, h.tape, h.output, h.size, fun k hk _ => h.block k hk⟩
theorem builderAt_below {T e : TypeId} {B b : Nat} {p : Value} {bs : List Value} {w w' : World} (h : Lib.BuilderAt T e B b p bs w) (hb : Below w.heap.size w w') : Lib.BuilderAt T e B b p bs w' := by
  have hlt := h.lt
  obtain ⟨h1, v, h2, h3, h4⟩ := h
  refine ⟨h1, v, by rw [hb.block b hlt]; exact h2, h3.kept (grownBy_of_below hb) ?_, h4⟩
  by_cases hn : v.ownBlock = none
  · exact .inl hn
  · exact .inr hn
theorem isBuilder_below {T e : TypeId} {B b : Nat} {bs : List Value} {w w' : World} (h : Lib.IsBuilder T e B b bs w) (hb : Below w.heap.size w w') : Lib.IsBuilder T e B b bs w' := by
  rcases h with h | h
  · exact .inl (builderAt_below h hb)
  · exact .inr (builderAt_below h hb)
set_option maxRecDepth 100000 in
theorem list_calls (v : Value) (ls : List ByteArray) (w : World) (hv : IsStrs w v ls) (hJ : (joinB ls).length ≤ 140737488355328) (hT : Tabs w) :
    Calls Tryz.prog 49 #[v] w fun e w' => e = .returned (.string (sumS (bS (joinB ls)))) ∧ Below w.heap.size w w' := by
  obtain ⟨ao, cap, rfl, hmax, hcells⟩ := hv
  have HT := Lib.hid hT
  have HC := Lib.hid hcells
  clear hT hcells
  have hmx : ls.length ≤ 9223372036854775807 := hmax
  clear hmax
  go_enter Tryz.func49, Tryz.ntmps49
  go_wp2_with fail
  have HB0 : Hid (Lib.IsBuilder 85 5 w.heap.size w.heap.size (Lib.byteCells (joinB (ls.take 0))) (w.alloc (.cells #[.pointer none, .slice none 0 0] 85))) := Lib.fresh_isBuilder _ _ w
  have HW0 : Hid (Below w.heap.size w (w.alloc (.cells #[.pointer none, .slice none 0 0] 85))) := Lib.hid ((Below.refl _ _).alloc (Nat.le_refl _) _)
  go_loopw [8] (fun vi W => ∃ i : Nat, vi = .int .i64 (i : Int) ∧ i ≤ ls.length ∧ Hid (Lib.IsBuilder 85 5 w.heap.size w.heap.size (Lib.byteCells (joinB (ls.take i))) W ∧ Below w.heap.size w W)) (fun vi _ => ls.length - (RowKit.intOf vi).toNat)
  case atStart => exact ⟨0, rfl, by omega, HB0.out, HW0.out⟩
  case round =>
    obtain ⟨i, rfl, hik, HB⟩ := hrel
    clear HB0 HW0
    by_cases hi : i < ls.length
    · obtain ⟨b, o, rfl, hlt, hc⟩ := HC.out i hi
      have hcw : wr.cell? ⟨b, o + i, none⟩ = some (.string (ls.getD i ByteArray.empty)) := by rw [HB.out.2.cell (p := ⟨b, o + i, none⟩) hlt]; exact hc
      have HJ := Lib.hid (joinB_take ls i hi)
      have HL := Lib.hid (joinB_take_le ls (i + 1))
      generalize ls.getD i ByteArray.empty = s at *
      have hlen : (joinB (ls.take i)).length + (Lib.decDigits s.size).length + 1 + s.size ≤ 140737488355328 := by
        have h1 := HL.out
        rw [HJ.out] at h1
        simp only [List.length_append, List.length_singleton, ← Lib.size_eq] at h1
        omega
      have hss : s.size ≤ 9223372036854775807 := by omega
      have HLEN := Lib.hid hlen
      clear hlen hc
      go_wp2_with fail
      have hBw := HB.out.2.size
      refine (itoa_calls s.size hss wr (HT.out.on HB.out.2)).mono ?_
      rintro e w1 ⟨rfl, h1⟩
      have hb1 := isBuilder_below HB.out.1 h1
      have HW1 := HB.out.2.trans (h1.mono HB.out.2.size)
      have hl1 : (Lib.byteCells (joinB (ls.take i))).length = (joinB (ls.take i)).length := by simp [Lib.byteCells]
      have hl2 : (itoaS s.size).size = (Lib.decDigits s.size).length := by rw [Lib.size_eq]; simp [itoaS]
      go_wp2_with fail
      refine (Tryz.Builder_WriteString w.heap.size w.heap.size _ (itoaS s.size) w1 hb1 (by have := HLEN.out; omega) HW1.size).mono ?_
      rintro e w2 ⟨rfl, hb2, h2⟩
      have HW2 := HW1.trans h2
      have hl3 : (Lib.strCells (itoaS s.size)).length = (Lib.decDigits s.size).length := by simp [Lib.strCells, itoaS]
      have H2 := Lib.hid (And.intro hb2 HW2)
      clear hb1 HW1 hb2 HW2 h1 h2
      go_wp2_with fail
      refine (Tryz.Builder_WriteByte w.heap.size w.heap.size _ 58 w2 (.inr H2.out.1) (by have := HLEN.out; rw [List.length_append]; omega) H2.out.2.size).mono ?_
      rintro e w3 ⟨rfl, hb3, h3⟩
      have H3 := Lib.hid (And.intro hb3 (H2.out.2.trans h3))
      clear hb3 h3 H2
      go_wp2_with fail
      refine (Tryz.Builder_WriteString w.heap.size w.heap.size _ s w3 (.inr H3.out.1) (by have := HLEN.out; simp only [List.length_append, List.length_singleton]; omega) H3.out.2.size).mono ?_
      rintro e w4 ⟨rfl, hb4, h4⟩
      have H4 : Hid (Lib.IsBuilder 85 5 w.heap.size w.heap.size (Lib.byteCells (joinB (ls.take (i + 1)))) w4 ∧ Below w.heap.size w w4) := by
        refine Lib.hid ⟨.inr ?_, H3.out.2.trans h4⟩
        rw [HJ.out]
        have e : Lib.byteCells (joinB (ls.take i) ++ (Lib.decDigits s.size ++ [58] ++ s.data.toList)) = Lib.byteCells (joinB (ls.take i)) ++ Lib.strCells (itoaS s.size) ++ [.int .u8 58] ++ Lib.strCells s := by
          simp [Lib.byteCells, Lib.strCells, itoaS]
        rw [e]
        exact hb4
      clear hb4 h4 H3 hl1 hl2 hl3 HJ HL
      go_wp2
      go_round
      case rel => exact ⟨i + 1, rfl, by omega, H4.out⟩
      case measure => simp only [RowKit.intOf]; omega
    · have e : i = ls.length := by omega
      subst e
      have HB1 : Hid (Lib.IsBuilder 85 5 w.heap.size w.heap.size (Lib.byteCells (joinB ls)) wr) := by
        have := HB.out.1
        rw [List.take_length] at this
        exact this
      have HB2 := Lib.hid HB.out.2
      have hj2 : (bS (joinB ls)).size ≤ 4611686018427387904 := by rw [bS_size]; omega
      clear HB
      go_wp2_with fail
      refine (Tryz.Builder_String_any w.heap.size w.heap.size (joinB ls) wr HB1.out HB2.out.size).mono ?_
      rintro e w1 ⟨rfl, h1⟩
      have HW1 := Lib.hid (HB2.out.trans h1)
      have HT2 : Tabs w1 := HT.out.on HW1.out
      go_wp2_with fail
      refine (sum_calls (bS (joinB ls)) hj2 w1 HT2).mono ?_
      rintro e w2 ⟨rfl, h2⟩
      have HW2 := Lib.hid (HW1.out.trans (h2.mono HW1.out.size))
      clear HT2 h1 h2
      go_wp2
      go_ret
      exact ⟨rfl, HW2.out⟩
end Go.Proofs.YtpogffdbencfnaaGreatDoor
