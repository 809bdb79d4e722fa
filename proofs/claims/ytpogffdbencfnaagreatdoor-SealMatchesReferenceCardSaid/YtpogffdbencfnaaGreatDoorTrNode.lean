import Derived.Test.YtpogffdbencfnaaGreatDoorTrHalf
set_option linter.unusedVariables false
namespace Go.Proofs.YtpogffdbencfnaaGreatDoor
open Go Go.RowKit

theorem strs_lit (w : World) (ls : List ByteArray) (hl : ls.length ≤ maxLen) : IsStrs (w.alloc (.cells (ls.map Value.string).toArray 9)) (.slice (some ⟨w.heap.size, 0, none⟩) ls.length ls.length) ls := by
  refine ⟨some ⟨w.heap.size, 0, none⟩, ls.length, rfl, hl, fun i hi => ⟨w.heap.size, 0, rfl, by rw [World.size_alloc]; omega, ?_⟩⟩
  rw [World.cell?_alloc_new]
  simp [List.getD, hi]
theorem join_le (M : Nat) : ∀ ls : List ByteArray, (∀ s ∈ ls, s.size ≤ M) → M ≤ 1099511627776 → (joinB ls).length ≤ (M + 21) * ls.length
  | [], _, _ => Nat.le_refl _
  | s :: r, h, hM => by
    have hr := join_le M r (fun x hx => h x (List.mem_cons_of_mem _ hx)) hM
    have hs := h s (List.mem_cons_self ..)
    have hd := dec_len s.size 20 (by decide) (by omega)
    have e : (joinB (s :: r)).length = (Lib.decDigits s.size).length + (1 + (s.size + (joinB r).length)) := by
      rw [Lib.size_eq]
      simp [joinB, listsOf, joinL]
      omega
    rw [e, List.length_cons, Nat.mul_add]
    omega
theorem need_le (M : Nat) : ∀ ls : List ByteArray, (∀ s ∈ ls, s.size ≤ M) → needN ls ≤ (M + 21) * ls.length
  | [], _ => Nat.le_refl _
  | s :: r, h => by
    have hr := need_le M r (fun x hx => h x (List.mem_cons_of_mem _ hx))
    have hs := h s (List.mem_cons_self ..)
    rw [needN, List.length_cons, Nat.mul_add]
    omega
theorem lit1_calls (a : ByteArray) (w : World) (ha : a.size ≤ 1099511627776) (hT : Tabs w) :
    Calls Tryz.prog 49 #[.slice (some ⟨w.heap.size, 0, none⟩) 1 1] (w.alloc (.cells #[.string a] 9)) fun e w' => e = .returned (.string (dg [a])) ∧ Below w.heap.size w w' := by
  have hb := (Below.refl w.heap.size w).alloc (Nat.le_refl _) (.cells #[.string a] 9)
  refine (list_calls _ [a] _ (strs_lit w [a] (show 1 ≤ maxLen by decide)) ?_ (hT.on hb)).mono ?_
  · have := join_le 1099511627776 [a] (by simpa using ha) (Nat.le_refl _); simp at this; omega
  · rintro e w' ⟨rfl, h⟩
    exact ⟨rfl, hb.trans (h.mono hb.size)⟩
theorem lit2_calls (a b : ByteArray) (w : World) (ha : a.size ≤ 1099511627776) (hb2 : b.size ≤ 1099511627776) (hT : Tabs w) :
    Calls Tryz.prog 49 #[.slice (some ⟨w.heap.size, 0, none⟩) 2 2] (w.alloc (.cells #[.string a, .string b] 9)) fun e w' => e = .returned (.string (dg [a, b])) ∧ Below w.heap.size w w' := by
  have hb := (Below.refl w.heap.size w).alloc (Nat.le_refl _) (.cells #[.string a, .string b] 9)
  refine (list_calls _ [a, b] _ (strs_lit w [a, b] (show 2 ≤ maxLen by decide)) ?_ (hT.on hb)).mono ?_
  · have := join_le 1099511627776 [a, b] (by simp; exact ⟨ha, hb2⟩) (Nat.le_refl _); simp at this; omega
  · rintro e w' ⟨rfl, h⟩
    exact ⟨rfl, hb.trans (h.mono hb.size)⟩
theorem lit3_calls (a b c : ByteArray) (w : World) (ha : a.size ≤ 1099511627776) (hb2 : b.size ≤ 1099511627776) (hc : c.size ≤ 1099511627776) (hT : Tabs w) :
    Calls Tryz.prog 49 #[.slice (some ⟨w.heap.size, 0, none⟩) 3 3] (w.alloc (.cells #[.string a, .string b, .string c] 9)) fun e w' => e = .returned (.string (dg [a, b, c])) ∧ Below w.heap.size w w' := by
  have hb := (Below.refl w.heap.size w).alloc (Nat.le_refl _) (.cells #[.string a, .string b, .string c] 9)
  refine (list_calls _ [a, b, c] _ (strs_lit w [a, b, c] (show 3 ≤ maxLen by decide)) ?_ (hT.on hb)).mono ?_
  · have := join_le 1099511627776 [a, b, c] (by simp; exact ⟨ha, hb2, hc⟩) (Nat.le_refl _); simp at this; omega
  · rintro e w' ⟨rfl, h⟩
    exact ⟨rfl, hb.trans (h.mono hb.size)⟩
theorem dg_size (l : List ByteArray) : (dg l).size = 16 := sumS_size _
theorem root_size (l : List ByteArray) : (rootT l).size = 16 := by
  rw [rootT]
  split
  · split <;> exact dg_size _
  · exact dg_size _
theorem node_calls (a b : ByteArray) (w : World) (ha : a.size ≤ 1099511627776) (hb2 : b.size ≤ 1099511627776) (hT : Tabs w) :
    Calls Tryz.prog 51 #[.string a, .string b] w fun e w' => e = .returned (.string (dg [sNode, a, b])) ∧ Below w.heap.size w w' := by
  have HT := Lib.hid hT
  clear hT
  go_enter Tryz.func51, Tryz.ntmps51
  go_wp2_with fail
  refine (lit3_calls sNode a b w (by decide) ha hb2 HT.out).mono ?_
  rintro e w1 ⟨rfl, h1⟩
  go_wp2
  go_ret
  exact ⟨rfl, h1⟩
/-- A slice of strings, its capacity told. -/
def IsStrC (w : World) (v : Value) (l : List ByteArray) : Prop :=
  ∃ (ao : Option Addr) (cap : Nat), v = .slice ao l.length cap ∧ l.length ≤ cap ∧ cap ≤ maxLen ∧ ∀ i, i < l.length → ∃ b o, ao = some ⟨b, o, none⟩ ∧ b < w.heap.size ∧
    w.cell? ⟨b, o + i, none⟩ = some (.string (l.getD i ByteArray.empty))
theorem IsStrC.strs {w : World} {v : Value} {l : List ByteArray} (h : IsStrC w v l) : IsStrs w v l := by
  obtain ⟨ao, cap, h1, h2, h3, h4⟩ := h
  exact ⟨ao, cap, h1, by omega, h4⟩
theorem IsStrC.on {w w' : World} {v : Value} {l : List ByteArray} (h : IsStrC w v l) (hb : Below w.heap.size w w') : IsStrC w' v l := by
  obtain ⟨ao, cap, h1, h2, h3, h4⟩ := h
  refine ⟨ao, cap, h1, h2, h3, fun i hi => ?_⟩
  obtain ⟨b, o, e, hlt, hc⟩ := h4 i hi
  exact ⟨b, o, e, Nat.lt_of_lt_of_le hlt hb.size, by rw [hb.cell (p := ⟨b, o + i, none⟩) hlt]; exact hc⟩
theorem strc_lit (w : World) (ls : List ByteArray) (hl : ls.length ≤ maxLen) : IsStrC (w.alloc (.cells (ls.map Value.string).toArray 9)) (.slice (some ⟨w.heap.size, 0, none⟩) ls.length ls.length) ls := by
  obtain ⟨ao, cap, h1, h2, h3⟩ := strs_lit w ls hl
  simp only [Value.slice.injEq] at h1
  obtain ⟨rfl, _, rfl⟩ := h1
  exact ⟨_, _, rfl, Nat.le_refl _, hl, h3⟩
theorem strc_nil (w : World) : IsStrC w (.slice none 0 0) [] := ⟨none, 0, rfl, Nat.le_refl _, Nat.zero_le _, fun i hi => by simp at hi⟩
/-- parts of a slice of strings -/
theorem IsStrC.take {w : World} {ao : Option Addr} {n cap : Nat} {l : List ByteArray} (h : IsStrC w (.slice ao n cap) l) (k : Nat) (hk : k ≤ n) : IsStrC w (.slice ao k cap) (l.take k) := by
  obtain ⟨ao', cap', h1, h2, h2', h3⟩ := h
  simp only [Value.slice.injEq] at h1
  obtain ⟨rfl, rfl, rfl⟩ := h1
  have hl : (l.take k).length = k := by rw [List.length_take]; omega
  refine ⟨ao, cap, by rw [hl], by omega, h2', fun i hi => ?_⟩
  rw [hl] at hi
  obtain ⟨b, o, e, hlt, hc⟩ := h3 i (by omega)
  exact ⟨b, o, e, hlt, by rw [hc]; simp [List.getD, List.getElem?_take_of_lt hi]⟩
theorem IsStrC.drop {w : World} {b o n cap : Nat} {l : List ByteArray} (h : IsStrC w (.slice (some ⟨b, o, none⟩) n cap) l) (k : Nat) (hk : k ≤ n) : IsStrC w (.slice (some ⟨b, o + k, none⟩) (n - k) (cap - k)) (l.drop k) := by
  obtain ⟨ao', cap', h1, h2, h2', h3⟩ := h
  simp only [Value.slice.injEq] at h1
  obtain ⟨rfl, rfl, rfl⟩ := h1
  refine ⟨some ⟨b, o + k, none⟩, cap - k, by rw [List.length_drop], by rw [List.length_drop]; omega, by omega, fun i hi => ?_⟩
  rw [List.length_drop] at hi
  obtain ⟨b', o', e, hlt, hc⟩ := h3 (k + i) (by omega)
  simp only [Option.some.injEq, Addr.mk.injEq] at e
  obtain ⟨rfl, rfl, _⟩ := e
  exact ⟨b, o + k, rfl, hlt, by rw [Nat.add_assoc, hc]; simp [List.getD, List.getElem?_drop]⟩
end Go.Proofs.YtpogffdbencfnaaGreatDoor
