import Derived.Test.YtpogffdbencfnaaGreatDoorDgRefE
set_option linter.unusedVariables false
namespace Go.Proofs.YtpogffdbencfnaaGreatDoor
open Go Go.RowKit

/-! plain laws on texts -/
theorem eqS (a b : ByteArray) : (a.toList == b.toList) = decide (a.data.toList = b.data.toList) := by
  rw [ByteArray.toList_eq, ByteArray.toList_eq]
  by_cases h : a.data.toList = b.data.toList
  · rw [h]; simp
  · rw [decide_eq_false h, beq_eq_false_iff_ne]; exact h
theorem isS_sumS (t : ByteArray) : isS (sumS t) = true := isL_sum _
theorem dec_len (n : Nat) : ∀ k, 0 < k → n < 10 ^ k → (Lib.decDigits n).length ≤ k := by
  induction n using Nat.strongRecOn with
  | _ n ih =>
    intro k hk h
    rw [Lib.decDigits]
    split
    · exact hk
    · rw [List.length_append, List.length_singleton]
      obtain ⟨j, rfl⟩ : ∃ j, k = j + 1 := ⟨k - 1, by omega⟩
      have hj : 0 < j := by
        rcases Nat.eq_zero_or_pos j with e | e
        · subst e; simp at h; omega
        · exact e
      have := ih (n / 10) (by omega) j hj (by rw [Nat.pow_succ] at h; omega)
      omega
theorem bS_inj {a b : List UInt8} (h : bS a = bS b) : a = b := by
  have := congrArg (fun x : ByteArray => x.data.toList) h
  simpa [bS] using this
theorem mapInj {α β : Type} {f : α → β} (hf : Function.Injective f) : ∀ {l m : List α}, l.map f = m.map f → l = m
  | [], [], _ => rfl
  | [], _ :: _, h => by simp at h
  | _ :: _, [], h => by simp at h
  | a :: l, b :: m, h => by
    simp only [List.map_cons, List.cons.injEq] at h
    rw [hf h.1, mapInj hf h.2]
theorem joinB_inj {l m : List ByteArray} (h : joinB l = joinB m) : l = m := by
  have h := joinL_inj h
  unfold listsOf at h
  have hinj : Function.Injective (fun x : ByteArray => x.data.toList) := fun a b h => ByteArray.ext (Array.toList_inj.1 h)
  exact mapInj hinj h

/-! trees of lists: what the functions compute -/
def dg (l : List ByteArray) : ByteArray := sumS (bS (joinB l))
def sEmpty : ByteArray := { data := #[101, 109, 112, 116, 121] }
def sLeaf : ByteArray := { data := #[108, 101, 97, 102] }
def sNode : ByteArray := { data := #[110, 111, 100, 101] }

def halfGo (k n : Nat) : Nat := if h : 0 < k ∧ 2 * k < n then halfGo (2 * k) n else k
termination_by n - k
def half (n : Nat) : Nat := halfGo 1 n

theorem halfGo_spec (n : Nat) (hn : 2 ≤ n) : ∀ d k, n - k ≤ d → 0 < k → k < n → k ≤ halfGo k n ∧ halfGo k n < n ∧ n ≤ 2 * halfGo k n := by
  intro d
  induction d with
  | zero => intro k h1 h2 h3; omega
  | succ d ih =>
    intro k h1 h2 h3
    rw [halfGo]
    split
    · have := ih (2 * k) (by omega) (by omega) (by omega)
      omega
    · omega
theorem half_lt {n : Nat} (hn : 2 ≤ n) : half n < n := (halfGo_spec n hn (n - 1) 1 (Nat.le_refl _) (by decide) (by omega)).2.1
theorem half_pos {n : Nat} (hn : 2 ≤ n) : 0 < half n := (halfGo_spec n hn (n - 1) 1 (Nat.le_refl _) (by decide) (by omega)).1
theorem half_two {n : Nat} (hn : 2 ≤ n) : n ≤ 2 * half n := (halfGo_spec n hn (n - 1) 1 (Nat.le_refl _) (by decide) (by omega)).2.2
theorem halfGo_pow (n : Nat) : ∀ d k, n - k ≤ d → (∃ j, k = 2 ^ j) → ∃ j, halfGo k n = 2 ^ j := by
  intro d
  induction d with
  | zero =>
    intro k h1 h2
    rw [halfGo]
    split
    · omega
    · exact h2
  | succ d ih =>
    intro k h1 h2
    rw [halfGo]
    split
    · obtain ⟨j, rfl⟩ := h2
      exact ih _ (by omega) ⟨j + 1, by rw [Nat.pow_succ]; omega⟩
    · exact h2
theorem half_pow (n : Nat) : ∃ j, half n = 2 ^ j := halfGo_pow n (n - 1) 1 (Nat.le_refl _) ⟨0, rfl⟩
theorem pow_uniq {i j m : Nat} (h1 : 2 ^ i < m) (h2 : m ≤ 2 * 2 ^ i) (h3 : 2 ^ j < m) (h4 : m ≤ 2 * 2 ^ j) : 2 ^ i = 2 ^ j := by
  rcases Nat.lt_trichotomy i j with h | h | h
  · have := Nat.pow_le_pow_right (n := 2) (by decide) (show i + 1 ≤ j from h)
    rw [Nat.pow_succ] at this
    omega
  · rw [h]
  · have := Nat.pow_le_pow_right (n := 2) (by decide) (show j + 1 ≤ i from h)
    rw [Nat.pow_succ] at this
    omega
/-- a shorter list, longer than the greater's half, has the same half -/
theorem half_same {n m : Nat} (hn : 2 ≤ n) (h1 : half n < m) (h2 : m ≤ n) : half m = half n := by
  have hm : 2 ≤ m := by have := half_pos hn; omega
  obtain ⟨i, hi⟩ := half_pow n
  obtain ⟨j, hj⟩ := half_pow m
  have a1 := half_two hn
  have a2 := half_two hm
  have a3 := half_lt hm
  rw [hi] at h1 a1 ⊢
  rw [hj] at a2 a3 ⊢
  exact pow_uniq (m := m) a3 a2 h1 (by omega)

def rootT (l : List ByteArray) : ByteArray :=
  if h : l.length ≤ 1 then (match l with | [] => dg [sEmpty] | s :: _ => dg [sLeaf, s])
  else dg [sNode, rootT (l.take (half l.length)), rootT (l.drop (half l.length))]
termination_by l.length
decreasing_by
  · have := half_lt (n := l.length) (by omega); simp only [List.length_take]; omega
  · have := half_pos (n := l.length) (by omega); simp only [List.length_drop]; omega
theorem rootT_nil : rootT [] = dg [sEmpty] := by rw [rootT]; rfl
theorem rootT_one (s : ByteArray) : rootT [s] = dg [sLeaf, s] := by rw [rootT]; rfl
theorem rootT_many {l : List ByteArray} (h : 2 ≤ l.length) : rootT l = dg [sNode, rootT (l.take (half l.length)), rootT (l.drop (half l.length))] := by
  rw [rootT, dif_neg (by omega)]

def pathT (l : List ByteArray) (i : Nat) : List ByteArray :=
  if h : l.length ≤ 1 then []
  else if i < half l.length then pathT (l.take (half l.length)) i ++ [rootT (l.drop (half l.length))]
  else pathT (l.drop (half l.length)) (i - half l.length) ++ [rootT (l.take (half l.length))]
termination_by l.length
decreasing_by
  · have := half_lt (n := l.length) (by omega); simp only [List.length_take]; omega
  · have := half_pos (n := l.length) (by omega); simp only [List.length_drop]; omega

def lenT (n i : Nat) : Nat :=
  if h : n ≤ 1 then 0 else if i < half n then 1 + lenT (half n) i else 1 + lenT (n - half n) (i - half n)
termination_by n
decreasing_by
  · exact half_lt (by omega)
  · have := half_pos (n := n) (by omega); omega

def popV (p : List ByteArray) : ByteArray := p.getLast?.getD ByteArray.empty
def upT (n i : Nat) (d : ByteArray) (p : List ByteArray) : ByteArray :=
  if h : n ≤ 1 then d
  else if i < half n then dg [sNode, upT (half n) i d p.dropLast, popV p] else dg [sNode, popV p, upT (n - half n) (i - half n) d p.dropLast]
termination_by n
decreasing_by
  · exact half_lt (by omega)
  · have := half_pos (n := n) (by omega); omega

/-- the head of a list's recursion, at n elements -/
theorem path_length (l : List ByteArray) : ∀ i, (pathT l i).length = lenT l.length i := by
  induction h : l.length using Nat.strongRecOn generalizing l with
  | _ n ih =>
    intro i
    rw [pathT, lenT]
    by_cases h1 : l.length ≤ 1
    · rw [dif_pos h1, dif_pos (by omega)]; rfl
    · have h2 := half_lt (n := l.length) (by omega)
      have h3 := half_pos (n := l.length) (by omega)
      rw [dif_neg h1, dif_neg (by omega)]
      subst h
      split
      · rw [List.length_append, List.length_singleton, ih (half l.length) h2 (l.take (half l.length)) (by rw [List.length_take]; omega)]
        omega
      · rw [List.length_append, List.length_singleton, ih (l.length - half l.length) (by omega) (l.drop (half l.length)) (by rw [List.length_drop])]
        omega
theorem popV_append (p : List ByteArray) (s : ByteArray) : popV (p ++ [s]) = s := by simp [popV]
theorem isS_dg (l : List ByteArray) : isS (dg l) = true := isL_sum _
theorem isS_root (l : List ByteArray) : isS (rootT l) = true := by
  rw [rootT]
  split
  · split <;> exact isS_dg _
  · exact isS_dg _
theorem path_isS (l : List ByteArray) : ∀ i, (pathT l i).all isS = true := by
  induction h : l.length using Nat.strongRecOn generalizing l with
  | _ n ih =>
    intro i
    rw [pathT]
    by_cases h1 : l.length ≤ 1
    · rw [dif_pos h1]; rfl
    · have h2 := half_lt (n := l.length) (by omega)
      have h3 := half_pos (n := l.length) (by omega)
      rw [dif_neg h1]
      subst h
      split
      · rw [List.all_append, ih (half l.length) h2 (l.take (half l.length)) (by rw [List.length_take]; omega)]
        simp [isS_root]
      · rw [List.all_append, ih (l.length - half l.length) (by omega) (l.drop (half l.length)) (by rw [List.length_drop])]
        simp [isS_root]
theorem up_path (l : List ByteArray) : ∀ i, i < l.length → upT l.length i (dg [sLeaf, l.getD i ByteArray.empty]) (pathT l i) = rootT l := by
  induction h : l.length using Nat.strongRecOn generalizing l with
  | _ n ih =>
    intro i hi
    subst h
    rw [pathT, upT]
    by_cases h1 : l.length ≤ 1
    · rw [dif_pos h1]
      match l, hi, h1 with
      | [s], hi, _ =>
        have : i = 0 := by simpa using hi
        subst this
        exact (rootT_one s).symm
    · have h2 := half_lt (n := l.length) (by omega)
      have h3 := half_pos (n := l.length) (by omega)
      rw [dif_neg h1, dif_neg h1, rootT_many (l := l) (by omega)]
      by_cases hk : i < half l.length
      · rw [if_pos hk, if_pos hk, popV_append, List.dropLast_concat]
        have hl : (l.take (half l.length)).length = half l.length := by rw [List.length_take]; omega
        have := ih (half l.length) h2 (l.take (half l.length)) hl i (by omega)
        rw [show (l.take (half l.length)).getD i ByteArray.empty = l.getD i ByteArray.empty by simp [List.getD, List.getElem?_take_of_lt hk]] at this
        rw [this]
      · rw [if_neg hk, if_neg hk, popV_append, List.dropLast_concat]
        have hl : (l.drop (half l.length)).length = l.length - half l.length := by rw [List.length_drop]
        have := ih (l.length - half l.length) (by omega) (l.drop (half l.length)) hl (i - half l.length) (by omega)
        rw [show (l.drop (half l.length)).getD (i - half l.length) ByteArray.empty = l.getD i ByteArray.empty by simp [List.getD, List.getElem?_drop]; rw [show half l.length + (i - half l.length) = i by omega]] at this
        rw [this]
theorem len_le (a : Nat) : ∀ n i, n ≤ 2 ^ a → lenT n i ≤ a := by
  induction a with
  | zero => intro n i h; rw [lenT, dif_pos (by simpa using h)]; omega
  | succ a ih =>
    intro n i h
    rw [lenT]
    split
    · omega
    · rename_i h1
      have h2 := half_lt (n := n) (by omega)
      have h3 := half_two (n := n) (by omega)
      have hk : half n ≤ 2 ^ a := by
        obtain ⟨j, hj⟩ := half_pow n
        rw [hj]
        refine Nat.pow_le_pow_right (by decide) ?_
        rcases Nat.lt_or_ge a j with h' | h'
        · exfalso
          have := Nat.pow_le_pow_right (n := 2) (by decide) (show a + 1 ≤ j from h')
          omega
        · exact h'
      split
      · have := ih _ i hk; omega
      · have := ih (n - half n) (i - half n) (by omega); omega
theorem len_pos {n : Nat} (h : 2 ≤ n) (i : Nat) : 0 < lenT n i := by
  rw [lenT, dif_neg (by omega)]; split <;> omega
theorem len_one (i : Nat) : lenT 1 i = 0 := by rw [lenT, dif_pos (by decide)]

def checkT (root : ByteArray) (n i : Int) (s : ByteArray) (p : List ByteArray) : Bool :=
  decide (n ≤ 1000000) && decide (0 ≤ i) && decide (i < n) && decide (p.length = lenT n.toNat i.toNat) && p.all isS && decide (upT n.toNat i.toNat (dg [sLeaf, s]) p = root)
theorem check_path (l : List ByteArray) (i : Nat) (hi : i < l.length) (hl : l.length ≤ 1000000) : checkT (rootT l) l.length i (l.getD i ByteArray.empty) (pathT l i) = true := by
  unfold checkT
  have h1 := path_length l i
  have h2 := path_isS l i
  have h3 := up_path l i hi
  simp only [Int.toNat_natCast, h1, h2, h3]
  simp
  omega
theorem check_len {root : ByteArray} {n i : Int} {s : ByteArray} {p : List ByteArray} (h : checkT root n i s p = true) : p.length = lenT n.toNat i.toNat := by
  unfold checkT at h
  simp only [Bool.and_eq_true, decide_eq_true_eq] at h
  exact h.1.1.2
theorem check_up {root : ByteArray} {n i : Int} {s : ByteArray} {p : List ByteArray} (h : checkT root n i s p = true) : upT n.toNat i.toNat (dg [sLeaf, s]) p = root := by
  unfold checkT at h
  simp only [Bool.and_eq_true, decide_eq_true_eq] at h
  exact h.2
end Go.Proofs.YtpogffdbencfnaaGreatDoor
