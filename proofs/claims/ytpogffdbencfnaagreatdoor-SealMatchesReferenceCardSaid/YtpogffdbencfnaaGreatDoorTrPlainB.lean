import Derived.Test.YtpogffdbencfnaaGreatDoorTrPlain
set_option linter.unusedVariables false
namespace Go.Proofs.YtpogffdbencfnaaGreatDoor
open Go Go.RowKit

/-! two different texts with one digest; links -/
def jB (l : List ByteArray) : ByteArray := bS (joinB l)
def Clash (L : List ByteArray) : Prop := ∃ a b, a ∈ L ∧ b ∈ L ∧ a ≠ b ∧ sumS a = sumS b
theorem Clash.mono {L M : List ByteArray} (h : Clash L) (hs : ∀ x, x ∈ L → x ∈ M) : Clash M := by
  obtain ⟨a, b, ha, hb, h1, h2⟩ := h
  exact ⟨a, b, hs a ha, hs b hb, h1, h2⟩
theorem jB_inj {l m : List ByteArray} (h : jB l = jB m) : l = m := joinB_inj (bS_inj h)
theorem dg_or {l m L : List ByteArray} (h : dg l = dg m) (hl : jB l ∈ L) (hm : jB m ∈ L) : l = m ∨ Clash L := by
  by_cases e : l = m
  · exact .inl e
  · exact .inr ⟨jB l, jB m, hl, hm, fun e2 => e (jB_inj e2), h⟩

def textsT (l : List ByteArray) : List ByteArray :=
  if h : l.length ≤ 1 then (match l with | [] => [jB [sEmpty]] | s :: _ => [jB [sLeaf, s]])
  else textsT (l.take (half l.length)) ++ textsT (l.drop (half l.length)) ++ [jB [sNode, rootT (l.take (half l.length)), rootT (l.drop (half l.length))]]
termination_by l.length
decreasing_by
  · have := half_lt (n := l.length) (by omega); simp only [List.length_take]; omega
  · have := half_pos (n := l.length) (by omega); simp only [List.length_drop]; omega
theorem textsT_one (s : ByteArray) : textsT [s] = [jB [sLeaf, s]] := by rw [textsT]; rfl
theorem textsT_many {l : List ByteArray} (h : 2 ≤ l.length) : textsT l = textsT (l.take (half l.length)) ++ textsT (l.drop (half l.length)) ++ [jB [sNode, rootT (l.take (half l.length)), rootT (l.drop (half l.length))]] := by
  rw [textsT, dif_neg (by omega)]

def pathTextsT (n i : Nat) (s : ByteArray) (p : List ByteArray) : List ByteArray :=
  if h : n ≤ 1 then [jB [sLeaf, s]]
  else if i < half n then pathTextsT (half n) i s p.dropLast ++ [jB [sNode, upT (half n) i (dg [sLeaf, s]) p.dropLast, popV p]]
  else pathTextsT (n - half n) (i - half n) s p.dropLast ++ [jB [sNode, popV p, upT (n - half n) (i - half n) (dg [sLeaf, s]) p.dropLast]]
termination_by n
decreasing_by
  · exact half_lt (by omega)
  · have := half_pos (n := n) (by omega); omega

theorem two_eq {a b c d e f : ByteArray} (h : [a, b, c] = [d, e, f]) : b = e ∧ c = f := by simpa using (by simpa using h : a = d ∧ b = e ∧ c = f).2
theorem binds (l : List ByteArray) : ∀ (i : Nat) (s : ByteArray) (p : List ByteArray), i < l.length → upT l.length i (dg [sLeaf, s]) p = rootT l →
    s = l.getD i ByteArray.empty ∨ Clash (textsT l ++ pathTextsT l.length i s p) := by
  induction h : l.length using Nat.strongRecOn generalizing l with
  | _ n ih =>
    intro i s p hi hu
    subst h
    by_cases h1 : l.length ≤ 1
    · match l, hi, h1 with
      | [x], hi, _ =>
        have : i = 0 := by simpa using hi
        subst this
        rw [upT, dif_pos (show [x].length ≤ 1 from Nat.le_refl 1), rootT_one] at hu
        rw [textsT_one, pathTextsT, dif_pos (show [x].length ≤ 1 from Nat.le_refl 1)]
        rcases dg_or (L := [jB [sLeaf, x]] ++ [jB [sLeaf, s]]) hu (by simp) (by simp) with e | e
        · exact .inl (by simpa using e)
        · exact .inr e
    · have h2 := half_lt (n := l.length) (by omega)
      have h3 := half_pos (n := l.length) (by omega)
      rw [upT, dif_neg h1, rootT_many (l := l) (by omega)] at hu
      rw [textsT_many (l := l) (by omega), pathTextsT, dif_neg h1]
      by_cases hk : i < half l.length
      · rw [if_pos hk] at hu ⊢
        have hl : (l.take (half l.length)).length = half l.length := by rw [List.length_take]; omega
        rcases dg_or (L := textsT (l.take (half l.length)) ++ textsT (l.drop (half l.length)) ++ [jB [sNode, rootT (l.take (half l.length)), rootT (l.drop (half l.length))]] ++ (pathTextsT (half l.length) i s p.dropLast ++ [jB [sNode, upT (half l.length) i (dg [sLeaf, s]) p.dropLast, popV p]])) hu (by simp) (by simp) with e | e
        · rcases ih (half l.length) h2 (l.take (half l.length)) hl i s p.dropLast (by omega) (two_eq e).1 with r | r
          · left
            rw [r]; simp [List.getD, List.getElem?_take_of_lt hk]
          · exact .inr (r.mono fun x hx => by simp only [List.mem_append] at hx ⊢; rcases hx with hx | hx <;> simp [hx])
        · exact .inr e
      · rw [if_neg hk] at hu ⊢
        have hl : (l.drop (half l.length)).length = l.length - half l.length := by rw [List.length_drop]
        rcases dg_or (L := textsT (l.take (half l.length)) ++ textsT (l.drop (half l.length)) ++ [jB [sNode, rootT (l.take (half l.length)), rootT (l.drop (half l.length))]] ++ (pathTextsT (l.length - half l.length) (i - half l.length) s p.dropLast ++ [jB [sNode, popV p, upT (l.length - half l.length) (i - half l.length) (dg [sLeaf, s]) p.dropLast]])) hu (by simp) (by simp) with e | e
        · rcases ih (l.length - half l.length) (by omega) (l.drop (half l.length)) hl (i - half l.length) s p.dropLast (by omega) (two_eq e).2 with r | r
          · left
            rw [r]; simp only [List.getD, List.getElem?_drop]; rw [show half l.length + (i - half l.length) = i by omega]
          · exact .inr (r.mono fun x hx => by simp only [List.mem_append] at hx ⊢; rcases hx with hx | hx <;> simp [hx])
        · exact .inr e

theorem roots (a : List ByteArray) : ∀ b : List ByteArray, b.length = a.length → rootT a = rootT b → a = b ∨ Clash (textsT a ++ textsT b) := by
  induction h : a.length using Nat.strongRecOn generalizing a with
  | _ n ih =>
    intro b hb hr
    subst h
    by_cases h1 : a.length ≤ 1
    · match a, b, hb, h1 with
      | [], [], _, _ => exact .inl rfl
      | [x], [y], _, _ =>
        rw [rootT_one, rootT_one] at hr
        rw [textsT_one, textsT_one]
        rcases dg_or (L := [jB [sLeaf, x]] ++ [jB [sLeaf, y]]) hr (by simp) (by simp) with e | e
        · left; have : x = y := by simpa using e
          rw [this]
        · exact .inr e
    · have h2 := half_lt (n := a.length) (by omega)
      have h3 := half_pos (n := a.length) (by omega)
      have hb2 : textsT b = _ := textsT_many (l := b) (by omega)
      have hrb : rootT b = _ := rootT_many (l := b) (by omega)
      rw [hrb, rootT_many (l := a) (by omega)] at hr
      rw [hb2, textsT_many (l := a) (by omega)]
      rw [hb] at hr ⊢
      have ht : ∀ c : List ByteArray, c.length = a.length → (c.take (half a.length)).length = half a.length := fun c hc => by rw [List.length_take]; omega
      have hd : ∀ c : List ByteArray, c.length = a.length → (c.drop (half a.length)).length = a.length - half a.length := fun c hc => by rw [List.length_drop]; omega
      rcases dg_or (L := textsT (a.take (half a.length)) ++ textsT (a.drop (half a.length)) ++ [jB [sNode, rootT (a.take (half a.length)), rootT (a.drop (half a.length))]] ++ (textsT (b.take (half a.length)) ++ textsT (b.drop (half a.length)) ++ [jB [sNode, rootT (b.take (half a.length)), rootT (b.drop (half a.length))]])) hr (by simp) (by simp) with e | e
      · rcases ih (half a.length) h2 (a.take (half a.length)) (ht a rfl) (b.take (half a.length)) (ht b hb) (two_eq e).1 with r | r
        · rcases ih (a.length - half a.length) (by omega) (a.drop (half a.length)) (hd a rfl) (b.drop (half a.length)) (hd b hb) (two_eq e).2 with q | q
          · left
            rw [← List.take_append_drop (half a.length) a, ← List.take_append_drop (half a.length) b, r, q]
          · exact .inr (q.mono fun x hx => by simp only [List.mem_append] at hx ⊢; rcases hx with hx | hx <;> simp [hx])
        · exact .inr (r.mono fun x hx => by simp only [List.mem_append] at hx ⊢; rcases hx with hx | hx <;> simp [hx])
      · exact .inr e

def linkT (l : List ByteArray) (m : Nat) (whole : Bool) : List ByteArray :=
  if h : l.length ≤ 1 ∨ m = l.length then (if whole then [] else [rootT l])
  else if m ≤ half l.length then linkT (l.take (half l.length)) m whole ++ [rootT (l.drop (half l.length))]
  else linkT (l.drop (half l.length)) (m - half l.length) false ++ [rootT (l.take (half l.length))]
termination_by l.length
decreasing_by
  · have := half_lt (n := l.length) (by omega); simp only [List.length_take]; omega
  · have := half_pos (n := l.length) (by omega); simp only [List.length_drop]; omega
def longT (n m : Nat) (whole : Bool) : Nat :=
  if h : n ≤ 1 ∨ m = n then (if whole then 0 else 1)
  else if m ≤ half n then 1 + longT (half n) m whole else 1 + longT (n - half n) (m - half n) false
termination_by n
decreasing_by
  · exact half_lt (by omega)
  · have := half_pos (n := n) (by omega); omega
def bothT (n m : Nat) (whole : Bool) (old : ByteArray) (p : List ByteArray) : ByteArray × ByteArray :=
  if h : n ≤ 1 ∨ m = n then (if whole then (old, old) else (popV p, popV p))
  else if m ≤ half n then
    let r := bothT (half n) m whole old p.dropLast
    (r.1, dg [sNode, r.2, popV p])
  else
    let r := bothT (n - half n) (m - half n) false old p.dropLast
    (dg [sNode, popV p, r.1], dg [sNode, popV p, r.2])
termination_by n
decreasing_by
  · exact half_lt (by omega)
  · have := half_pos (n := n) (by omega); omega
def linkTextsT (n m : Nat) (whole : Bool) (old : ByteArray) (p : List ByteArray) : List ByteArray :=
  if h : n ≤ 1 ∨ m = n then []
  else if m ≤ half n then linkTextsT (half n) m whole old p.dropLast ++ [jB [sNode, (bothT (half n) m whole old p.dropLast).2, popV p]]
  else linkTextsT (n - half n) (m - half n) false old p.dropLast ++ [jB [sNode, popV p, (bothT (n - half n) (m - half n) false old p.dropLast).1], jB [sNode, popV p, (bothT (n - half n) (m - half n) false old p.dropLast).2]]
termination_by n
decreasing_by
  · exact half_lt (by omega)
  · have := half_pos (n := n) (by omega); omega

theorem link_length (l : List ByteArray) : ∀ m whole, (linkT l m whole).length = longT l.length m whole := by
  induction h : l.length using Nat.strongRecOn generalizing l with
  | _ n ih =>
    intro m whole
    subst h
    rw [linkT, longT]
    by_cases h1 : l.length ≤ 1 ∨ m = l.length
    · rw [dif_pos h1, dif_pos h1]; cases whole <;> rfl
    · have h2 := half_lt (n := l.length) (by omega)
      have h3 := half_pos (n := l.length) (by omega)
      rw [dif_neg h1, dif_neg h1]
      split
      · rw [List.length_append, List.length_singleton, ih (half l.length) h2 (l.take (half l.length)) (by rw [List.length_take]; omega)]
        omega
      · rw [List.length_append, List.length_singleton, ih (l.length - half l.length) (by omega) (l.drop (half l.length)) (by rw [List.length_drop])]
        omega
theorem link_isS (l : List ByteArray) : ∀ m whole, (linkT l m whole).all isS = true := by
  induction h : l.length using Nat.strongRecOn generalizing l with
  | _ n ih =>
    intro m whole
    subst h
    rw [linkT]
    by_cases h1 : l.length ≤ 1 ∨ m = l.length
    · rw [dif_pos h1]; cases whole <;> simp [isS_root]
    · have h2 := half_lt (n := l.length) (by omega)
      have h3 := half_pos (n := l.length) (by omega)
      rw [dif_neg h1]
      split
      · rw [List.all_append, ih (half l.length) h2 (l.take (half l.length)) (by rw [List.length_take]; omega)]
        simp [isS_root]
      · rw [List.all_append, ih (l.length - half l.length) (by omega) (l.drop (half l.length)) (by rw [List.length_drop])]
        simp [isS_root]
/-- the root of the first m, by halves of the greater list -/
theorem root_take {l : List ByteArray} {m : Nat} (h : 2 ≤ l.length) (h1 : half l.length < m) (h2 : m ≤ l.length) :
    rootT (l.take m) = dg [sNode, rootT (l.take (half l.length)), rootT ((l.drop (half l.length)).take (m - half l.length))] := by
  have hl : (l.take m).length = m := by rw [List.length_take]; omega
  have hp := half_pos h
  rw [rootT_many (by omega), hl, half_same h h1 h2, List.take_take, List.drop_take]
  rw [show min (half l.length) m = half l.length by omega]
theorem both_link (l : List ByteArray) : ∀ m whole old, 0 < m → m ≤ l.length → (whole = true → old = rootT (l.take m)) →
    bothT l.length m whole old (linkT l m whole) = (rootT (l.take m), rootT l) := by
  induction h : l.length using Nat.strongRecOn generalizing l with
  | _ n ih =>
    intro m whole old h0 hm hw
    subst h
    rw [linkT, bothT]
    by_cases h1 : l.length ≤ 1 ∨ m = l.length
    · have hme : m = l.length := by omega
      rw [dif_pos h1, dif_pos h1]
      have ht : l.take m = l := List.take_of_length_le (by omega)
      rw [ht] at hw ⊢
      cases whole with
      | true => rw [hw rfl]; rfl
      | false => rfl
    · have h2 := half_lt (n := l.length) (by omega)
      have h3 := half_pos (n := l.length) (by omega)
      rw [dif_neg h1, dif_neg h1]
      by_cases hk : m ≤ half l.length
      · rw [if_pos hk, if_pos hk, popV_append, List.dropLast_concat]
        have hl : (l.take (half l.length)).length = half l.length := by rw [List.length_take]; omega
        have htt : (l.take (half l.length)).take m = l.take m := by rw [List.take_take, Nat.min_eq_left hk]
        have := ih (half l.length) h2 (l.take (half l.length)) hl m whole old h0 hk (by rw [htt]; exact hw)
        rw [this, htt, rootT_many (l := l) (by omega)]
      · rw [if_neg hk, if_neg hk, popV_append, List.dropLast_concat]
        have hl : (l.drop (half l.length)).length = l.length - half l.length := by rw [List.length_drop]
        have := ih (l.length - half l.length) (by omega) (l.drop (half l.length)) hl (m - half l.length) false old (by omega) (by omega) (by intro e; cases e)
        rw [this, rootT_many (l := l) (by omega), root_take (by omega) (by omega) hm]
theorem long_le (a : Nat) : ∀ n m whole, n ≤ 2 ^ a → longT n m whole ≤ a + 1 := by
  induction a with
  | zero => intro n m whole h; rw [longT, dif_pos (.inl (by simpa using h))]; cases whole <;> simp
  | succ a ih =>
    intro n m whole h
    rw [longT]
    split
    · cases whole <;> simp
    · rename_i h1
      have h2 := half_lt (n := n) (by omega)
      have h3 := half_two (n := n) (by omega)
      have hk : half n ≤ 2 ^ a := by
        obtain ⟨j, hj⟩ := half_pow n
        rw [hj]
        refine Nat.pow_le_pow_right (by decide) ?_
        rcases Nat.lt_or_ge a j with h' | h'
        · exfalso
          have := Nat.pow_le_pow_right (n := 2) (by decide) (show a + 1 ≤ j from h')
          omega
        · exact h'
      split
      · have := ih _ m whole hk; omega
      · have := ih (n - half n) (m - half n) false (by omega); omega
theorem long_pos {n m : Nat} (h0 : 0 < m) (h : m < n) : 0 < longT n m true := by
  rw [longT, dif_neg (by omega)]; split <;> omega
theorem long_whole (n : Nat) : longT n n true = 0 := by rw [longT, dif_pos (.inr rfl)]; rfl
theorem link_whole (l : List ByteArray) : linkT l l.length true = [] := by rw [linkT, dif_pos (.inr rfl)]; rfl

theorem continues (l : List ByteArray) : ∀ m whole old p, 0 < m → m ≤ l.length → (bothT l.length m whole old p).2 = rootT l →
    (bothT l.length m whole old p).1 = rootT (l.take m) ∨ Clash (textsT l ++ linkTextsT l.length m whole old p) := by
  induction h : l.length using Nat.strongRecOn generalizing l with
  | _ n ih =>
    intro m whole old p h0 hm hr
    subst h
    rw [bothT] at hr ⊢
    by_cases h1 : l.length ≤ 1 ∨ m = l.length
    · have hme : m = l.length := by omega
      have ht : l.take m = l := List.take_of_length_le (by omega)
      rw [dif_pos h1] at hr ⊢
      left
      rw [ht]
      cases whole <;> simpa using hr
    · have h2 := half_lt (n := l.length) (by omega)
      have h3 := half_pos (n := l.length) (by omega)
      rw [dif_neg h1] at hr ⊢
      rw [linkTextsT, dif_neg h1, textsT_many (l := l) (by omega)]
      by_cases hk : m ≤ half l.length
      · rw [if_pos hk] at hr ⊢
        rw [if_pos hk]
        simp only at hr ⊢
        have hl : (l.take (half l.length)).length = half l.length := by rw [List.length_take]; omega
        have htt : (l.take (half l.length)).take m = l.take m := by rw [List.take_take, Nat.min_eq_left hk]
        rw [rootT_many (l := l) (by omega)] at hr
        rcases dg_or (L := textsT (l.take (half l.length)) ++ textsT (l.drop (half l.length)) ++ [jB [sNode, rootT (l.take (half l.length)), rootT (l.drop (half l.length))]] ++ (linkTextsT (half l.length) m whole old p.dropLast ++ [jB [sNode, (bothT (half l.length) m whole old p.dropLast).2, popV p]])) hr (by simp) (by simp) with e | e
        · rcases ih (half l.length) h2 (l.take (half l.length)) hl m whole old p.dropLast h0 hk (two_eq e).1 with r | r
          · left; rw [r, htt]
          · exact .inr (r.mono fun x hx => by simp only [List.mem_append] at hx ⊢; rcases hx with hx | hx <;> simp [hx])
        · exact .inr e
      · rw [if_neg hk] at hr ⊢
        rw [if_neg hk]
        simp only at hr ⊢
        have hl : (l.drop (half l.length)).length = l.length - half l.length := by rw [List.length_drop]
        rw [rootT_many (l := l) (by omega)] at hr
        rcases dg_or (L := textsT (l.take (half l.length)) ++ textsT (l.drop (half l.length)) ++ [jB [sNode, rootT (l.take (half l.length)), rootT (l.drop (half l.length))]] ++ (linkTextsT (l.length - half l.length) (m - half l.length) false old p.dropLast ++ [jB [sNode, popV p, (bothT (l.length - half l.length) (m - half l.length) false old p.dropLast).1], jB [sNode, popV p, (bothT (l.length - half l.length) (m - half l.length) false old p.dropLast).2]])) hr (by simp) (by simp) with e | e
        · rcases ih (l.length - half l.length) (by omega) (l.drop (half l.length)) hl (m - half l.length) false old p.dropLast (by omega) (by omega) (two_eq e).2 with r | r
          · left
            rw [r, (two_eq e).1, root_take (by omega) (by omega) hm]
          · exact .inr (r.mono fun x hx => by simp only [List.mem_append] at hx ⊢; rcases hx with hx | hx <;> simp [hx])
        · exact .inr e

def extT (old : ByteArray) (m : Int) (root : ByteArray) (n : Int) (p : List ByteArray) : Bool :=
  decide (0 ≤ m) && decide (m ≤ n) && decide (n ≤ 1000000) && isS old && isS root && p.all isS &&
    (if m = 0 then decide (p.length = 0) && decide (old = rootT []) && (decide (0 < n) || decide (root = old))
     else decide (p.length = longT n.toNat m.toNat true) && decide ((bothT n.toNat m.toNat true old p).1 = old) && decide ((bothT n.toNat m.toNat true old p).2 = root))
def linkR (l : List ByteArray) (m : Nat) : List ByteArray := if m = 0 then [] else linkT l m true
theorem ext_link (l : List ByteArray) (m : Nat) (hm : m ≤ l.length) (hl : l.length ≤ 1000000) : extT (rootT (l.take m)) m (rootT l) l.length (linkR l m) = true := by
  unfold extT linkR
  by_cases h0 : m = 0
  · subst h0
    simp only [isS_root]
    simp
    refine ⟨by omega, ?_⟩
    rcases Nat.eq_zero_or_pos l.length with e | e
    · right; rw [List.eq_nil_of_length_eq_zero e]; simp
    · left; omega
  · have hb := both_link l m true (rootT (l.take m)) (by omega) hm (fun _ => rfl)
    have h1 := link_length l m true
    have h2 := link_isS l m true
    rw [if_neg h0]
    simp only [isS_root, h2]
    rw [if_neg (by omega)]
    simp only [Int.toNat_natCast, hb, h1]
    simp
    omega
theorem linkR_empty (l : List ByteArray) (m : Nat) (hm : m ≤ l.length) : (linkR l m).length = 0 ↔ m = 0 ∨ m = l.length := by
  unfold linkR
  by_cases h0 : m = 0
  · simp [h0]
  · rw [if_neg h0, link_length]
    by_cases h1 : m = l.length
    · subst h1; simp [long_whole]
    · have := long_pos (n := l.length) (m := m) (by omega) (by omega)
      constructor
      · intro e; omega
      · intro e; omega
end Go.Proofs.YtpogffdbencfnaaGreatDoor
