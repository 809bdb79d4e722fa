import Derived.Test.YtpogffdbencfnaaGreatDoorDgPlainC
import Derived.Lib.ItoaNum
import Derived.Lib.ItoaMem
set_option linter.unusedVariables false
namespace Go.Proofs.YtpogffdbencfnaaGreatDoor
open Go Go.RowKit

/-! lists, chains, the form of a digest -/
def joinL : List (List UInt8) → List UInt8
  | [] => []
  | s :: r => Lib.decDigits s.length ++ 58 :: (s ++ joinL r)
def chainL (t : List UInt8) : Nat → List UInt8
  | 0 => t
  | n + 1 => sumL (chainL t n)
def hexd (c : UInt8) : Bool := (48 ≤ c.toNat && c.toNat ≤ 57) || (97 ≤ c.toNat && c.toNat ≤ 102)
def isL (t : List UInt8) : Bool := t.length == 16 && t.all hexd

theorem chainL_succ (t : List UInt8) (n : Nat) : chainL t (n + 1) = sumL (chainL t n) := rfl
theorem chainL_add (t : List UInt8) (a b : Nat) : chainL (chainL t a) b = chainL t (a + b) := by
  induction b with
  | zero => rfl
  | succ b ih => rw [chainL_succ, ih, ← Nat.add_assoc, chainL_succ]
theorem chainL_tail (t : List UInt8) (n : Nat) : chainL (sumL t) n = chainL t (n + 1) := by
  rw [Nat.add_comm]; exact chainL_add t 1 n

theorem hexd_dig (n : Nat) (h : n < 16) : hexd (dig n) = true := by
  have : ∀ m : Fin 16, hexd (dig m.val) = true := by decide
  exact this ⟨n, h⟩
theorem low_hexd (k n : Nat) : (low k n).all hexd = true := by
  induction k with
  | zero => rfl
  | succ k ih => simp only [low, List.all_cons, ih, hexd_dig _ (Nat.mod_lt _ (by decide : 0 < 16)), Bool.and_self]
theorem isL_sum (t : List UInt8) : isL (sumL t) = true := by
  unfold isL
  rw [sumL_length]
  simp only [sumL, low_hexd]
  rfl
theorem isL_chain (t : List UInt8) (n : Nat) (h : 0 < n) : isL (chainL t n) = true := by
  obtain ⟨m, rfl⟩ : ∃ m, n = m + 1 := ⟨n - 1, by omega⟩
  exact isL_sum _

def decVal (l : List UInt8) : Nat := l.foldl (fun a c => a * 10 + (c.toNat - 48)) 0
theorem dec_toNat (n : Nat) (h : n < 10) : (UInt8.ofNat (48 + n)).toNat = 48 + n := by
  have : ∀ m : Fin 10, (UInt8.ofNat (48 + m.val)).toNat = 48 + m.val := by decide
  exact this ⟨n, h⟩
theorem decVal_dec (n : Nat) : decVal (Lib.decDigits n) = n := by
  induction n using Nat.strongRecOn with
  | _ n ih =>
    rw [Lib.decDigits]
    split
    · simp [decVal]; omega
    · have e := ih (n / 10) (by omega)
      unfold decVal at e ⊢
      rw [List.foldl_append, e]
      simp only [List.foldl_cons, List.foldl_nil, dec_toNat _ (Nat.mod_lt n (by decide : 0 < 10))]
      omega
theorem dec_inj {n m : Nat} (h : Lib.decDigits n = Lib.decDigits m) : n = m := by
  rw [← decVal_dec n, h, decVal_dec]
theorem dec_no58 (n : Nat) : ∀ c ∈ Lib.decDigits n, c ≠ 58 := by
  induction n using Nat.strongRecOn with
  | _ n ih =>
    rw [Lib.decDigits]
    have one : ∀ m, m < 10 → UInt8.ofNat (48 + m) ≠ 58 := by
      intro m hm e
      have := congrArg UInt8.toNat e
      rw [dec_toNat m hm] at this
      simp at this
      omega
    split
    · intro c hc
      simp only [List.mem_singleton] at hc
      subst hc
      exact one n (by assumption)
    · intro c hc
      rw [List.mem_append] at hc
      rcases hc with hc | hc
      · exact ih (n / 10) (by omega) c hc
      · simp only [List.mem_singleton] at hc
        subst hc
        exact one _ (Nat.mod_lt _ (by decide))
theorem split58 : ∀ {a b x y : List UInt8}, (∀ c ∈ a, c ≠ 58) → (∀ c ∈ b, c ≠ 58) → a ++ 58 :: x = b ++ 58 :: y → a = b ∧ x = y
  | [], [], x, y, _, _, h => ⟨rfl, by simpa using h⟩
  | [], b :: bs, x, y, _, hb, h => by
    simp only [List.nil_append, List.cons_append, List.cons.injEq] at h
    exact absurd h.1.symm (hb b (List.mem_cons_self ..))
  | a :: as, [], x, y, ha, _, h => by
    simp only [List.nil_append, List.cons_append, List.cons.injEq] at h
    exact absurd h.1 (ha a (List.mem_cons_self ..))
  | a :: as, b :: bs, x, y, ha, hb, h => by
    simp only [List.cons_append, List.cons.injEq] at h
    have := split58 (fun c hc => ha c (List.mem_cons_of_mem _ hc)) (fun c hc => hb c (List.mem_cons_of_mem _ hc)) h.2
    exact ⟨by rw [h.1, this.1], this.2⟩
theorem joinL_inj : ∀ {l m : List (List UInt8)}, joinL l = joinL m → l = m
  | [], [], _ => rfl
  | [], s :: r, h => by
    have := congrArg List.length h
    simp only [joinL, List.length_append, List.length_cons, List.length_nil] at this
    omega
  | s :: r, [], h => by
    have := congrArg List.length h
    simp only [joinL, List.length_append, List.length_cons, List.length_nil] at this
    omega
  | s :: r, u :: v, h => by
    simp only [joinL] at h
    have h1 := split58 (dec_no58 _) (dec_no58 _) h
    have h2 := List.append_inj h1.2 (dec_inj h1.1)
    rw [h2.1, joinL_inj h2.2]
theorem joinL_append (l m : List (List UInt8)) : joinL (l ++ m) = joinL l ++ joinL m := by
  induction l with
  | nil => rfl
  | cons s r ih => simp only [List.cons_append, joinL, ih, List.append_assoc]

/-- lists of one element of at most 9 bytes, of one length, alike in their first 6 -/
theorem one_inj {a b : List UInt8} (hl : a.length = b.length) (h9 : a.length ≤ 9) (h6 : a.take 6 = b.take 6) (h : sumL (joinL [a]) = sumL (joinL [b])) : a = b := by
  have hd : ∀ t : List UInt8, t.length ≤ 9 → joinL [t] = UInt8.ofNat (48 + t.length) :: 58 :: t := by
    intro t ht
    simp only [joinL, List.append_nil]
    rw [Lib.decDigits, dif_pos (by omega)]
    rfl
  have hbl : b.length ≤ 9 := by omega
  have e := block_inj (t := joinL [a]) (u := joinL [b]) (by rw [hd a h9, hd b hbl]; simp [hl]) 1 (fun i hi => by
    rw [hd a h9, hd b hbl, hl]
    match i with
    | 0 => rfl
    | 1 => rfl
    | i + 2 =>
      unfold byteAt
      simp only [List.getElem?_cons_succ]
      by_cases hi6 : i < 6
      · have := congrArg (fun l => l[i]?) h6
        simp only [List.getElem?_take_of_lt hi6] at this
        rw [this]
      · rw [List.getElem?_eq_none (by omega), List.getElem?_eq_none (by omega)]) h
  have := joinL_inj e
  simpa using this
end Go.Proofs.YtpogffdbencfnaaGreatDoor
