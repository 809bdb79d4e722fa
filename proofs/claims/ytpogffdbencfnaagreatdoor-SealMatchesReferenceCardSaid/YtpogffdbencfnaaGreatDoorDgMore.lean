import Derived.Test.YtpogffdbencfnaaGreatDoorDgSum
import Derived.Lib.SlTrimSet
import Derived.Shelf.Strings.SlTrimAscii
set_option linter.unusedVariables false
namespace Go.Proofs.YtpogffdbencfnaaGreatDoor
open Go Go.RowKit

def bS (l : List UInt8) : ByteArray := ⟨l.toArray⟩
theorem bS_size (l : List UInt8) : (bS l).size = l.length := by rw [Lib.size_eq]; simp [bS]
theorem bS_list (l : List UInt8) : (bS l).data.toList = l := by simp [bS]
theorem list_bS (t : ByteArray) : bS t.data.toList = t := by apply ByteArray.ext; simp [bS]
theorem sumS_bS (l : List UInt8) : sumS (bS l) = bS (sumL l) := by unfold sumS; rw [bS_list]; rfl
theorem sumS_size (t : ByteArray) : (sumS t).size = 16 := by rw [Lib.size_eq]; simp [sumS, sumL_length]
def chainS (t : ByteArray) : Nat → ByteArray
  | 0 => t
  | n + 1 => sumS (chainS t n)
theorem chainS_bS (t : ByteArray) (n : Nat) : chainS t n = bS (chainL t.data.toList n) := by
  induction n with
  | zero => exact (list_bS t).symm
  | succ n ih => rw [chainS, ih, sumS_bS]; rfl
theorem chainS_size (t : ByteArray) (n : Nat) (h : t.size ≤ 4611686018427387904) : (chainS t n).size ≤ 4611686018427387904 := by
  cases n with
  | zero => exact h
  | succ n => rw [chainS, sumS_size]; decide
/-- how many digests Chain takes -/
def chainN (n : Int) : Nat := if n < 0 then 0 else if 1000 < n then 1000 else n.toNat
def chainI (n : Int) : Int := chainN n
/-! Is -/
def hexC : ByteArray := { data := #[48, 49, 50, 51, 52, 53, 54, 55, 56, 57, 97, 98, 99, 100, 101, 102] }
def isS (t : ByteArray) : Bool := isL t.data.toList
def trimC (t : ByteArray) : ByteArray := ⟨(Lib.trimS t.data.toList hexC.data.toList).toArray⟩
theorem trim_hex (t : ByteArray) (ht : t.size ≤ 9223372036854775807) (w : World) :
    Calls Tryz.prog 66 #[.string t, .string { data := #[48, 49, 50, 51, 52, 53, 54, 55, 56, 57, 97, 98, 99, 100, 101, 102] }] w fun e w' => e = .returned (.string (trimC t)) ∧ Below w.heap.size w w' :=
  Any.strings_Trim_laid Tryz.lays160 (by kernel_rfl) t hexC w ht (by decide) (ascii_of_all (by decide))
theorem all_hexC (c : UInt8) : hexC.data.toList.contains c = hexd c := by
  have : ∀ n : Fin 256, hexC.data.toList.contains (UInt8.ofNat n.val) = hexd (UInt8.ofNat n.val) := by decide +kernel
  have h := this ⟨c.toNat, UInt8.toNat_lt c⟩
  simpa using h
theorem dropWhile_nil (p : UInt8 → Bool) : ∀ l : List UInt8, l.dropWhile p = [] ↔ ∀ x ∈ l, p x = true
  | [] => by simp
  | a :: l => by
    rw [List.dropWhile_cons]
    by_cases ha : p a = true
    · rw [if_pos ha, dropWhile_nil p l]; simp [ha]
    · rw [if_neg ha]
      constructor
      · intro h; cases h
      · intro h; exact absurd (h a (List.mem_cons_self ..)) ha
theorem dropWhile_first (p : UInt8 → Bool) : ∀ {l : List UInt8} {a : UInt8} {r : List UInt8}, l.dropWhile p = a :: r → p a = false
  | [], _, _, h => by cases h
  | x :: l, a, r, h => by
    rw [List.dropWhile_cons] at h
    by_cases hx : p x = true
    · rw [if_pos hx] at h; exact dropWhile_first p h
    · rw [if_neg hx] at h
      injection h with h1 _
      subst h1
      simpa using hx
theorem trim_nil (l cs : List UInt8) : (Lib.trimS l cs = []) ↔ ∀ x ∈ l, cs.contains x = true := by
  unfold Lib.trimS Lib.trimLeftS Lib.trimRightS
  rw [dropWhile_nil]
  constructor
  · intro h x hx
    cases hr : l.reverse.dropWhile (cs.contains ·) with
    | nil =>
      rw [dropWhile_nil] at hr
      exact hr x (List.mem_reverse.2 hx)
    | cons a r =>
      exfalso
      have ha : cs.contains a = false := dropWhile_first _ hr
      have := h a (by rw [hr]; simp)
      rw [ha] at this
      cases this
  · intro h x hx
    have h1 := List.mem_reverse.1 hx
    exact h x (List.mem_reverse.1 ((List.dropWhile_sublist _).subset h1))
theorem isS_eq (t : ByteArray) (h : t.size = 16) : (trimC t).toList.isEmpty = isS t := by
  rw [← decide_eq_emptyBytes]
  have hb : (trimC t = ByteArray.empty) ↔ isS t = true := by
    have h1 : (trimC t = ByteArray.empty) ↔ Lib.trimS t.data.toList hexC.data.toList = [] := by
      constructor
      · intro e
        have := congrArg (fun b : ByteArray => b.data.toList) e
        simpa [trimC] using this
      · intro e
        unfold trimC; rw [e]; rfl
    rw [h1, trim_nil]
    unfold isS isL
    have : (t.data.toList.length == 16) = true := by rw [← Lib.size_eq]; simpa using h
    rw [this, Bool.true_and, List.all_eq_true]
    simp only [all_hexC]
  cases hi : isS t with
  | true => exact decide_eq_true (hb.2 hi)
  | false => exact decide_eq_false (fun e => by rw [hb.1 e] at hi; cases hi)
theorem isS_no (t : ByteArray) (h : t.size ≠ 16) : isS t = false := by
  unfold isS isL
  have : (t.data.toList.length == 16) = false := by rw [← Lib.size_eq]; simpa using h
  rw [this]; rfl
theorem is_calls (t : ByteArray) (ht : t.size ≤ 4611686018427387904) (w : World) :
    Calls Tryz.prog 38 #[.string t] w fun e w' => e = .returned (.bool (isS t)) ∧ Below w.heap.size w w' := by
  by_cases h : t.size = 16
  · have he := Lib.hid (isS_eq t h)
    go_enter Tryz.func38, Tryz.ntmps38
    go_wp2_with fail
    refine (trim_hex t (by omega) w).mono ?_
    rintro e w1 ⟨rfl, h1⟩
    go_wp2
    go_ret
    exact ⟨by rw [← he.out]; rfl, h1⟩
  · have hn := isS_no t h
    go_enter Tryz.func38, Tryz.ntmps38
    go_wp2
    go_ret
    exact ⟨by rw [hn]; rfl, Below.refl _ _⟩
end Go.Proofs.YtpogffdbencfnaaGreatDoor
