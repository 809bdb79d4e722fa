import Derived.Test.YtpogffdbencfnaaGreatDoorSlOwn
import Derived.Test.YtpogffdbencfnaaGreatDoorSlWalkC
set_option linter.unusedVariables false
namespace Go.Proofs.YtpogffdbencfnaaGreatDoor
open Go Go.RowKit

def partT (secret : ByteArray) (n i k : Nat) : List ByteArray := (List.range k).flatMap fun k => startJ secret i k :: chainedT (startT secret i k) n
def outT (secret : ByteArray) (n i : Nat) : List ByteArray := (List.range i).flatMap (madeKey secret n)
def lvlT (secret : ByteArray) (i : Nat) : List ByteArray := (List.range i).map fun j => leafR (keyT secret j)
theorem partT_succ (secret : ByteArray) (n i k : Nat) : partT secret n i (k + 1) = partT secret n i k ++ ([startJ secret i k] ++ chainedT (startT secret i k) n) := by
  unfold partT
  rw [List.range_succ, List.flatMap_append]
  simp
theorem outT_succ (secret : ByteArray) (n i : Nat) : outT secret n (i + 1) = outT secret n i ++ (partT secret n i 18 ++ [jB (endsT secret i), jB [sLeaf, keyT secret i]]) := by
  unfold outT
  rw [List.range_succ, List.flatMap_append]
  simp [madeKey, partT]
theorem lvlT_succ (secret : ByteArray) (i : Nat) : lvlT secret (i + 1) = lvlT secret i ++ [leafR (keyT secret i)] := by
  unfold lvlT
  rw [List.range_succ, List.map_append]
  rfl
theorem partT_len (secret : ByteArray) (n i k : Nat) : (partT secret n i k).length = k * (n + 2) := by
  induction k with
  | zero => simp [partT]
  | succ k ih => rw [partT_succ]; simp [ih, chainedT]; rw [Nat.add_mul]; omega
theorem outT_len (secret : ByteArray) (n i : Nat) : (outT secret n i).length = i * (18 * (n + 2) + 2) := by
  induction i with
  | zero => simp [outT]
  | succ i ih =>
    rw [outT_succ, List.length_append, List.length_append, ih, partT_len, Nat.add_mul]
    simp only [List.length_cons, List.length_nil]
    omega
theorem lvlT_all (secret : ByteArray) (h : Nat) : lvlT secret (2 ^ h) = (keysT secret h).map leafR := by
  unfold lvlT keysT
  rw [List.map_map]; rfl
theorem strc_idx {w : World} {v : Value} {l : List ByteArray} (h : IsStrC w v l) (i : Nat) (hi : i < l.length) : ∃ b o cap, v = .slice (some ⟨b, o, none⟩) l.length cap ∧ w.cell? ⟨b, o + i, none⟩ = some (.string (l.getD i ByteArray.empty)) := by
  obtain ⟨ao, cap, e, _, _, hc⟩ := h
  obtain ⟨b, o, rfl, _, hcl⟩ := hc i hi
  exact ⟨b, o, cap, e, hcl⟩
theorem jB_eq (l : List ByteArray) : bS (joinB l) = jB l := rfl
theorem sum_jB (l : List ByteArray) : sumS (jB l) = dg l := rfl
theorem pairD_size : ∀ (L : List ByteArray), ∀ s ∈ pairD L, s.size ≤ 1099511627776
  | [], s, h => by simp [pairD] at h
  | [a], s, h => by simp [pairD] at h
  | a :: b :: r, s, h => by
    simp only [pairD, List.mem_cons] at h
    rcases h with rfl | h
    · rw [dg_size]; omega
    · exact pairD_size r s h
theorem pairJ_step : ∀ (m : Nat) (L : List ByteArray), 2 * m + 1 < L.length →
    (pairJ L).take (m + 1) = (pairJ L).take m ++ [jB [sNode, L.getD (2 * m) ByteArray.empty, L.getD (2 * m + 1) ByteArray.empty]] ∧
    (pairD L).take (m + 1) = (pairD L).take m ++ [dg [sNode, L.getD (2 * m) ByteArray.empty, L.getD (2 * m + 1) ByteArray.empty]]
  | 0, a :: b :: r, _ => by simp [pairJ, pairD, List.getD]
  | m + 1, a :: b :: r, h => by
    have := pairJ_step m r (by simp at h; omega)
    rw [pairJ, pairD, List.take_succ_cons, List.take_succ_cons, List.take_succ_cons, List.take_succ_cons, this.1, this.2]
    rw [show 2 * (m + 1) = 2 * m + 1 + 1 by omega]
    simp [List.getD]
theorem pairJ_len : ∀ (L : List ByteArray), (pairJ L).length = L.length / 2
  | [] => rfl
  | [a] => by simp [pairJ]
  | a :: b :: r => by
    have := pairJ_len r
    simp only [pairJ, List.length_cons]
    omega
theorem nodesJ_len : ∀ (h : Nat) (L : List ByteArray), (nodesJ h L).length ≤ h * L.length
  | 0, L => by simp [nodesJ]
  | h + 1, L => by
    have := nodesJ_len h (pairD L)
    rw [pairD_len] at this
    have h2 : h * (L.length / 2) ≤ h * L.length := Nat.mul_le_mul_left _ (Nat.div_le_self _ _)
    rw [nodesJ, List.length_append, pairJ_len, Nat.add_mul]
    omega
theorem endsT_le (secret : ByteArray) (i : Nat) : needN (endsT secret i) ≤ 70368744177664 ∧ (joinB (endsT secret i)).length ≤ 70368744177664 := by
  have hl : (endsT secret i).length = 18 := by simp [endsT]
  have h1 := need_le 16 (endsT secret i) (fun s h => by rw [endsT_size secret i s h]; omega)
  have h2 := join_le 16 (endsT secret i) (fun s h => by rw [endsT_size secret i s h]; omega) (by decide)
  rw [hl] at h1 h2
  omega
theorem startJ_size (secret : ByteArray) (i k : Nat) (hs : secret.size ≤ 300) (hi : i ≤ 1000) (hk : k ≤ 1000) : (startJ secret i k).size ≤ 4611686018427387904 := by
  have h1 := join_le 300 [secret, decS i, decS k] (by
    have a : (decS i).size ≤ 21 := itoaS_le i (by omega)
    have b : (decS k).size ≤ 21 := itoaS_le k (by omega)
    simp
    omega) (by decide)
  have : (startJ secret i k).size = (joinB [secret, decS i, decS k]).length := by unfold startJ jB; rw [Lib.size_eq]; simp [bS]
  rw [this]
  simp at h1
  omega
theorem jB_small (l : List ByteArray) (M : Nat) (h : ∀ s ∈ l, s.size ≤ M) (hM : M ≤ 1000) (hl : l.length ≤ 100) : (jB l).size ≤ 1099511627776 := by
  have h1 := join_le M l h (by omega)
  have : (jB l).size = (joinB l).length := by unfold jB; rw [Lib.size_eq]; simp [bS]
  rw [this]
  have := Nat.mul_le_mul (show M + 21 ≤ 1021 by omega) hl
  omega
theorem jB_big (a b : ByteArray) (ha : a.size ≤ 1099511627776) (hb : b.size ≤ 1099511627776) : (jB [sNode, a, b]).size ≤ 4611686018427387904 := by
  have h1 := join_le 1099511627776 [sNode, a, b] (by simp; exact ⟨by decide, ha, hb⟩) (Nat.le_refl _)
  have : (jB [sNode, a, b]).size = (joinB [sNode, a, b]).length := by unfold jB; rw [Lib.size_eq]; simp [bS]
  rw [this]
  simp at h1
  omega
theorem keyT_eq (secret : ByteArray) (i : Nat) : sumS (jB (endsT secret i)) = keyT secret i := rfl
theorem strc_cellM {w : World} {b o n cap : Nat} {l : List ByteArray} (h : IsStrC w (.slice (some ⟨b, o, none⟩) n cap) l) (i : Nat) (hi : i < l.length) : w.cell? ⟨b, o + i, none⟩ = some (.string (l.getD i ByteArray.empty)) := by
  obtain ⟨ao, c, e, _, _, hc⟩ := h
  obtain ⟨b', o', rfl, _, hcl⟩ := hc i hi
  simp only [Value.slice.injEq, Option.some.injEq, Addr.mk.injEq] at e
  obtain ⟨⟨rfl, rfl, _⟩, _, _⟩ := e
  exact hcl
theorem Own3.next {B : Nat} {w0 W : World} {a b c : Value} {la lb lc : List ByteArray} (h : Own3 B w0 W a la b lb c lc) : Own3 B w0 W a la c lc (.slice none 0 0) [] :=
  ⟨h.oa, h.oc, Own.nil _ _, h.ac, Apart.nilr _, Apart.nilr _, h.below⟩
theorem chainedT_at (t : ByteArray) (n : Nat) (h : 15 ≤ n) : (chainedT t n).getD 15 ByteArray.empty = chainS t 15 := by
  simp [chainedT, List.getD, show 15 < n + 1 by omega]
end Go.Proofs.YtpogffdbencfnaaGreatDoor
