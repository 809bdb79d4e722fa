import Derived.Test.YtpogffdbencfnaaGreatDoorTrPlainB
import Derived.Test.YtpogffdbencfnaaGreatDoorDgMore
set_option linter.unusedVariables false
namespace Go.Proofs.YtpogffdbencfnaaGreatDoor
open Go Go.RowKit

/-! seals: what the functions compute -/
def decS (n : Nat) : ByteArray := itoaS n
theorem decS_inj {a b : Nat} (h : decS a = decS b) : a = b := by
  unfold decS itoaS at h
  have := congrArg (fun x : ByteArray => x.data.toList) h
  exact dec_inj this
/-- the value of a hexadecimal digit -/
def digN (c : UInt8) : Nat := if c.toNat ≤ 57 then c.toNat - 48 else c.toNat - 87
theorem digN_lt {c : UInt8} (h : hexd c = true) : digN c ≤ 15 := by
  unfold hexd at h
  unfold digN
  simp only [Bool.or_eq_true, Bool.and_eq_true, decide_eq_true_eq] at h
  split <;> omega
theorem digN_inj {a b : UInt8} (ha : hexd a = true) (hb : hexd b = true) (h : digN a = digN b) : a = b := by
  unfold hexd at ha hb
  unfold digN at h
  simp only [Bool.or_eq_true, Bool.and_eq_true, decide_eq_true_eq] at ha hb
  apply UInt8.toNat_inj.1
  split at h <;> split at h <;> omega
def hexDigs (m : ByteArray) : List Nat := (sumS m).data.toList.map digN
def restOf (l : List Nat) : Nat := (l.map fun d => 15 - d).sum
def digsT (m : ByteArray) : List Nat := hexDigs m ++ [restOf (hexDigs m) / 16, restOf (hexDigs m) % 16]
theorem sumS_list (m : ByteArray) : (sumS m).data.toList.length = 16 ∧ ∀ c ∈ (sumS m).data.toList, hexd c = true := by
  have := isS_sumS m
  unfold isS isL at this
  simp only [Bool.and_eq_true, beq_iff_eq, List.all_eq_true] at this
  exact this
theorem hexDigs_len (m : ByteArray) : (hexDigs m).length = 16 := by unfold hexDigs; rw [List.length_map]; exact (sumS_list m).1
theorem hexDigs_le (m : ByteArray) : ∀ d ∈ hexDigs m, d ≤ 15 := by
  intro d hd
  obtain ⟨c, hc, rfl⟩ := List.mem_map.1 hd
  exact digN_lt ((sumS_list m).2 c hc)
theorem rest_le : ∀ l : List Nat, restOf l ≤ 15 * l.length
  | [] => Nat.le_refl _
  | d :: r => by
    have := rest_le r
    unfold restOf at this ⊢
    simp only [List.map_cons, List.sum_cons, List.length_cons]
    omega
theorem digsT_len (m : ByteArray) : (digsT m).length = 18 := by unfold digsT; rw [List.length_append, hexDigs_len]; rfl
theorem digsT_le (m : ByteArray) : ∀ d ∈ digsT m, d ≤ 15 := by
  intro d hd
  have hr := rest_le (hexDigs m)
  rw [hexDigs_len] at hr
  unfold digsT at hd
  simp only [List.mem_append, List.mem_cons, List.not_mem_nil, or_false] at hd
  rcases hd with hd | hd | hd
  · exact hexDigs_le m d hd
  · omega
  · omega
theorem map_inj_on {α β : Type} {f : α → β} {p : α → Prop} (hf : ∀ a b, p a → p b → f a = f b → a = b) : ∀ {l m : List α}, (∀ a ∈ l, p a) → (∀ a ∈ m, p a) → l.map f = m.map f → l = m
  | [], [], _, _, _ => rfl
  | [], _ :: _, _, _, h => by simp at h
  | _ :: _, [], _, _, h => by simp at h
  | a :: l, b :: m, h1, h2, h => by
    simp only [List.map_cons, List.cons.injEq] at h
    rw [hf a b (h1 a (List.mem_cons_self ..)) (h2 b (List.mem_cons_self ..)) h.1, map_inj_on hf (fun x hx => h1 x (List.mem_cons_of_mem _ hx)) (fun x hx => h2 x (List.mem_cons_of_mem _ hx)) h.2]
theorem digsT_inj {m o : ByteArray} (h : digsT m = digsT o) : sumS m = sumS o := by
  unfold digsT at h
  have := (List.append_inj h (by rw [hexDigs_len, hexDigs_len])).1
  unfold hexDigs at this
  have := map_inj_on (p := fun c => hexd c = true) (fun a b => digN_inj) (sumS_list m).2 (sumS_list o).2 this
  exact ByteArray.ext (Array.toList_inj.1 this)
theorem digs_diff {m o : ByteArray} (h : sumS m ≠ sumS o) : ∃ k, k < 18 ∧ (digsT m).getD k 0 ≠ (digsT o).getD k 0 := by
  apply Classical.byContradiction
  intro hn
  apply h
  apply digsT_inj
  apply List.ext_getElem
  · rw [digsT_len, digsT_len]
  · intro k h1 h2
    apply Classical.byContradiction
    intro hne
    exact hn ⟨k, by rw [digsT_len] at h1; exact h1, by simp [List.getD, h1, h2]; exact hne⟩

/-! chains -/
theorem chainS_add (t : ByteArray) (a b : Nat) : chainS (chainS t a) b = chainS t (a + b) := by
  induction b with
  | zero => rfl
  | succ b ih => rw [chainS, ih, ← Nat.add_assoc, chainS]
theorem chainS_tail (t : ByteArray) (n : Nat) : chainS (sumS t) n = chainS t (n + 1) := by
  rw [Nat.add_comm]; exact chainS_add t 1 n
theorem chain_down {L : List ByteArray} (s t : ByteArray) : ∀ a, (∀ j, j < a → chainS s j ∈ L) → (∀ j, j < a → chainS t j ∈ L) → chainS s a = chainS t a → s = t ∨ Clash L
  | 0, _, _, h => .inl h
  | a + 1, hs, ht, h => by
    by_cases e : chainS s a = chainS t a
    · exact chain_down s t a (fun j hj => hs j (by omega)) (fun j hj => ht j (by omega)) e
    · exact .inr ⟨_, _, hs a (by omega), ht a (by omega), e, h⟩

def startJ (secret : ByteArray) (i k : Nat) : ByteArray := jB [secret, decS i, decS k]
def startT (secret : ByteArray) (i k : Nat) : ByteArray := dg [secret, decS i, decS k]
theorem startT_eq (secret : ByteArray) (i k : Nat) : startT secret i k = sumS (startJ secret i k) := rfl
def endsT (secret : ByteArray) (i : Nat) : List ByteArray := (List.range 18).map fun k => chainS (startT secret i k) 15
def keyT (secret : ByteArray) (i : Nat) : ByteArray := dg (endsT secret i)
def keysT (secret : ByteArray) (h : Nat) : List ByteArray := (List.range (2 ^ h)).map (keyT secret)
def pubT (secret : ByteArray) (h : Nat) : ByteArray := rootT (keysT secret h)
def sigT (secret : ByteArray) (i : Nat) (m : ByteArray) : List ByteArray := (List.range 18).map fun k => chainS (startT secret i k) ((digsT m).getD k 0)
/-- the ends of a seal's chains -/
def sealEnds (m : ByteArray) (sig : List ByteArray) : List ByteArray := (List.range 18).map fun k => chainS (sig.getD k ByteArray.empty) (15 - (digsT m).getD k 0)
def verT (pub m : ByteArray) (idx : Int) (sig path : List ByteArray) : Bool :=
  decide (sig.length = 18) && decide (path.length ≤ 8) && sig.all isS && path.all isS && decide (0 ≤ idx) && decide (idx < ((2 ^ path.length : Nat) : Int)) &&
    checkT pub ((2 ^ path.length : Nat) : Int) idx (dg (sealEnds m sig)) path
theorem keysT_len (secret : ByteArray) (h : Nat) : (keysT secret h).length = 2 ^ h := by simp [keysT]
theorem keysT_at (secret : ByteArray) (h i : Nat) (hi : i < 2 ^ h) : (keysT secret h).getD i ByteArray.empty = keyT secret i := by
  simp [keysT, List.getD, hi]
theorem sigT_len (secret : ByteArray) (i : Nat) (m : ByteArray) : (sigT secret i m).length = 18 := by simp [sigT]
theorem sigT_at (secret : ByteArray) (i : Nat) (m : ByteArray) (k : Nat) (hk : k < 18) : (sigT secret i m).getD k ByteArray.empty = chainS (startT secret i k) ((digsT m).getD k 0) := by
  simp [sigT, List.getD, hk]
theorem dig_le (m : ByteArray) (k : Nat) : (digsT m).getD k 0 ≤ 15 := by
  by_cases hk : k < (digsT m).length
  · rw [show (digsT m).getD k 0 = (digsT m)[k] by simp [List.getD, hk]]; exact digsT_le m _ (List.getElem_mem hk)
  · rw [show (digsT m).getD k 0 = 0 by simp [List.getD, Nat.le_of_not_lt hk]]; omega
theorem ends_sig (secret : ByteArray) (i : Nat) (m : ByteArray) : sealEnds m (sigT secret i m) = endsT secret i := by
  unfold sealEnds endsT
  apply List.map_congr_left
  intro k hk
  have hk := List.mem_range.1 hk
  have := dig_le m k
  rw [sigT_at secret i m k hk, chainS_add, show (digsT m).getD k 0 + (15 - (digsT m).getD k 0) = 15 by omega]

/-! powers of two -/
theorem half_two_pow (n : Nat) : half (2 ^ (n + 1)) = 2 ^ n := by
  have hp := Nat.pow_pos (n := n) (show 0 < 2 by decide)
  have h2 : 2 ≤ 2 ^ (n + 1) := by rw [Nat.pow_succ]; omega
  obtain ⟨j, hj⟩ := half_pow (2 ^ (n + 1))
  have h1 := half_lt h2
  have h3 := half_two h2
  rw [hj] at h1 h3 ⊢
  exact pow_uniq (m := 2 ^ (n + 1)) h1 h3 (by rw [Nat.pow_succ]; omega) (by rw [Nat.pow_succ]; omega)
theorem two_pow_le (n : Nat) : 2 ≤ 2 ^ (n + 1) := by have := Nat.pow_pos (n := n) (show 0 < 2 by decide); rw [Nat.pow_succ]; omega
theorem lenT_pow : ∀ (n i : Nat), i < 2 ^ n → lenT (2 ^ n) i = n
  | 0, i, hi => by rw [lenT, dif_pos (by decide)]
  | n + 1, i, hi => by
    have := two_pow_le n
    rw [lenT, dif_neg (by omega), half_two_pow]
    have hs : 2 ^ (n + 1) - 2 ^ n = 2 ^ n := by rw [Nat.pow_succ]; omega
    split
    · rw [lenT_pow n i (by assumption)]; omega
    · rw [hs, lenT_pow n (i - 2 ^ n) (by rw [Nat.pow_succ] at hi; omega)]; omega
theorem dg_nodes {a b c d : ByteArray} {L : List ByteArray} (h : dg [sNode, a, b] = dg [sNode, c, d]) (h1 : jB [sNode, a, b] ∈ L) (h2 : jB [sNode, c, d] ∈ L) : (a = c ∧ b = d) ∨ Clash L := by
  rcases dg_or h h1 h2 with e | e
  · exact .inl (two_eq e)
  · exact .inr e
theorem leaf_node {a b c : ByteArray} {L : List ByteArray} (h : dg [sLeaf, a] = dg [sNode, b, c]) (h1 : jB [sLeaf, a] ∈ L) (h2 : jB [sNode, b, c] ∈ L) : Clash L := by
  rcases dg_or h h1 h2 with e | e
  · simp at e
  · exact e
theorem last_split {p : List ByteArray} (h : 0 < p.length) : p.dropLast ++ [popV p] = p := by
  have hne : p ≠ [] := by intro e; rw [e] at h; simp at h
  have : popV p = p.getLast hne := by simp [popV, List.getLast?_eq_some_getLast hne]
  rw [this]; exact List.dropLast_concat_getLast hne
/-- what is accepted is the path, or two texts with one digest are shown -/
theorem accept : ∀ (h n : Nat) (l : List ByteArray) (i : Nat) (key : ByteArray) (p : List ByteArray), l.length = 2 ^ h → p.length = n → i < 2 ^ n → upT (2 ^ n) i (dg [sLeaf, key]) p = rootT l →
    (n = h ∧ key = l.getD i ByteArray.empty ∧ p = pathT l i) ∨ Clash (textsT l ++ pathTextsT (2 ^ n) i key p)
  | 0, 0, l, i, key, p, hl, hp, hi, hu => by
    match l, hl with
    | [x], _ =>
      have hi0 : i = 0 := by simpa using hi
      subst hi0
      rw [upT, dif_pos (by decide), rootT_one] at hu
      rw [textsT_one, pathTextsT, dif_pos (by decide)]
      have hp0 : p = [] := List.eq_nil_of_length_eq_zero hp
      rcases dg_or (L := [jB [sLeaf, x]] ++ [jB [sLeaf, key]]) hu (by simp) (by simp) with e | e
      · left
        refine ⟨rfl, by simpa using e, ?_⟩
        rw [hp0, pathT, dif_pos (show [x].length ≤ 1 from Nat.le_refl 1)]
      · exact .inr e
  | 0, n + 1, l, i, key, p, hl, hp, hi, hu => by
    match l, hl with
    | [x], _ =>
      right
      have := two_pow_le n
      rw [upT, dif_neg (by omega), rootT_one] at hu
      rw [textsT_one, pathTextsT, dif_neg (by omega)]
      split at hu
      · rename_i hk
        rw [if_pos hk]
        exact leaf_node hu.symm (by simp) (by simp)
      · rename_i hk
        rw [if_neg hk]
        exact leaf_node hu.symm (by simp) (by simp)
  | h + 1, 0, l, i, key, p, hl, hp, hi, hu => by
    right
    have := two_pow_le h
    rw [upT, dif_pos (by decide), rootT_many (by omega)] at hu
    rw [textsT_many (by omega), pathTextsT, dif_pos (by decide)]
    exact leaf_node hu (by simp) (by simp)
  | h + 1, n + 1, l, i, key, p, hl, hp, hi, hu => by
    have h2 := two_pow_le h
    have n2 := two_pow_le n
    have hln : half l.length = 2 ^ h := by rw [hl, half_two_pow]
    have hs : 2 ^ (n + 1) - 2 ^ n = 2 ^ n := by rw [Nat.pow_succ]; omega
    have hpd : p.dropLast.length = n := by rw [List.length_dropLast, hp]; rfl
    have hspl := last_split (p := p) (by omega)
    have ht : (l.take (2 ^ h)).length = 2 ^ h := by rw [List.length_take, hl, Nat.pow_succ]; omega
    have hd : (l.drop (2 ^ h)).length = 2 ^ h := by rw [List.length_drop, hl, Nat.pow_succ]; omega
    rw [upT, dif_neg (by omega), half_two_pow, rootT_many (by omega), hln] at hu
    rw [textsT_many (by omega), hln, pathTextsT, dif_neg (by omega), half_two_pow]
    by_cases hk : i < 2 ^ n
    · rw [if_pos hk] at hu ⊢
      rcases dg_nodes (L := textsT (l.take (2 ^ h)) ++ textsT (l.drop (2 ^ h)) ++ [jB [sNode, rootT (l.take (2 ^ h)), rootT (l.drop (2 ^ h))]] ++ (pathTextsT (2 ^ n) i key p.dropLast ++ [jB [sNode, upT (2 ^ n) i (dg [sLeaf, key]) p.dropLast, popV p]])) hu (by simp) (by simp) with ⟨e1, e2⟩ | e
      · rcases accept h n (l.take (2 ^ h)) i key p.dropLast ht hpd hk e1 with ⟨rfl, r2, r3⟩ | r
        · left
          refine ⟨rfl, ?_, ?_⟩
          · rw [r2]; simp [List.getD, List.getElem?_take_of_lt hk]
          · rw [pathT, dif_neg (by omega), hln, if_pos hk, ← r3, ← e2]; exact hspl.symm
        · exact .inr (r.mono fun x hx => by simp only [List.mem_append] at hx ⊢; rcases hx with hx | hx <;> simp [hx])
      · exact .inr e
    · rw [if_neg hk] at hu ⊢
      rw [hs] at hu ⊢
      rcases dg_nodes (L := textsT (l.take (2 ^ h)) ++ textsT (l.drop (2 ^ h)) ++ [jB [sNode, rootT (l.take (2 ^ h)), rootT (l.drop (2 ^ h))]] ++ (pathTextsT (2 ^ n) (i - 2 ^ n) key p.dropLast ++ [jB [sNode, popV p, upT (2 ^ n) (i - 2 ^ n) (dg [sLeaf, key]) p.dropLast]])) hu (by simp) (by simp) with ⟨e1, e2⟩ | e
      · rcases accept h n (l.drop (2 ^ h)) (i - 2 ^ n) key p.dropLast hd hpd (by rw [Nat.pow_succ] at hi; omega) e2 with ⟨rfl, r2, r3⟩ | r
        · left
          refine ⟨rfl, ?_, ?_⟩
          · rw [r2]; simp only [List.getD, List.getElem?_drop]; rw [show 2 ^ n + (i - 2 ^ n) = i by omega]
          · rw [pathT, dif_neg (by omega), hln, if_neg hk, ← r3, ← e1]; exact hspl.symm
        · exact .inr (r.mono fun x hx => by simp only [List.mem_append] at hx ⊢; rcases hx with hx | hx <;> simp [hx])
      · exact .inr e
end Go.Proofs.YtpogffdbencfnaaGreatDoor

namespace Go.Proofs.YtpogffdbencfnaaGreatDoor
open Go Go.RowKit

/-! the texts that are digested -/
def chainedT (t : ByteArray) (n : Nat) : List ByteArray := (List.range (n + 1)).map (chainS t)
theorem chained_mem (t : ByteArray) (n j : Nat) (h : j ≤ n) : chainS t j ∈ chainedT t n := List.mem_map.2 ⟨j, List.mem_range.2 (by omega), rfl⟩
def madeKey (secret : ByteArray) (n i : Nat) : List ByteArray :=
  (List.range 18).flatMap (fun k => startJ secret i k :: chainedT (startT secret i k) n) ++ [jB (endsT secret i), jB [sLeaf, keyT secret i]]
def pairJ : List ByteArray → List ByteArray
  | a :: b :: r => jB [sNode, a, b] :: pairJ r
  | _ => []
def pairD : List ByteArray → List ByteArray
  | a :: b :: r => dg [sNode, a, b] :: pairD r
  | _ => []
def nodesJ : Nat → List ByteArray → List ByteArray
  | 0, _ => []
  | h + 1, L => pairJ L ++ nodesJ h (pairD L)
def leafR (x : ByteArray) : ByteArray := dg [sLeaf, x]
def leafJ (x : ByteArray) : ByteArray := jB [sLeaf, x]
def madeT (secret : ByteArray) (h n : Nat) : List ByteArray := (List.range (2 ^ h)).flatMap (madeKey secret n) ++ nodesJ h ((keysT secret h).map leafR)
def buJ : ByteArray → Nat → List ByteArray → List ByteArray
  | _, _, [] => []
  | d, i, x :: r => if i % 2 = 1 then jB [sNode, x, d] :: buJ (dg [sNode, x, d]) (i / 2) r else jB [sNode, d, x] :: buJ (dg [sNode, d, x]) (i / 2) r
def buD : ByteArray → Nat → List ByteArray → ByteArray
  | d, _, [] => d
  | d, i, x :: r => if i % 2 = 1 then buD (dg [sNode, x, d]) (i / 2) r else buD (dg [sNode, d, x]) (i / 2) r
def checkedT (m : ByteArray) (idx : Nat) (sig path : List ByteArray) : List ByteArray :=
  (List.range 18).flatMap (fun k => chainedT (sig.getD k ByteArray.empty) (15 - (digsT m).getD k 0)) ++ [jB (sealEnds m sig), jB [sLeaf, dg (sealEnds m sig)]] ++ buJ (dg [sLeaf, dg (sealEnds m sig)]) idx path

theorem made_start {secret : ByteArray} {h n i k : Nat} (hi : i < 2 ^ h) (hk : k < 18) : startJ secret i k ∈ madeT secret h n := by
  unfold madeT madeKey
  refine List.mem_append_left _ (List.mem_flatMap.2 ⟨i, List.mem_range.2 hi, List.mem_append_left _ (List.mem_flatMap.2 ⟨k, List.mem_range.2 hk, List.mem_cons_self ..⟩)⟩)
theorem made_chain {secret : ByteArray} {h n i k j : Nat} (hi : i < 2 ^ h) (hk : k < 18) (hj : j ≤ n) : chainS (startT secret i k) j ∈ madeT secret h n := by
  unfold madeT madeKey
  refine List.mem_append_left _ (List.mem_flatMap.2 ⟨i, List.mem_range.2 hi, List.mem_append_left _ (List.mem_flatMap.2 ⟨k, List.mem_range.2 hk, List.mem_cons_of_mem _ (chained_mem _ _ _ hj)⟩)⟩)
theorem made_ends {secret : ByteArray} {h n i : Nat} (hi : i < 2 ^ h) : jB (endsT secret i) ∈ madeT secret h n := by
  unfold madeT madeKey
  refine List.mem_append_left _ (List.mem_flatMap.2 ⟨i, List.mem_range.2 hi, List.mem_append_right _ (by simp)⟩)
theorem made_leaf {secret : ByteArray} {h n i : Nat} (hi : i < 2 ^ h) : jB [sLeaf, keyT secret i] ∈ madeT secret h n := by
  unfold madeT madeKey
  refine List.mem_append_left _ (List.mem_flatMap.2 ⟨i, List.mem_range.2 hi, List.mem_append_right _ (by simp)⟩)
theorem checked_chain {m : ByteArray} {idx : Nat} {sig path : List ByteArray} {k j : Nat} (hk : k < 18) (hj : j ≤ 15 - (digsT m).getD k 0) : chainS (sig.getD k ByteArray.empty) j ∈ checkedT m idx sig path := by
  unfold checkedT
  exact List.mem_append_left _ (List.mem_append_left _ (List.mem_flatMap.2 ⟨k, List.mem_range.2 hk, chained_mem _ _ _ hj⟩))
theorem checked_ends {m : ByteArray} {idx : Nat} {sig path : List ByteArray} : jB (sealEnds m sig) ∈ checkedT m idx sig path := by
  unfold checkedT
  exact List.mem_append_left _ (List.mem_append_right _ (by simp))

/-! levels, from the bottom -/
theorem pairD_take : ∀ (m : Nat) (R : List ByteArray), (pairD R).take m = pairD (R.take (2 * m))
  | 0, R => by simp [pairD]
  | m + 1, [] => by simp [pairD]
  | m + 1, [a] => by simp [pairD, show 2 * (m + 1) = 2 * m + 1 + 1 by omega]
  | m + 1, a :: b :: r => by
    rw [show 2 * (m + 1) = 2 * m + 1 + 1 by omega, List.take_succ_cons, List.take_succ_cons, pairD, pairD, List.take_succ_cons, pairD_take m r]
theorem pairD_drop : ∀ (m : Nat) (R : List ByteArray), (pairD R).drop m = pairD (R.drop (2 * m))
  | 0, R => by simp
  | m + 1, [] => by simp [pairD]
  | m + 1, [a] => by simp [pairD, show 2 * (m + 1) = 2 * m + 1 + 1 by omega]
  | m + 1, a :: b :: r => by
    rw [show 2 * (m + 1) = 2 * m + 1 + 1 by omega, List.drop_succ_cons, List.drop_succ_cons, pairD, List.drop_succ_cons, pairD_drop m r]
theorem pairJ_take : ∀ (m : Nat) (R : List ByteArray), (pairJ R).take m = pairJ (R.take (2 * m))
  | 0, R => by simp [pairJ]
  | m + 1, [] => by simp [pairJ]
  | m + 1, [a] => by simp [pairJ, show 2 * (m + 1) = 2 * m + 1 + 1 by omega]
  | m + 1, a :: b :: r => by
    rw [show 2 * (m + 1) = 2 * m + 1 + 1 by omega, List.take_succ_cons, List.take_succ_cons, pairJ, pairJ, List.take_succ_cons, pairJ_take m r]
theorem pairJ_drop : ∀ (m : Nat) (R : List ByteArray), (pairJ R).drop m = pairJ (R.drop (2 * m))
  | 0, R => by simp
  | m + 1, [] => by simp [pairJ]
  | m + 1, [a] => by simp [pairJ, show 2 * (m + 1) = 2 * m + 1 + 1 by omega]
  | m + 1, a :: b :: r => by
    rw [show 2 * (m + 1) = 2 * m + 1 + 1 by omega, List.drop_succ_cons, List.drop_succ_cons, pairJ, List.drop_succ_cons, pairJ_drop m r]
theorem pairD_len : ∀ (R : List ByteArray), (pairD R).length = R.length / 2
  | [] => rfl
  | [a] => by simp [pairD]
  | a :: b :: r => by
    have := pairD_len r
    simp only [pairD, List.length_cons]
    omega
def rootR : Nat → List ByteArray → ByteArray
  | 0, R => R.getD 0 ByteArray.empty
  | h + 1, R => dg [sNode, rootR h (R.take (2 ^ h)), rootR h (R.drop (2 ^ h))]
def nodesR : Nat → List ByteArray → List ByteArray
  | 0, _ => []
  | h + 1, R => nodesR h (R.take (2 ^ h)) ++ nodesR h (R.drop (2 ^ h)) ++ [jB [sNode, rootR h (R.take (2 ^ h)), rootR h (R.drop (2 ^ h))]]
theorem two_two (h : Nat) : 2 * 2 ^ h = 2 ^ (h + 1) := by rw [Nat.pow_succ]; omega
theorem rootR_pair : ∀ (h : Nat) (R : List ByteArray), R.length = 2 ^ (h + 1) → rootR (h + 1) R = rootR h (pairD R)
  | 0, R, hR => by
    match R, hR with
    | [a, b], _ => rfl
  | h + 1, R, hR => by
    have h1 : (R.take (2 ^ (h + 1))).length = 2 ^ (h + 1) := by rw [List.length_take, hR, Nat.pow_succ 2 (h + 1)]; omega
    have h2 : (R.drop (2 ^ (h + 1))).length = 2 ^ (h + 1) := by rw [List.length_drop, hR, Nat.pow_succ 2 (h + 1)]; omega
    rw [rootR, rootR_pair h _ h1, rootR_pair h _ h2, rootR, pairD_take, pairD_drop, two_two]
theorem nodesR_pair : ∀ (h : Nat) (R : List ByteArray), R.length = 2 ^ (h + 1) → ∀ t ∈ nodesR (h + 1) R, t ∈ pairJ R ++ nodesR h (pairD R)
  | 0, R, hR, t, ht => by
    match R, hR with
    | [a, b], _ => simpa [nodesR, rootR, pairJ] using ht
  | h + 1, R, hR, t, ht => by
    have h1 : (R.take (2 ^ (h + 1))).length = 2 ^ (h + 1) := by rw [List.length_take, hR, Nat.pow_succ 2 (h + 1)]; omega
    have h2 : (R.drop (2 ^ (h + 1))).length = 2 ^ (h + 1) := by rw [List.length_drop, hR, Nat.pow_succ 2 (h + 1)]; omega
    rw [nodesR] at ht
    rw [nodesR, pairD_take, pairD_drop, two_two]
    simp only [List.mem_append, List.mem_singleton] at ht ⊢
    rcases ht with (ht | ht) | ht
    · have := nodesR_pair h _ h1 t ht
      rcases List.mem_append.1 this with e | e
      · rw [← two_two, ← pairJ_take] at e
        exact .inl (List.mem_of_mem_take e)
      · exact .inr (.inl (.inl e))
    · have := nodesR_pair h _ h2 t ht
      rcases List.mem_append.1 this with e | e
      · rw [← two_two, ← pairJ_drop] at e
        exact .inl (List.mem_of_mem_drop e)
      · exact .inr (.inl (.inr e))
    · rw [rootR_pair h _ h1, rootR_pair h _ h2] at ht
      exact .inr (.inr ht)
theorem nodesR_J : ∀ (h : Nat) (R : List ByteArray), R.length = 2 ^ h → ∀ t ∈ nodesR h R, t ∈ nodesJ h R
  | 0, _, _, t, ht => ht
  | h + 1, R, hR, t, ht => by
    rw [nodesJ]
    rcases List.mem_append.1 (nodesR_pair h R hR t ht) with e | e
    · exact List.mem_append_left _ e
    · exact List.mem_append_right _ (nodesR_J h (pairD R) (by rw [pairD_len, hR, Nat.pow_succ]; omega) t e)
theorem root_R : ∀ (h : Nat) (l : List ByteArray), l.length = 2 ^ h → rootT l = rootR h (l.map leafR)
  | 0, l, hl => by
    match l, hl with
    | [x], _ => rw [rootT_one]; rfl
  | h + 1, l, hl => by
    have h2 := two_pow_le h
    have h3 : (l.take (2 ^ h)).length = 2 ^ h := by rw [List.length_take, hl, Nat.pow_succ]; omega
    have h4 : (l.drop (2 ^ h)).length = 2 ^ h := by rw [List.length_drop, hl, Nat.pow_succ]; omega
    rw [rootT_many (by omega), hl, half_two_pow, root_R h _ h3, root_R h _ h4, rootR, List.map_take, List.map_drop]
theorem texts_R : ∀ (h : Nat) (l : List ByteArray), l.length = 2 ^ h → ∀ t ∈ textsT l, t ∈ l.map leafJ ∨ t ∈ nodesR h (l.map leafR)
  | 0, l, hl, t, ht => by
    match l, hl with
    | [x], _ => rw [textsT_one] at ht; left; simpa [leafJ] using ht
  | h + 1, l, hl, t, ht => by
    have h2 := two_pow_le h
    have h3 : (l.take (2 ^ h)).length = 2 ^ h := by rw [List.length_take, hl, Nat.pow_succ]; omega
    have h4 : (l.drop (2 ^ h)).length = 2 ^ h := by rw [List.length_drop, hl, Nat.pow_succ]; omega
    rw [textsT_many (by omega), hl, half_two_pow] at ht
    rw [nodesR]
    simp only [List.mem_append, List.mem_singleton] at ht ⊢
    rcases ht with (ht | ht) | ht
    · rcases texts_R h _ h3 t ht with e | e
      · rw [List.map_take] at e
        exact .inl (List.mem_of_mem_take e)
      · rw [List.map_take] at e
        exact .inr (.inl (.inl e))
    · rcases texts_R h _ h4 t ht with e | e
      · rw [List.map_drop] at e
        exact .inl (List.mem_of_mem_drop e)
      · rw [List.map_drop] at e
        exact .inr (.inl (.inr e))
    · right; right
      rw [ht, root_R h _ h3, root_R h _ h4, List.map_take, List.map_drop]
theorem texts_made (secret : ByteArray) (h n : Nat) : ∀ t ∈ textsT (keysT secret h), t ∈ madeT secret h n := by
  intro t ht
  rcases texts_R h _ (keysT_len secret h) t ht with e | e
  · obtain ⟨x, hx, rfl⟩ := List.mem_map.1 e
    unfold keysT at hx
    obtain ⟨i, hi, rfl⟩ := List.mem_map.1 hx
    exact made_leaf (List.mem_range.1 hi)
  · unfold madeT
    exact List.mem_append_right _ (nodesR_J h _ (by rw [List.length_map]; exact keysT_len secret h) t e)

/-! a path, from the bottom -/
theorem bu_snoc : ∀ (p : List ByteArray) (d : ByteArray) (i : Nat) (x : ByteArray),
    buD d i (p ++ [x]) = (if i / 2 ^ p.length % 2 = 1 then dg [sNode, x, buD d i p] else dg [sNode, buD d i p, x]) ∧
    buJ d i (p ++ [x]) = buJ d i p ++ [if i / 2 ^ p.length % 2 = 1 then jB [sNode, x, buD d i p] else jB [sNode, buD d i p, x]]
  | [], d, i, x => by
    simp only [List.nil_append, buD, buJ, List.length_nil, Nat.pow_zero, Nat.div_one]
    split <;> simp
  | y :: r, d, i, x => by
    have hd : i / 2 / 2 ^ r.length = i / 2 ^ (r.length + 1) := by rw [Nat.div_div_eq_div_mul, Nat.pow_succ, Nat.mul_comm]
    simp only [List.cons_append, buD, buJ, List.length_cons]
    split
    · have := bu_snoc r (dg [sNode, y, d]) (i / 2) x
      rw [hd] at this
      exact ⟨this.1, by rw [this.2]; rfl⟩
    · have := bu_snoc r (dg [sNode, d, y]) (i / 2) x
      rw [hd] at this
      exact ⟨this.1, by rw [this.2]; rfl⟩
theorem bu_mod : ∀ (p : List ByteArray) (d : ByteArray) (i j : Nat), i % 2 ^ p.length = j % 2 ^ p.length → buD d i p = buD d j p ∧ buJ d i p = buJ d j p
  | [], _, _, _, _ => ⟨rfl, rfl⟩
  | y :: r, d, i, j, h => by
    rw [List.length_cons, Nat.pow_succ] at h
    have hp := Nat.pow_pos (n := r.length) (show 0 < 2 by decide)
    have h2 : i % 2 = j % 2 := by
      have a := Nat.mod_mod_of_dvd i (show 2 ∣ 2 ^ r.length * 2 from ⟨2 ^ r.length, by omega⟩)
      have b := Nat.mod_mod_of_dvd j (show 2 ∣ 2 ^ r.length * 2 from ⟨2 ^ r.length, by omega⟩)
      rw [← a, ← b, h]
    have h3 : i / 2 % 2 ^ r.length = j / 2 % 2 ^ r.length := by
      have a := Nat.mod_mul_left_div_self i 2 (2 ^ r.length)
      have b := Nat.mod_mul_left_div_self j 2 (2 ^ r.length)
      rw [← a, ← b, h]
    simp only [buD, buJ, h2]
    split
    · have := bu_mod r (dg [sNode, y, d]) (i / 2) (j / 2) h3
      exact ⟨this.1, by rw [this.2]⟩
    · have := bu_mod r (dg [sNode, d, y]) (i / 2) (j / 2) h3
      exact ⟨this.1, by rw [this.2]⟩
theorem path_bu : ∀ (n i : Nat) (key : ByteArray) (p : List ByteArray), p.length = n → i < 2 ^ n →
    upT (2 ^ n) i (dg [sLeaf, key]) p = buD (dg [sLeaf, key]) i p ∧ ∀ t ∈ pathTextsT (2 ^ n) i key p, t ∈ jB [sLeaf, key] :: buJ (dg [sLeaf, key]) i p
  | 0, i, key, p, hp, hi => by
    have : p = [] := List.eq_nil_of_length_eq_zero hp
    subst this
    refine ⟨by rw [upT, dif_pos (by decide)]; rfl, fun t ht => ?_⟩
    rw [pathTextsT, dif_pos (by decide)] at ht
    simpa [buJ] using ht
  | n + 1, i, key, p, hp, hi => by
    have n2 := two_pow_le n
    have hs : 2 ^ (n + 1) - 2 ^ n = 2 ^ n := by rw [Nat.pow_succ]; omega
    have hspl := last_split (p := p) (by omega)
    have hpd : p.dropLast.length = n := by rw [List.length_dropLast, hp]; rfl
    have hsn := bu_snoc p.dropLast (dg [sLeaf, key]) i (popV p)
    rw [hspl, hpd] at hsn
    have hi' : i < 2 ^ n * 2 := by rw [Nat.pow_succ] at hi; exact hi
    rw [upT, dif_neg (by omega), half_two_pow]
    rw [pathTextsT, dif_neg (by omega), half_two_pow]
    by_cases hk : i < 2 ^ n
    · have h0 : i / 2 ^ n % 2 ≠ 1 := by rw [Nat.div_eq_of_lt hk]; decide
      rw [if_neg h0, if_neg h0] at hsn
      obtain ⟨e1, e2⟩ := path_bu n i key p.dropLast hpd hk
      rw [if_pos hk, if_pos hk, hsn.1, hsn.2, e1]
      refine ⟨rfl, fun t ht => ?_⟩
      rcases List.mem_append.1 ht with h | h
      · have := e2 t h
        simp only [List.mem_cons, List.mem_append] at this ⊢
        rcases this with h | h <;> simp [h]
      · have h := List.mem_singleton.1 h
        simp [h]
    · have hp0 : 0 < 2 ^ n := Nat.pow_pos (by decide)
      have h1 : i / 2 ^ n % 2 = 1 := by
        have : i / 2 ^ n = 1 := Nat.div_eq_of_lt_le (by omega) (by omega)
        rw [this]
      rw [if_pos h1, if_pos h1] at hsn
      have hm := bu_mod p.dropLast (dg [sLeaf, key]) i (i - 2 ^ n) (by
        rw [hpd]
        conv => lhs; rw [show i = i - 2 ^ n + 2 ^ n by omega]
        rw [Nat.add_mod_right])
      rw [hm.1, hm.2] at hsn
      obtain ⟨e1, e2⟩ := path_bu n (i - 2 ^ n) key p.dropLast hpd (by omega)
      rw [if_neg hk, if_neg hk, hs, hsn.1, hsn.2, e1]
      refine ⟨rfl, fun t ht => ?_⟩
      rcases List.mem_append.1 ht with h | h
      · have := e2 t h
        simp only [List.mem_cons, List.mem_append] at this ⊢
        rcases this with h | h <;> simp [h]
      · have h := List.mem_singleton.1 h
        simp [h]
theorem path_checked {m : ByteArray} {idx : Nat} {sig path : List ByteArray} (hi : idx < 2 ^ path.length) : ∀ t ∈ pathTextsT (2 ^ path.length) idx (dg (sealEnds m sig)) path, t ∈ checkedT m idx sig path := by
  intro t ht
  have := (path_bu path.length idx _ path rfl hi).2 t ht
  unfold checkedT
  simp only [List.mem_cons, List.mem_append] at this ⊢
  rcases this with h | h <;> simp [h]
/-- the texts of the own path are texts of the list -/
theorem own_path : ∀ (h : Nat) (l : List ByteArray) (i : Nat), l.length = 2 ^ h → i < 2 ^ h → ∀ t ∈ pathTextsT (2 ^ h) i (l.getD i ByteArray.empty) (pathT l i), t ∈ textsT l
  | 0, l, i, hl, hi, t, ht => by
    match l, hl with
    | [x], _ =>
      have hi0 : i = 0 := by simpa using hi
      subst hi0
      rw [pathTextsT, dif_pos (by decide)] at ht
      rw [textsT_one]; exact ht
  | h + 1, l, i, hl, hi, t, ht => by
    have h2 := two_pow_le h
    have hln : half l.length = 2 ^ h := by rw [hl, half_two_pow]
    have hs : 2 ^ (h + 1) - 2 ^ h = 2 ^ h := by rw [Nat.pow_succ]; omega
    have h3 : (l.take (2 ^ h)).length = 2 ^ h := by rw [List.length_take, hl, Nat.pow_succ]; omega
    have h4 : (l.drop (2 ^ h)).length = 2 ^ h := by rw [List.length_drop, hl, Nat.pow_succ]; omega
    have hi' : i < 2 ^ h * 2 := by rw [Nat.pow_succ] at hi; exact hi
    rw [pathT, dif_neg (by omega), hln] at ht
    rw [pathTextsT, dif_neg (by omega), half_two_pow] at ht
    rw [textsT_many (by omega), hln]
    by_cases hk : i < 2 ^ h
    · rw [if_pos hk, if_pos hk, List.dropLast_concat, popV_append] at ht
      have hg : (l.take (2 ^ h)).getD i ByteArray.empty = l.getD i ByteArray.empty := by simp [List.getD, List.getElem?_take_of_lt hk]
      rw [← hg] at ht
      have hu := up_path (l.take (2 ^ h)) i (by omega)
      rw [h3] at hu
      rw [hu] at ht
      simp only [List.mem_append, List.mem_singleton] at ht ⊢
      rcases ht with ht | ht
      · exact .inl (.inl (own_path h _ i h3 hk t ht))
      · exact .inr ht
    · rw [if_neg hk, if_neg hk, List.dropLast_concat, popV_append, hs] at ht
      have hg : (l.drop (2 ^ h)).getD (i - 2 ^ h) ByteArray.empty = l.getD i ByteArray.empty := by simp only [List.getD, List.getElem?_drop]; rw [show 2 ^ h + (i - 2 ^ h) = i by omega]
      rw [← hg] at ht
      have hu := up_path (l.drop (2 ^ h)) (i - 2 ^ h) (by omega)
      rw [h4] at hu
      rw [hu] at ht
      simp only [List.mem_append, List.mem_singleton] at ht ⊢
      rcases ht with ht | ht
      · exact .inl (.inr (own_path h _ (i - 2 ^ h) h4 (by omega) t ht))
      · exact .inr ht
end Go.Proofs.YtpogffdbencfnaaGreatDoor

namespace Go.Proofs.YtpogffdbencfnaaGreatDoor
open Go Go.RowKit

/-! the laws of seals -/
structure VerFacts (pub m : ByteArray) (idx : Int) (sig path : List ByteArray) : Prop where
  sig18 : sig.length = 18
  path8 : path.length ≤ 8
  sigs : sig.all isS = true
  paths : path.all isS = true
  low : 0 ≤ idx
  high : idx.toNat < 2 ^ path.length
  up : upT (2 ^ path.length) idx.toNat (dg [sLeaf, dg (sealEnds m sig)]) path = pub
theorem ver_facts {pub m : ByteArray} {idx : Int} {sig path : List ByteArray} (h : verT pub m idx sig path = true) : VerFacts pub m idx sig path := by
  unfold verT at h
  simp only [Bool.and_eq_true, decide_eq_true_eq] at h
  obtain ⟨⟨⟨⟨⟨⟨h1, h2⟩, h3⟩, h4⟩, h5⟩, h6⟩, h7⟩ := h
  have hu := check_up h7
  rw [Int.toNat_natCast] at hu
  exact ⟨h1, h2, h3, h4, h5, by omega, hu⟩
theorem ver_own (secret : ByteArray) (h i : Nat) (m : ByteArray) (hh : h ≤ 8) (hi : i < 2 ^ h) : verT (pubT secret h) m i (sigT secret i m) (pathT (keysT secret h) i) = true := by
  have hl := keysT_len secret h
  have hp : (pathT (keysT secret h) i).length = h := by rw [path_length, hl, lenT_pow h i hi]
  have hsig : (sigT secret i m).all isS = true := by
    rw [List.all_eq_true]
    intro s hs
    unfold sigT at hs
    obtain ⟨k, _, rfl⟩ := List.mem_map.1 hs
    cases (digsT m).getD k 0 with
    | zero => exact isS_dg _
    | succ d => exact isS_sumS _
  have hc := check_path (keysT secret h) i (by rw [hl]; exact hi) (by
    rw [hl]
    have := Nat.pow_le_pow_right (n := 2) (by decide) hh
    omega)
  rw [hl, keysT_at secret h i hi] at hc
  unfold verT
  rw [hp, sigT_len, hsig, path_isS, ends_sig]
  unfold pubT
  rw [show dg (endsT secret i) = keyT secret i from rfl, hc]
  simp
  have : ((2 ^ h : Nat) : Int) = 2 ^ h := by simp
  omega
theorem ver_root {pub m : ByteArray} {idx : Int} {sig path : List ByteArray} (h : verT pub m idx sig path = true) : isS pub = true := by
  have hf := ver_facts h
  rw [← hf.up]
  rw [upT]
  split
  · exact isS_dg _
  · split <;> exact isS_dg _
/-- the key of an accepted seal, and its path -/
theorem ver_accept {secret : ByteArray} {h : Nat} {m : ByteArray} {idx : Int} {sig path : List ByteArray} (hv : verT (pubT secret h) m idx sig path = true) :
    (path.length = h ∧ idx.toNat < 2 ^ h ∧ dg (sealEnds m sig) = keyT secret idx.toNat ∧ path = pathT (keysT secret h) idx.toNat) ∨ Clash (textsT (keysT secret h) ++ pathTextsT (2 ^ path.length) idx.toNat (dg (sealEnds m sig)) path) := by
  have hf := ver_facts hv
  rcases accept h path.length (keysT secret h) idx.toNat (dg (sealEnds m sig)) path (keysT_len secret h) rfl hf.high hf.up with ⟨h1, h2, h3⟩ | h1
  · left
    have hi : idx.toNat < 2 ^ h := by rw [← h1]; exact hf.high
    exact ⟨h1, hi, by rw [h2, keysT_at secret h _ hi], h3⟩
  · exact .inr h1
theorem ends_at {m : ByteArray} {sig : List ByteArray} {secret : ByteArray} {i : Nat} (h : sealEnds m sig = endsT secret i) (k : Nat) (hk : k < 18) :
    chainS (sig.getD k ByteArray.empty) (15 - (digsT m).getD k 0) = chainS (startT secret i k) 15 := by
  have := congrArg (fun l : List ByteArray => l.getD k ByteArray.empty) h
  simpa [sealEnds, endsT, List.getD, hk] using this
theorem sig_of {m : ByteArray} {sig : List ByteArray} {secret : ByteArray} {i : Nat} {L : List ByteArray} (hl : sig.length = 18) (h : sealEnds m sig = endsT secret i)
    (h1 : ∀ k j, k < 18 → j ≤ 15 → chainS (startT secret i k) j ∈ L) (h2 : ∀ k j, k < 18 → j ≤ 15 - (digsT m).getD k 0 → chainS (sig.getD k ByteArray.empty) j ∈ L) : sig = sigT secret i m ∨ Clash L := by
  apply Classical.byContradiction
  intro hn
  apply hn
  by_cases hc : Clash L
  · exact .inr hc
  left
  apply List.ext_getElem
  · rw [hl, sigT_len]
  · intro k hk _
    rw [hl] at hk
    have hd := dig_le m k
    have he := ends_at h k hk
    rw [show 15 = (digsT m).getD k 0 + (15 - (digsT m).getD k 0) by omega, ← chainS_add, show (digsT m).getD k 0 + (15 - (digsT m).getD k 0) - (digsT m).getD k 0 = 15 - (digsT m).getD k 0 by omega] at he
    have := chain_down (L := L) (sig.getD k ByteArray.empty) (chainS (startT secret i k) ((digsT m).getD k 0)) (15 - (digsT m).getD k 0) (fun j hj => h2 k j hk (by omega)) (fun j hj => by rw [chainS_add]; exact h1 k _ hk (by omega)) he
    rcases this with e | e
    · have h3 := sigT_at secret i m k hk
      rw [← e] at h3
      simpa [List.getD, hl, sigT_len, hk] using h3.symm
    · exact absurd e hc
theorem seal_sound {secret : ByteArray} {h : Nat} {m : ByteArray} {idx : Int} {sig path : List ByteArray} (hv : verT (pubT secret h) m idx sig path = true) :
    (path.length = h ∧ idx.toNat < 2 ^ h ∧ sig = sigT secret idx.toNat m ∧ path = pathT (keysT secret h) idx.toNat) ∨ Clash (madeT secret h 15 ++ checkedT m idx.toNat sig path) := by
  have hf := ver_facts hv
  rcases ver_accept hv with ⟨h1, hi, h2, h3⟩ | h1
  · rcases dg_or (L := madeT secret h 15 ++ checkedT m idx.toNat sig path) h2 (List.mem_append_right _ checked_ends) (List.mem_append_left _ (made_ends hi)) with e | e
    · rcases sig_of (L := madeT secret h 15 ++ checkedT m idx.toNat sig path) hf.sig18 e (fun k j hk hj => List.mem_append_left _ (made_chain hi hk hj)) (fun k j hk hj => List.mem_append_right _ (checked_chain hk hj)) with r | r
      · exact .inl ⟨h1, hi, r, h3⟩
      · exact .inr r
    · exact .inr e
  · right
    refine h1.mono fun t ht => ?_
    rcases List.mem_append.1 ht with e | e
    · exact List.mem_append_left _ (texts_made secret h 15 t e)
    · exact List.mem_append_right _ (path_checked hf.high t e)

/-! a text with a colon is no digest -/
theorem joined_not (l : List ByteArray) (hl : l ≠ []) : isS (jB l) = false := by
  cases hq : isS (jB l) with
  | false => rfl
  | true =>
    exfalso
    unfold isS isL at hq
    simp only [Bool.and_eq_true, beq_iff_eq, List.all_eq_true] at hq
    have h58 : (58 : UInt8) ∈ (jB l).data.toList := by
      cases l with
      | nil => exact absurd rfl hl
      | cons s r => simp [jB, bS, joinB, listsOf, joinL]
    have := hq.2 58 h58
    exact absurd this (by decide)
theorem cyc {secret : ByteArray} {i k : Nat} {L : List ByteArray} {N : Nat} (h0 : startJ secret i k ∈ L) (h1 : ∀ j, j ≤ N → chainS (startT secret i k) j ∈ L) :
    ∀ a b, a < b → b ≤ N → chainS (startT secret i k) a = chainS (startT secret i k) b → Clash L := by
  intro a b hab hb h
  obtain ⟨e, rfl⟩ : ∃ e, b = e + 1 + a := ⟨b - a - 1, by omega⟩
  rw [← chainS_add] at h
  rcases chain_down (L := L) (startT secret i k) (chainS (startT secret i k) (e + 1)) a (fun j hj => h1 j (by omega)) (fun j hj => by rw [chainS_add]; exact h1 _ (by omega)) h with r | r
  · refine ⟨startJ secret i k, chainS (startT secret i k) e, h0, h1 e (by omega), fun he => ?_, r⟩
    have n1 := joined_not [secret, decS i, decS k] (by simp)
    have n2 : isS (chainS (startT secret i k) e) = true := by
      cases e with
      | zero => exact isS_dg _
      | succ e => exact isS_sumS _
    rw [← he] at n2
    unfold startJ at n2
    rw [n1] at n2
    cases n2
  · exact r
theorem seal_binds {secret : ByteArray} {h i : Nat} {m o : ByteArray} (hi : i < 2 ^ h) (hmo : sumS m ≠ sumS o) (hv : verT (pubT secret h) o i (sigT secret i m) (pathT (keysT secret h) i) = true) :
    Clash (madeT secret h 30 ++ checkedT o i (sigT secret i m) (pathT (keysT secret h) i)) := by
  have hf := ver_facts hv
  have hti : ((i : Nat) : Int).toNat = i := Int.toNat_natCast i
  rcases ver_accept hv with ⟨h1, _, h2, h3⟩ | h1
  · rw [hti] at h2
    rcases dg_or (L := madeT secret h 30 ++ checkedT o i (sigT secret i m) (pathT (keysT secret h) i)) h2 (List.mem_append_right _ checked_ends) (List.mem_append_left _ (made_ends hi)) with e | e
    · obtain ⟨k, hk, hd⟩ := digs_diff hmo
      have he := ends_at e k hk
      have d1 := dig_le m k
      have d2 := dig_le o k
      rw [sigT_at secret i m k hk, chainS_add] at he
      have hL : ∀ j, j ≤ 30 → chainS (startT secret i k) j ∈ madeT secret h 30 ++ checkedT o i (sigT secret i m) (pathT (keysT secret h) i) := fun j hj => List.mem_append_left _ (made_chain hi hk hj)
      have h0 : startJ secret i k ∈ madeT secret h 30 ++ checkedT o i (sigT secret i m) (pathT (keysT secret h) i) := List.mem_append_left _ (made_start hi hk)
      rcases Nat.lt_or_ge ((digsT m).getD k 0 + (15 - (digsT o).getD k 0)) 15 with c | c
      · exact cyc h0 hL _ _ c (by omega) he
      · exact cyc h0 hL _ _ (by omega : 15 < (digsT m).getD k 0 + (15 - (digsT o).getD k 0)) (by omega) he.symm
    · exact e
  · rw [hti] at h1
    refine h1.mono fun t ht => ?_
    rcases List.mem_append.1 ht with e | e
    · exact List.mem_append_left _ (texts_made secret h 30 t e)
    · exact List.mem_append_right _ (path_checked (by have := hf.high; rw [hti] at this; exact this) t e)
theorem starts_ne {a b : ByteArray} {i j k : Nat} {L : List ByteArray} (h : startT a i k = startT b j k) (h1 : startJ a i k ∈ L) (h2 : startJ b j k ∈ L) : (a = b ∧ i = j) ∨ Clash L := by
  rcases dg_or h h1 h2 with e | e
  · simp only [List.cons.injEq, and_true] at e
    exact .inl ⟨e.1, decS_inj e.2⟩
  · exact .inr e
theorem seal_secrets {secret other : ByteArray} {h i : Nat} {m : ByteArray} (hi : i < 2 ^ h) (hne : secret ≠ other) (hv : verT (pubT other h) m i (sigT secret i m) (pathT (keysT secret h) i) = true) :
    Clash (madeT secret h 15 ++ madeT other h 15) := by
  have hti : ((i : Nat) : Int).toNat = i := Int.toNat_natCast i
  have hl := keysT_len secret h
  have hp : (pathT (keysT secret h) i).length = h := by rw [path_length, hl, lenT_pow h i hi]
  rcases ver_accept hv with ⟨h1, _, h2, h3⟩ | h1
  · rw [hti, ends_sig] at h2
    rcases dg_or (L := madeT secret h 15 ++ madeT other h 15) h2 (List.mem_append_left _ (made_ends hi)) (List.mem_append_right _ (made_ends hi)) with e | e
    · have he : chainS (startT secret i 0) 15 = chainS (startT other i 0) 15 := by
        have := congrArg (fun l : List ByteArray => l.getD 0 ByteArray.empty) e
        simpa [endsT, List.getD] using this
      rcases chain_down (L := madeT secret h 15 ++ madeT other h 15) _ _ 15 (fun j hj => List.mem_append_left _ (made_chain hi (by decide) (by omega))) (fun j hj => List.mem_append_right _ (made_chain hi (by decide) (by omega))) he with r | r
      · rcases starts_ne (L := madeT secret h 15 ++ madeT other h 15) r (List.mem_append_left _ (made_start hi (by decide))) (List.mem_append_right _ (made_start hi (by decide))) with q | q
        · exact absurd q.1 hne
        · exact q
      · exact r
    · exact e
  · rw [hti, ends_sig, hp] at h1
    refine h1.mono fun t ht => ?_
    rcases List.mem_append.1 ht with e | e
    · exact List.mem_append_right _ (texts_made other h 15 t e)
    · have hg : keyT secret i = (keysT secret h).getD i ByteArray.empty := (keysT_at secret h i hi).symm
      rw [show dg (endsT secret i) = keyT secret i from rfl, hg] at e
      exact List.mem_append_left _ (texts_made secret h 15 t (own_path h _ i hl hi t e))
/-- the same Sig under another index -/
theorem sig_index {secret : ByteArray} {h i j : Nat} {m : ByteArray} {L : List ByteArray} (hi : i < 2 ^ h) (hj : j < 2 ^ h) (he : sigT secret i m = sigT secret j m) : i = j ∨ Clash (madeT secret h 15) := by
  have h0 : (sigT secret i m).getD 0 ByteArray.empty = (sigT secret j m).getD 0 ByteArray.empty := by rw [he]
  rw [sigT_at _ _ _ 0 (by decide), sigT_at _ _ _ 0 (by decide)] at h0
  have hd := dig_le m 0
  rcases chain_down (L := madeT secret h 15) _ _ _ (fun a ha => made_chain hi (by decide) (by omega)) (fun a ha => made_chain hj (by decide) (by omega)) h0 with r | r
  · rcases starts_ne (L := madeT secret h 15) r (made_start hi (by decide)) (made_start hj (by decide)) with q | q
    · exact .inl q.2
    · exact .inr q
  · exact .inr r
/-- a seal that differs from the own one at its index, or bears another index with its Sig -/
theorem seal_changes {secret : ByteArray} {h i : Nat} {m : ByteArray} {idx : Int} {sig path : List ByteArray} (hi : i < 2 ^ h)
    (hch : (idx = i ∧ ¬ (sig = sigT secret i m ∧ path = pathT (keysT secret h) i)) ∨ (idx.toNat ≠ i ∧ sig = sigT secret i m))
    (hv : verT (pubT secret h) m idx sig path = true) : Clash (madeT secret h 15 ++ checkedT m idx.toNat sig path) := by
  rcases seal_sound hv with ⟨h1, h2, h3, h4⟩ | h1
  · rcases hch with ⟨e, hn⟩ | ⟨hn, e⟩
    · exfalso
      apply hn
      have : idx.toNat = i := by rw [e]; exact Int.toNat_natCast i
      rw [this] at h3 h4
      exact ⟨h3, h4⟩
    · rw [e] at h3
      rcases sig_index (L := []) hi h2 h3 with r | r
      · exact absurd r.symm hn
      · exact r.mono fun t ht => List.mem_append_left _ ht
  · exact h1
theorem form_less {pub m : ByteArray} {idx : Int} {sig path : List ByteArray} (h : sig.length ≠ 18) : verT pub m idx sig path = false := by
  unfold verT
  rw [decide_eq_false h]; simp
theorem form_far {pub m : ByteArray} {idx : Int} {sig path : List ByteArray} (h : ¬ (0 ≤ idx ∧ idx < ((2 ^ path.length : Nat) : Int))) : verT pub m idx sig path = false := by
  unfold verT
  by_cases h1 : 0 ≤ idx
  · rw [decide_eq_false (fun h2 => h ⟨h1, h2⟩)]; simp
  · rw [decide_eq_false h1]; simp
end Go.Proofs.YtpogffdbencfnaaGreatDoor

