import Derived.Test.YtnkepmfgmfeabaaGreatDoorR2
import Derived.BigQuiet
import Derived.Laws.Rows
import Derived.RangeFuncNested
import Derived.RangeFuncBound
import Derived.RangeFuncCalls
import Derived.RangeFuncLeaves
import Derived.Shelf.Abstract
import Derived.Shelf.RegionOpen
import Derived.WalkKit
import Derived.OwnWalkIn
import Derived.TacticsInMore
import Derived.LoopNIn
import Derived.LoopIn
import Derived.Maps.AppendAt
import Derived.RegionTactic
import Derived.Deep.QuietTactic
import Derived.RangeFuncWrites
import Derived.Deep.RegionWith
import Derived.Deep.Cut
import Derived.Laws.EntriesVeiled
import Derived.Laws.StructEq
import Derived.Shelf.SlicesE.Kit
import Derived.Test.YtnkepmfgmfeabaaGreatDoorR1
import Derived.Test.YtnkepmfgmfeabaaGreatDoorProg
import Derived.KernelRfl
set_option linter.unusedVariables false
namespace Go.Proofs.YtnkepmfgmfeabaaGreatDoor
open Go Go.RowKit

/-! seals: what the functions compute -/
def decS (n : Nat) : ByteArray := itoaS n
/-- the value of a hexadecimal digit -/
def digN (c : UInt8) : Nat := if c.toNat ≤ 57 then c.toNat - 48 else c.toNat - 87
theorem digN_lt {c : UInt8} (h : hexd c = true) : digN c ≤ 15 := by
 unfold hexd at h
 unfold digN
 simp only [Bool.or_eq_true, Bool.and_eq_true, decide_eq_true_eq] at h
 split <;> omega
def hexDigs (m : ByteArray) : List Nat := (sumS m).data.toList.map digN
def restOf (l : List Nat) : Nat := (l.map fun d => 15 - d).sum
def digsT (m : ByteArray) : List Nat := hexDigs m ++ [restOf (hexDigs m) / 16, restOf (hexDigs m) % 16]
theorem sumS_list (m : ByteArray) : (sumS m).data.toList.length = 16 ∧ ∀ c ∈ (sumS m).data.toList, hexd c = true := by
 have := isS_sumS m
 unfold isS isL at this
 simp only [Bool.and_eq_true, beq_iff_eq, List.all_eq_true] at this
 exact this
theorem hexDigs_len (m : ByteArray) : (hexDigs m).length = 16 := by unfold hexDigs; rw [List.length_map]; exact (sumS_list m).1
theorem hexDigs_le (m : ByteArray) : ∀ d ∈ hexDigs m, d ≤ 15 := by
 intro d hd
 obtain ⟨c, hc, rfl⟩ := List.mem_map.1 hd
 exact digN_lt ((sumS_list m).2 c hc)
theorem rest_le : ∀ l : List Nat, restOf l ≤ 15 * l.length
 | [] => Nat.le_refl _
 | d :: r => by
  have := rest_le r
  unfold restOf at this ⊢
  simp only [List.map_cons, List.sum_cons, List.length_cons]
  omega
theorem digsT_le (m : ByteArray) : ∀ d ∈ digsT m, d ≤ 15 := by
 intro d hd
 have hr := rest_le (hexDigs m)
 rw [hexDigs_len] at hr
 unfold digsT at hd
 simp only [List.mem_append, List.mem_cons, List.not_mem_nil, or_false] at hd
 rcases hd with hd | hd | hd
 ·exact hexDigs_le m d hd
 ·omega
 ·omega
/-! chains -/
theorem chainS_add (t : ByteArray) (a b : Nat) : chainS (chainS t a) b = chainS t (a + b) := by
 induction b with
 | zero => rfl
 | succ b ih => rw [chainS, ih, ← Nat.add_assoc, chainS]
def startT (secret : ByteArray) (i k : Nat) : ByteArray := dg [secret, decS i, decS k]
def endsT (secret : ByteArray) (i : Nat) : List ByteArray := (List.range 18).map fun k => chainS (startT secret i k) 15
def keyT (secret : ByteArray) (i : Nat) : ByteArray := dg (endsT secret i)
def keysT (secret : ByteArray) (h : Nat) : List ByteArray := (List.range (2 ^ h)).map (keyT secret)
def pubT (secret : ByteArray) (h : Nat) : ByteArray := rootT (keysT secret h)
def sigT (secret : ByteArray) (i : Nat) (m : ByteArray) : List ByteArray := (List.range 18).map fun k => chainS (startT secret i k) ((digsT m).getD k 0)
/-- the ends of a seal's chains -/
def sealEnds (m : ByteArray) (sig : List ByteArray) : List ByteArray := (List.range 18).map fun k => chainS (sig.getD k ByteArray.empty) (15 - (digsT m).getD k 0)
def verT (pub m : ByteArray) (idx : Int) (sig path : List ByteArray) : Bool :=
 decide (sig.length = 18) && decide (path.length ≤ 8) && sig.all isS && path.all isS && decide (0 ≤ idx) && decide (idx < ((2 ^ path.length : Nat) : Int)) &&
  checkT pub ((2 ^ path.length : Nat) : Int) idx (dg (sealEnds m sig)) path
theorem keysT_len (secret : ByteArray) (h : Nat) : (keysT secret h).length = 2 ^ h := by simp [keysT]
theorem keysT_at (secret : ByteArray) (h i : Nat) (hi : i < 2 ^ h) : (keysT secret h).getD i ByteArray.empty = keyT secret i := by
 simp [keysT, List.getD, hi]
theorem sigT_len (secret : ByteArray) (i : Nat) (m : ByteArray) : (sigT secret i m).length = 18 := by simp [sigT]
theorem sigT_at (secret : ByteArray) (i : Nat) (m : ByteArray) (k : Nat) (hk : k < 18) : (sigT secret i m).getD k ByteArray.empty = chainS (startT secret i k) ((digsT m).getD k 0) := by
 simp [sigT, List.getD, hk]
theorem dig_le (m : ByteArray) (k : Nat) : (digsT m).getD k 0 ≤ 15 := by
 by_cases hk : k < (digsT m).length
 ·rw [show (digsT m).getD k 0 = (digsT m)[k] by simp [List.getD, hk]]; exact digsT_le m _ (List.getElem_mem hk)
 ·rw [show (digsT m).getD k 0 = 0 by simp [List.getD, Nat.le_of_not_lt hk]]; omega
theorem ends_sig (secret : ByteArray) (i : Nat) (m : ByteArray) : sealEnds m (sigT secret i m) = endsT secret i := by
 unfold sealEnds endsT
 apply List.map_congr_left
 intro k hk
 have hk := List.mem_range.1 hk
 have := dig_le m k
 rw [sigT_at secret i m k hk, chainS_add, show (digsT m).getD k 0 + (15 - (digsT m).getD k 0) = 15 by omega]

/-! powers of two -/
theorem half_two_pow (n : Nat) : half (2 ^ (n + 1)) = 2 ^ n := by
 have hp := Nat.pow_pos (n := n) (show 0 < 2 by decide)
 have h2 : 2 ≤ 2 ^ (n + 1) := by rw [Nat.pow_succ]; omega
 obtain ⟨j, hj⟩ := half_pow (2 ^ (n + 1))
 have h1 := half_lt h2
 have h3 := half_two h2
 rw [hj] at h1 h3 ⊢
 exact pow_uniq (m := 2 ^ (n + 1)) h1 h3 (by rw [Nat.pow_succ]; omega) (by rw [Nat.pow_succ]; omega)
theorem two_pow_le (n : Nat) : 2 ≤ 2 ^ (n + 1) := by have := Nat.pow_pos (n := n) (show 0 < 2 by decide); rw [Nat.pow_succ]; omega
theorem lenT_pow : ∀ (n i : Nat), i < 2 ^ n → lenT (2 ^ n) i = n
 | 0, i, hi => by rw [lenT, dif_pos (by decide)]
 | n + 1, i, hi => by
  have := two_pow_le n
  rw [lenT, dif_neg (by omega), half_two_pow]
  have hs : 2 ^ (n + 1) - 2 ^ n = 2 ^ n := by rw [Nat.pow_succ]; omega
  split
  ·rw [lenT_pow n i (by assumption)]; omega
  ·rw [hs, lenT_pow n (i - 2 ^ n) (by rw [Nat.pow_succ] at hi; omega)]; omega
end Go.Proofs.YtnkepmfgmfeabaaGreatDoor

namespace Go.Proofs.YtnkepmfgmfeabaaGreatDoor
open Go Go.RowKit

/-! the texts that are digested -/
/-! levels, from the bottom -/
/-! a path, from the bottom -/
end Go.Proofs.YtnkepmfgmfeabaaGreatDoor

namespace Go.Proofs.YtnkepmfgmfeabaaGreatDoor
open Go Go.RowKit

/-! the laws of seals -/
theorem ver_own (secret : ByteArray) (h i : Nat) (m : ByteArray) (hh : h ≤ 8) (hi : i < 2 ^ h) : verT (pubT secret h) m i (sigT secret i m) (pathT (keysT secret h) i) = true := by
 have hl := keysT_len secret h
 have hp : (pathT (keysT secret h) i).length = h := by rw [path_length, hl, lenT_pow h i hi]
 have hsig : (sigT secret i m).all isS = true := by
  rw [List.all_eq_true]
  intro s hs
  unfold sigT at hs
  obtain ⟨k, _, rfl⟩ := List.mem_map.1 hs
  cases (digsT m).getD k 0 with
  | zero => exact isS_dg _
  | succ d => exact isS_sumS _
 have hc := check_path (keysT secret h) i (by rw [hl]; exact hi) (by
  rw [hl]
  have := Nat.pow_le_pow_right (n := 2) (by decide) hh
  omega)
 rw [hl, keysT_at secret h i hi] at hc
 unfold verT
 rw [hp, sigT_len, hsig, path_isS, ends_sig]
 unfold pubT
 rw [show dg (endsT secret i) = keyT secret i from rfl, hc]
 simp
 have : ((2 ^ h : Nat) : Int) = 2 ^ h := by simp
 omega
/-! a text with a colon is no digest -/
end Go.Proofs.YtnkepmfgmfeabaaGreatDoor
set_option linter.unusedVariables false
namespace Go.Proofs.YtnkepmfgmfeabaaGreatDoor
open Go Go.RowKit

theorem own_lit (w : World) (ls : List ByteArray) (hl : ls.length ≤ maxLen) : Own w.heap.size (w.alloc (.cells (ls.map Value.string).toArray 9)) (.slice (some ⟨w.heap.size, 0, none⟩) ls.length ls.length) ls := by
 have := World.ownsRow_lit (e := 9) (size := 1) w (ls.map Value.string).toArray ls.length (Nat.le_refl _) hl (by simp)
 simpa [Own] using this
end Go.Proofs.YtnkepmfgmfeabaaGreatDoor
set_option linter.unusedVariables false
namespace Go.Proofs.YtnkepmfgmfeabaaGreatDoor
open Go Go.RowKit

theorem chain_calls (t : ByteArray) (ht : t.size ≤ 4611686018427387904) (n : Int) (w : World) (hT : Tabs w) :
  Calls Tryz.prog 80 #[.string t, .int .i64 n] w fun e w' => e = .returned (.string (chainS t (chainN n))) ∧ Below w.heap.size w w' := by
 have HT := Lib.hid hT
 have hT0 := Lib.hid ht
 clear hT ht
 go_enter Tryz.func80, Tryz.ntmps80
 go_wp2_with fail
 have hcn : max 0 (min n 1000) = ((chainN n : Nat) : Int) := by unfold chainN; split <;> (try split) <;> omega
 rw [hcn]
 have hk : chainN n ≤ 1000 := by unfold chainN; split <;> (try split) <;> omega
 clear hcn
 obtain ⟨k, hkn⟩ : ∃ k, k = chainN n := ⟨_, rfl⟩
 rw [← hkn] at hk ⊢
 have HK := Lib.hid hkn
 clear hkn
 go_loopw [0, 8] (fun vt vi W => ∃ i : Nat, vt = .string (chainS t i) ∧ vi = .int .i64 (i : Int) ∧ i ≤ k ∧ Hid (Below w.heap.size w W)) (fun _ vi _ => k - (RowKit.intOf vi).toNat)
 case atStart => exact ⟨0, rfl, rfl, by omega, Lib.hid (Below.refl _ _)⟩
 case round =>
  obtain ⟨i, rfl, rfl, hik, HB⟩ := hrel
  by_cases hi : i < k
  ·go_wp2_with fail
   refine (sum_calls (chainS t i) (chainS_size t i hT0.out) wr (HT.out.on HB.out)).mono ?_
   rintro e w1 ⟨rfl, h1⟩
   have HB1 : Hid (Below w.heap.size w w1) := Lib.hid (HB.out.trans (h1.mono HB.out.size))
   clear h1
   go_wp2
   go_round
   case rel => exact ⟨i + 1, rfl, rfl, by omega, HB1⟩
   case measure => simp only [RowKit.intOf]; omega
  ·have e : i = k := by omega
   subst e
   go_wp2
   go_ret
   exact ⟨by rw [← HK.out]; rfl, HB.out⟩
end Go.Proofs.YtnkepmfgmfeabaaGreatDoor
set_option linter.unusedVariables false
namespace Go.Proofs.YtnkepmfgmfeabaaGreatDoor
open Go Go.RowKit

theorem of_calls (v : Value) (ls : List ByteArray) (w : World) (hv : IsStrC w v ls) (hJ : (joinB ls).length ≤ 140737488355328) (hT : Tabs w) :
  Calls Tryz.prog 108 #[v] w fun e w' => e = .returned (.string (dg ls)) ∧ Below w.heap.size w w' := by
 have HC := Lib.hid (list_calls v ls w hv.strs hJ hT)
 obtain ⟨ao, cap, rfl, _, _, _⟩ := hv
 go_enter Tryz.func108, Tryz.ntmps108
 go_wp2_with fail
 refine (HC.out).mono ?_
 rintro e w1 ⟨rfl, h1⟩
 go_wp2
 go_ret
 exact ⟨rfl, h1⟩
theorem oflit3_calls (a b c : ByteArray) (w : World) (ha : a.size ≤ 1099511627776) (hb2 : b.size ≤ 1099511627776) (hc : c.size ≤ 1099511627776) (hT : Tabs w) :
  Calls Tryz.prog 108 #[.slice (some ⟨w.heap.size, 0, none⟩) 3 3] (w.alloc (.cells #[.string a, .string b, .string c] 9)) fun e w' => e = .returned (.string (dg [a, b, c])) ∧ Below w.heap.size w w' := by
 have hb := (Below.refl w.heap.size w).alloc (Nat.le_refl _) (.cells #[.string a, .string b, .string c] 9)
 refine (of_calls _ [a, b, c] _ (strc_lit w [a, b, c] (show 3 ≤ maxLen by decide)) ?_ (hT.on hb)).mono ?_
 ·have := join_le 1099511627776 [a, b, c] (by simp; exact ⟨ha, hb2, hc⟩) (Nat.le_refl _); simp at this; omega
 ·rintro e w' ⟨rfl, h⟩
  exact ⟨rfl, hb.trans (h.mono hb.size)⟩
theorem decS_size (n : Nat) (h : n ≤ 9223372036854775807) : (decS n).size ≤ 1099511627776 := by
 have : (decS n).size ≤ 21 := itoaS_le n h
 omega
theorem start_calls (secret : ByteArray) (i k : Nat) (w : World) (hs : secret.size ≤ 1099511627776) (hi : i ≤ 1000000) (hk : k ≤ 1000000) (hT : Tabs w) :
  Calls Tryz.prog 81 #[.string secret, .int .i64 (i : Int), .int .i64 (k : Int)] w fun e w' => e = .returned (.string (startT secret i k)) ∧ Below w.heap.size w w' := by
 have HT := Lib.hid hT
 clear hT
 go_enter Tryz.func81, Tryz.ntmps81
 go_wp2_with fail
 refine (itoa_calls i (by omega) w HT.out).mono ?_
 rintro e w1 ⟨rfl, h1⟩
 have H1 := Lib.hid h1
 clear h1
 go_wp2_with fail
 refine (itoa_calls k (by omega) w1 (HT.out.on H1.out)).mono ?_
 rintro e w2 ⟨rfl, h2⟩
 have H2 := Lib.hid (H1.out.trans (h2.mono H1.out.size))
 clear h2
 go_wp2_with fail
 refine (oflit3_calls secret (itoaS i) (itoaS k) w2 hs (decS_size i (by omega)) (decS_size k (by omega)) (HT.out.on H2.out)).mono ?_
 rintro e w3 ⟨rfl, h3⟩
 have H3 := Lib.hid (H2.out.trans (h3.mono H2.out.size))
 clear h3
 go_wp2
 go_ret
 exact ⟨rfl, H3.out⟩
theorem startT_size (secret : ByteArray) (i k : Nat) : (startT secret i k).size = 16 := sumS_size _
theorem range_take (n k : Nat) (f : Nat → ByteArray) (h : k < n) : ((List.range n).map f).take (k + 1) = ((List.range n).map f).take k ++ [f k] := by
 rw [List.take_succ_eq_append_getElem (by simpa using h)]
 simp
theorem endsT_size (secret : ByteArray) (i : Nat) : ∀ s ∈ endsT secret i, s.size = 16 := by
 intro s hs
 unfold endsT at hs
 obtain ⟨k, _, rfl⟩ := List.mem_map.1 hs
 exact sumS_size _
set_option maxHeartbeats 1000000 in
theorem key_calls (secret : ByteArray) (i : Nat) (w : World) (hs : secret.size ≤ 1099511627776) (hi : i ≤ 1000000) (hT : Tabs w) :
  Calls Tryz.prog 102 #[.string secret, .int .i64 (i : Int)] w fun e w' => e = .returned (.string (keyT secret i)) ∧ Below w.heap.size w w' := by
 have HT := Lib.hid hT
 have HJ : Hid ((joinB (endsT secret i)).length ≤ 140737488355328) := Lib.hid (by
  have := join_le 16 (endsT secret i) (fun s h => by rw [endsT_size secret i s h]; omega) (by decide)
  simp [endsT] at this
  simp [endsT]
  omega)
 clear hT
 go_enter Tryz.func102, Tryz.ntmps102
 go_wp2_with fail
 go_loopw [5, 7] (fun v5 v7 W => ∃ k : Nat, v7 = .int .i64 (k : Int) ∧ k ≤ 18 ∧ Hid (Own w.heap.size W v5 ((endsT secret i).take k) ∧ Below w.heap.size w W)) (fun _ v7 _ => 18 - (RowKit.intOf v7).toNat)
 case atStart => exact ⟨0, rfl, by omega, Own.nil _ _, Below.refl _ _⟩
 case round =>
  obtain ⟨k, rfl, hk, HI⟩ := hrel
  by_cases hlt : k < 18
  ·have HTK : Hid ((endsT secret i).take (k + 1) = (endsT secret i).take k ++ [chainS (startT secret i k) 15]) := Lib.hid (range_take 18 k _ hlt)
   have hacc : ((endsT secret i).take k).length ≤ 18 := by rw [List.length_take]; omega
   have hss := startT_size secret i k
   go_wp2_with fail
   refine (start_calls secret i k wr hs hi (by omega) (HT.out.on HI.out.2)).mono ?_
   rintro e w1 ⟨rfl, h1⟩
   have HI1 : Hid (Own w.heap.size w1 u5 ((endsT secret i).take k) ∧ Below w.heap.size w w1) := Lib.hid ⟨HI.out.1.on h1, HI.out.2.trans (h1.mono HI.out.2.size)⟩
   clear h1 HI
   go_wp2_with fail
   refine (chain_calls (startT secret i k) (by omega) 15 w1 (HT.out.on HI1.out.2)).mono ?_
   rintro e w2 ⟨rfl, h2⟩
   have HI2 : Hid (Own w.heap.size w2 u5 ((endsT secret i).take k) ∧ Below w.heap.size w w2) := Lib.hid ⟨HI1.out.1.on h2, HI1.out.2.trans (h2.mono HI1.out.2.size)⟩
   clear h2 HI1
   rw [show chainN 15 = 15 from rfl]
   generalize chainS (startT secret i k) 15 = c at *
   generalize (endsT secret i).take k = acc at *
   go_wp2_with (at_builtin; refine app1 rfl (.tmp 10) (.tmp 16) rfl (r := c) rfl HI2.out.1 HI2.out.2 (Nat.le_refl _) (by omega) rfl ?_)
   intro v' w3 ho3 h3
   have HI3 : Hid (Own w.heap.size w3 v' ((endsT secret i).take (k + 1)) ∧ Below w.heap.size w w3) := by rw [HTK.out]; exact Lib.hid ⟨ho3, h3⟩
   clear ho3 h3 HI2 HTK
   go_wp2
   go_round
   case rel => exact ⟨k + 1, by go_num, by omega, HI3⟩
   case measure => simp only [RowKit.intOf]; omega
  ·have HO : Hid (Own w.heap.size wr u5 (endsT secret i) ∧ Below w.heap.size w wr) := Lib.hid ⟨by have := HI.out.1; rwa [List.take_of_length_le (by simp [endsT]; omega)] at this, HI.out.2⟩
   clear HI
   go_wp2_with fail
   refine (of_calls u5 (endsT secret i) wr HO.out.1.strc HJ.out (HT.out.on HO.out.2)).mono ?_
   rintro e w1 ⟨rfl, h1⟩
   have H1 := Lib.hid (HO.out.2.trans (h1.mono HO.out.2.size))
   clear h1
   go_wp2
   go_ret
   exact ⟨rfl, H1.out⟩
end Go.Proofs.YtnkepmfgmfeabaaGreatDoor

namespace Go.Proofs.YtnkepmfgmfeabaaGreatDoor
open Go Go.RowKit

theorem own_store {B : Nat} {w : World} {g n cap : Nat} {l : List ByteArray} (h : Own B w (.slice (some ⟨g, 0, none⟩) n cap) l) (i : Nat) (s : ByteArray) (hi : i < l.length) :
  Own B (w.setCell ⟨g, i, none⟩ (.string s)) (.slice (some ⟨g, 0, none⟩) n cap) (l.set i s) := by
 have h : w.ownsRow B 9 1 (.slice (some ⟨g, 0, none⟩) n cap) l.length (l.map Value.string) := h
 obtain ⟨h1, ⟨e, _⟩ | ⟨g', cap', cur, e, hB, hg, h2, h3, h4, h5⟩⟩ := h
 ·cases e
 ·cases e
  refine ⟨by simp, .inr ⟨g, cap, cur.setIfInBounds i (.string s), by rw [List.length_set], hB, heap_setCell_same w g i cur _ _ hg, by rw [List.length_set]; exact h2, h3, by simpa using h4, ?_⟩⟩
  rw [Array.toList_setIfInBounds, List.take_set, List.length_set, h5, List.map_set]
theorem own_cell {B : Nat} {w : World} {g n cap : Nat} {l : List ByteArray} (h : Own B w (.slice (some ⟨g, 0, none⟩) n cap) l) (i : Nat) (hi : i < l.length) :
  w.cell? ⟨g, i, none⟩ = some (.string (l.getD i ByteArray.empty)) ∧ w.frozen? ⟨g, i, none⟩ = false := by
 have hn : n = l.length := by
  obtain ⟨_, ⟨e, _⟩ | ⟨g', cap', cur, e, _⟩⟩ := h
  ·cases e
  ·cases e; rfl
 subst hn
 refine ⟨?_, World.ownsRow.frozenAt h i⟩
 have := World.ownsRow.cells h rfl i (.string (l.getD i ByteArray.empty)) (by simp [List.getD, hi])
 rwa [Lib.add_plain, Nat.zero_add] at this
theorem wrap_pow (h : Nat) (hh : h ≤ 20) : wrap64 ((2 : Int) ^ h) = ((2 ^ h : Nat) : Int) := by
 have e : ((2 ^ h : Nat) : Int) = (2 : Int) ^ h := by simp
 have := Nat.pow_le_pow_right (n := 2) (by decide) hh
 rw [← e]
 generalize 2 ^ h = p at *
 exact IntWalk.wrap64_in _ (by omega)
theorem keyT_size (secret : ByteArray) (i : Nat) : (keyT secret i).size = 16 := sumS_size _
theorem set_step (l : List ByteArray) (n i : Nat) (hl : l.length = n) (hi : i < n) : (l.take i ++ List.replicate (n - i) ByteArray.empty).set i (l.getD i ByteArray.empty) = l.take (i + 1) ++ List.replicate (n - (i + 1)) ByteArray.empty := by
 have h1 : (l.take i).length = i := by rw [List.length_take]; omega
 rw [List.set_append_right _ _ (by omega), h1, Nat.sub_self, show n - i = (n - (i + 1)) + 1 by omega, List.replicate_succ, List.set_cons_zero, List.take_succ_eq_append_getElem (by omega), List.append_assoc]
 simp [List.getD, hl, hi]
set_option maxRecDepth 100000 in
set_option maxHeartbeats 1000000 in
theorem keys_calls (secret : ByteArray) (h : Nat) (w : World) (hs : secret.size ≤ 1099511627776) (hh : h ≤ 10) (hT : Tabs w) :
  Calls Tryz.prog 66 #[.string secret, .int .i64 (h : Int)] w fun e w' => ∃ v', e = .returned v' ∧ Own w.heap.size w' v' (keysT secret h) ∧ Below w.heap.size w w' := by
 have HT := Lib.hid hT
 obtain ⟨it, hti, hz0, hz1, hz2⟩ : ∃ i, Tryz.prog.info? 9 = some i ∧ i.zero = some (.string ByteArray.empty) ∧ i.size = 1 ∧ i.bytes = 16 := info_parts (by kernel_rfl)
 have Hi := Lib.hid hti
 have Hz0 := Lib.hid hz0
 have Hz1 := Lib.hid hz1
 have Hz2 := Lib.hid hz2
 clear hT hti hz0 hz1 hz2
 have hw2 := wrap_pow h (by omega)
 have hnle : 2 ^ h ≤ 1024 := Nat.pow_le_pow_right (n := 2) (by decide) hh
 obtain ⟨n, hn⟩ : ∃ n, n = 2 ^ h := ⟨_, rfl⟩
 rw [← hn] at hw2 hnle
 have HK : Hid ((keysT secret h).length = n) := Lib.hid (by rw [keysT_len, hn])
 have HKA : Hid (∀ i, i < n → (keysT secret h).getD i ByteArray.empty = keyT secret i) := Lib.hid (fun i hi => keysT_at secret h i (by omega))
 clear hn
 go_enter Tryz.func66, Tryz.ntmps66
 go_wp2_with (at_make; refine wpList_make_full _ rfl _ _ 22 rfl w.heap.size 9 it (.string ByteArray.empty) 1 Tryz.underlying22 Hi.out Hz0.out Hz1.out .i64 .i64 _ _ n rfl rfl (by first | exact hw2 | rfl) (by first | exact hw2 | rfl) (by rw [Hz2.out]; omega) (by unfold maxLen; omega) (Nat.le_refl _) ?_)
 intro w1 hown hgr
 have HI1 : Hid (Own w.heap.size w1 (.slice (some ⟨w.heap.size, 0, none⟩) n n) (List.replicate n ByteArray.empty) ∧ Below w.heap.size w w1) := by
  refine Lib.hid ⟨?_, (Below.refl w.heap.size w).grown hgr (Nat.le_refl _) (fun k hk => by cases hk)⟩
  unfold Own
  rw [List.length_replicate, List.map_replicate]
  rw [← toList_madeCells_one]
  simpa using hown
 clear hown hgr hw2
 go_wp2_with fail
 go_loopw [12] (fun v12 W => ∃ i : Nat, v12 = .int .i64 (i : Int) ∧ i ≤ n ∧ Hid (Own w.heap.size W (.slice (some ⟨w.heap.size, 0, none⟩) n n) ((keysT secret h).take i ++ List.replicate (n - i) ByteArray.empty) ∧ Below w.heap.size w W)) (fun v12 _ => n - (RowKit.intOf v12).toNat)
 case atStart => exact ⟨0, rfl, by omega, by simpa using HI1.out.1, HI1.out.2⟩
 case round =>
  obtain ⟨i, rfl, hi, HI⟩ := hrel
  clear HI1
  by_cases hlt : i < n
  ·have hll : ((keysT secret h).take i ++ List.replicate (n - i) ByteArray.empty).length = n := by
    rw [List.length_append, List.length_take, List.length_replicate, HK.out]; omega
   have HLL := Lib.hid hll
   have HST : Hid (((keysT secret h).take i ++ List.replicate (n - i) ByteArray.empty).set i (keyT secret i) = (keysT secret h).take (i + 1) ++ List.replicate (n - (i + 1)) ByteArray.empty) := Lib.hid (by
    have := set_step (keysT secret h) n i HK.out hlt
    rw [HKA.out i hlt] at this
    exact this)
   clear hll
   go_wp2_with fail
   refine (key_calls secret i wr hs (by omega) (HT.out.on HI.out.2)).mono ?_
   rintro e w2 ⟨rfl, h2⟩
   have HI2 : Hid (Own w.heap.size w2 (.slice (some ⟨w.heap.size, 0, none⟩) n n) ((keysT secret h).take i ++ List.replicate (n - i) ByteArray.empty) ∧ Below w.heap.size w w2) := Lib.hid ⟨HI.out.1.on h2, HI.out.2.trans (h2.mono HI.out.2.size)⟩
   clear h2 HI
   obtain ⟨hc1, hc2⟩ := own_cell HI2.out.1 i (by rw [HLL.out]; exact hlt)
   generalize (((keysT secret h).take i ++ List.replicate (n - i) ByteArray.empty).getD i ByteArray.empty) = s0 at *
   have HI3 : Hid (Own w.heap.size (w2.setCell ⟨w.heap.size, i, none⟩ (.string (keyT secret i))) (.slice (some ⟨w.heap.size, 0, none⟩) n n) ((keysT secret h).take (i + 1) ++ List.replicate (n - (i + 1)) ByteArray.empty) ∧ Below w.heap.size w (w2.setCell ⟨w.heap.size, i, none⟩ (.string (keyT secret i)))) := by
    rw [← HST.out]
    exact Lib.hid ⟨own_store HI2.out.1 i _ (by rw [HLL.out]; exact hlt), HI2.out.2.setCell (p := ⟨w.heap.size, i, none⟩) (Nat.le_refl _) _⟩
   generalize keyT secret i = ky at *
   have hlt' : (i : Int) < (n : Int) := by omega
   clear HI2 HST HLL
   go_wp2
   go_round
   case rel => exact ⟨i + 1, by go_num, by omega, HI3⟩
   case measure => simp only [RowKit.intOf]; omega
  ·have HO : Hid (Own w.heap.size wr (.slice (some ⟨w.heap.size, 0, none⟩) n n) (keysT secret h) ∧ Below w.heap.size w wr) := Lib.hid ⟨by
    have := HI.out.1
    rw [List.take_of_length_le (by rw [HK.out]; omega), show n - i = 0 by omega, List.replicate_zero, List.append_nil] at this
    exact this, HI.out.2⟩
   clear HI
   go_wp2
   go_ret
   exact ⟨_, rfl, HO.out.1, HO.out.2⟩
theorem public_calls (secret : ByteArray) (h : Nat) (w : World) (hs : secret.size ≤ 1099511627776) (hh : h ≤ 8) (hT : Tabs w) :
  Calls Tryz.prog 41 #[.string secret, .int .i64 (h : Int)] w fun e w' => e = .returned (.tuple #[.string (pubT secret h), .int .i64 0]) ∧ Below w.heap.size w w' := by
 have HT := Lib.hid hT
 clear hT
 have hd1 : decide ((h : Int) < 0) = false := decide_eq_false (by omega)
 have hd2 : decide ((8 : Int) < (h : Int)) = false := decide_eq_false (by omega)
 have HL := Lib.hid (keysT_len secret h)
 have HSZ : Hid (∀ s ∈ keysT secret h, s.size ≤ 1099511627776) := Lib.hid (fun s hs => by
  unfold keysT at hs
  obtain ⟨i, _, rfl⟩ := List.mem_map.1 hs
  rw [keyT_size]; omega)
 have HP : Hid (2 ^ h ≤ 256) := Lib.hid (Nat.pow_le_pow_right (n := 2) (by decide) hh)
 go_enter Tryz.func41, Tryz.ntmps41
 go_wp2_with fail
 refine (keys_calls secret h w hs (by omega) HT.out).mono ?_
 rintro e w1 ⟨vk, rfl, ho, h1⟩
 have HO := Lib.hid ho
 have H1 := Lib.hid h1
 clear ho h1
 go_wp2_with fail
 refine (root_calls _ (keysT secret h) vk w1 rfl HO.out.strc HSZ.out (by have := HL.out; have := HP.out; omega) (HT.out.on H1.out)).mono ?_
 rintro e w2 ⟨rfl, h2⟩
 have H2 := Lib.hid (H1.out.trans (h2.mono H1.out.size))
 clear h2
 go_wp2
 go_ret2
 exact ⟨rfl, H2.out⟩
end Go.Proofs.YtnkepmfgmfeabaaGreatDoor
set_option linter.unusedVariables false
namespace Go.Proofs.YtnkepmfgmfeabaaGreatDoor
open Go Go.RowKit

end Go.Proofs.YtnkepmfgmfeabaaGreatDoor
set_option linter.unusedVariables false
namespace Go.Proofs.YtnkepmfgmfeabaaGreatDoor
open Go Go.RowKit

end Go.Proofs.YtnkepmfgmfeabaaGreatDoor
set_option linter.unusedVariables false
namespace Go.Proofs.YtnkepmfgmfeabaaGreatDoor
open Go Go.RowKit Go.Shelf
attribute [local go_sem] Oper.semAt_some

theorem sdigits_calls (m : ByteArray) (w : World) :
  Calls Tryz.prog 79 #[.string m] w fun e w' => e = .returned (.func (.func 109) #[] #[.pointer (some ⟨w.heap.size, 0, none⟩)]) ∧ w' = w.alloc (.cells #[.string m] 9) := by
 go_enter Tryz.func79, Tryz.ntmps79
 go_wp2
 go_ret
 exact ⟨rfl, rfl⟩
/-- the numbers of the chains, first k -/
def digP (k : Nat) : List (Fin 18) := (List.finRange 18).take k
theorem digP_succ (k : Nat) (h : k < 18) : digP (k + 1) = digP k ++ [⟨k, h⟩] := by
 unfold digP
 rw [List.take_succ_eq_append_getElem (by simpa using h)]
 simp
theorem digP_len (k : Nat) (h : k ≤ 18) : (digP k).length = k := by simp [digP]; omega
theorem digP_map {α : Type} (f : Nat → α) : (digP 18).map (fun x => f x.val) = (List.range 18).map f := by
 rw [show (List.range 18) = (digP 18).map Fin.val from by decide, List.map_map]; rfl
theorem restOf_snoc (l : List Nat) (d : Nat) : restOf (l ++ [d]) = restOf l + (15 - d) := by simp [restOf]
theorem restOf_take (m : ByteArray) (k : Nat) (h : k < 16) : restOf ((hexDigs m).take (k + 1)) = restOf ((hexDigs m).take k) + (15 - (digsT m).getD k 0) := by
 have hl := hexDigs_len m
 rw [List.take_succ_eq_append_getElem (by omega), restOf_snoc]
 congr 2
 unfold digsT
 simp [List.getD, List.getElem?_append_left, hl, h]
theorem getD_two (A : List Nat) (x y : Nat) (n : Nat) (h : A.length = n) : (A ++ [x, y]).getD n 0 = x ∧ (A ++ [x, y]).getD (n + 1) 0 = y := by
 subst h
 constructor <;> simp [List.getD]
theorem dig16 (m : ByteArray) : (digsT m).getD 16 0 = restOf (hexDigs m) / 16 ∧ (digsT m).getD 17 0 = restOf (hexDigs m) % 16 := getD_two (hexDigs m) _ _ 16 (hexDigs_len m)
theorem hexAt (m : ByteArray) (k : Nat) (h : k < 16) : hexd ((sumS m).data.toList.getD k 0) = true ∧ (digsT m).getD k 0 = digN ((sumS m).data.toList.getD k 0) := by
 obtain ⟨h1, h2⟩ := sumS_list m
 have hl := hexDigs_len m
 have hk : k < (sumS m).data.toList.length := by omega
 refine ⟨by rw [show (sumS m).data.toList.getD k 0 = (sumS m).data.toList[k] by simp only [List.getD, List.getElem?_eq_getElem hk, Option.getD_some]]; exact h2 _ (List.getElem_mem hk), ?_⟩
 unfold digsT
 have h3 : (hexDigs m ++ [restOf (hexDigs m) / 16, restOf (hexDigs m) % 16]).getD k 0 = (hexDigs m).getD k 0 := by simp [List.getD, List.getElem?_append_left, hl, h]
 rw [h3]
 unfold hexDigs
 simp only [List.getD, List.getElem?_map, List.getElem?_eq_getElem hk, Option.map_some, Option.getD_some]
theorem index_hex (c : UInt8) (h : hexd c = true) : Lib.indexByte ([48, 49, 50, 51, 52, 53, 54, 55, 56, 57, 97, 98, 99, 100, 101, 102] : List UInt8) c = (digN c : Int) := by
 have : ∀ n : Fin 256, hexd (UInt8.ofNat n.val) = true → Lib.indexByte ([48, 49, 50, 51, 52, 53, 54, 55, 56, 57, 97, 98, 99, 100, 101, 102] : List UInt8) (UInt8.ofNat n.val) = (digN (UInt8.ofNat n.val) : Int) := by decide +kernel
 have hc := this ⟨c.toNat, UInt8.toNat_lt c⟩
 simpa using hc (by simpa using h)
end Go.Proofs.YtnkepmfgmfeabaaGreatDoor

namespace Go.Proofs.YtnkepmfgmfeabaaGreatDoor
open Go Go.RowKit Go.Shelf
attribute [local go_sem] Oper.semAt_some

theorem index_at (m s : ByteArray) (hS : sumS m = s) (k : Nat) (hk : k < 16) (hks : k < s.size) : Lib.indexByte hexC.data.toList ((s[k].toNat : Int)).toNat.toUInt8 = (((digsT m).getD k 0 : Nat) : Int) := by
 subst hS
 obtain ⟨h1, h2⟩ := hexAt m k hk
 have hl : k < (sumS m).data.toList.length := by rw [(sumS_list m).1]; exact hk
 have e : (sumS m)[k] = (sumS m).data.toList.getD k 0 := by
  rw [show (sumS m).data.toList.getD k 0 = (sumS m).data.toList[k] by simp only [List.getD, List.getElem?_eq_getElem hl, Option.getD_some]]
  rfl
 rw [Int.toNat_natCast, e, h2, show ((sumS m).data.toList.getD k 0).toNat.toUInt8 = (sumS m).data.toList.getD k 0 by simp]
 exact index_hex _ h1
set_option maxRecDepth 100000 in
set_option maxHeartbeats 1000000 in
theorem digits1_in (n : Nat) (hn : 1 ≤ n) (l Bs n₀ : Nat) (m : ByteArray) (hm : m.size ≤ 1099511627776) (J Jx : List (Fin 18) → World → Prop)
  (hY : ∀ pre (k : Nat) (hk : k < 18) W, J pre W → pre.length < 18 → YieldAt Fence.wide (n - 1) Tryz.prog l #[.int .i64 (k : Int), .int .i64 (((digsT m).getD k 0 : Nat) : Int)] W fun e W' =>
   (e = .returned (.bool true) ∧ J (pre ++ [⟨k, hk⟩]) W' ∧ Below n₀ W W') ∨ (e = .returned (.bool false) ∧ Jx (pre ++ [⟨k, hk⟩]) W'))
  (W : World) (hn₀ : n₀ ≤ W.heap.size) (hJ : AbidesFrom W.heap.size J) (hBs : W.cell? ⟨Bs, 0, none⟩ = some (.string m)) (h0 : J [] W) (hT : Tabs W) :
  CallsIn Fence.wide n Tryz.prog 109 #[.func (.yield l) #[] #[], .pointer (some ⟨Bs, 0, none⟩)] W fun e W' => (∃ v, e = .returned v) ∧
   ((∃ ys, ys = digP 18 ∧ J ys W') ∨ (∃ pre, (∃ k, k ≤ 18 ∧ pre = digP k) ∧ Jx pre W')) := by
 refine callsIn_of_wp Tryz.func109 rfl trivial ?_ rfl
 simp only [Tryz.ntmps109, List.size_toArray, List.length_cons, List.length_nil, Nat.reduceAdd, Nat.reduceSub, Array.replicate_succ, Array.replicate_zero, List.push_toArray, List.append_toArray, List.nil_append, List.cons_append]
 gi_wp2
 refine ⟨trivial, ?_⟩
 refine (callsIn_wide.2 (sum_calls m (by omega) W hT)).mono ?_
 rintro e w1 ⟨rfl, hb1⟩
 have hss := sumS_size m
 have hJ1 := hJ _ _ _ none h0 (grownBy_of_below hb1) (fun r e => by cases e)
 have hB1 : Below n₀ W w1 := hb1.mono hn₀
 generalize hS : sumS m = s at *
 have HS := Lib.hid hS
 clear hS
 gi_wp2
 gi_loopw [3, 11] (fun v3 v11 wr => ∃ k : Nat, v11 = .int .i64 (k : Int) ∧ v3 = .int .i64 (restOf ((hexDigs m).take k) : Int) ∧ k ≤ 16 ∧ J (digP k) wr ∧ Below n₀ W wr) (fun _ v11 _ => 16 - (intOf v11).toNat)
 case atStart => exact ⟨0, rfl, rfl, by omega, hJ1, hB1⟩
 case round =>
  obtain ⟨k, rfl, rfl, hk, hJk, hBk⟩ := hrel
  by_cases hlt : k < 16
  ·have hks : k < s.size := by omega
   have HIX := Lib.hid (index_at m s HS.out k hlt hks)
   have HRT := Lib.hid (restOf_take m k hlt)
   have hr1 := rest_le ((hexDigs m).take k)
   have hr2 : ((hexDigs m).take k).length ≤ 16 := by rw [List.length_take]; omega
   have hd15 := dig_le m k
   generalize restOf ((hexDigs m).take k) = r at *
   gi_wp2
   refine ⟨trivial, ?_⟩
   refine (callsIn_wide.2 (Tryz.strings_IndexByte _ _ _)).mono ?_
   rintro e w2 ⟨rfl, rfl⟩
   have hx := HIX.out
   unfold hexC at hx
   rw [hx]
   clear hx HIX
   have HDP := Lib.hid (digP_succ k (by omega))
   obtain ⟨fn, tmps, assign, body, hy, hR⟩ := hY (digP k) k (by omega) w2 hJk (by rw [digP_len _ (by omega)]; omega)
   generalize (digsT m).getD k 0 = d at *
   have HRT2 : Hid (restOf ((hexDigs m).take (k + 1)) = r + (15 - d)) := HRT
   gi_wp2
   refine hR.mono ?_
   rintro e W3 (⟨rfl, hJ3, hk3⟩ | ⟨rfl, hJx3⟩)
   ·gi_wp2
    go_roundw
    case rel => exact ⟨k + 1, by go_num, by rw [HRT2.out]; congr 1; omega, by omega, by rw [HDP.out]; exact hJ3, hBk.trans hk3⟩
    case measure => simp [intOf]; omega
   ·gi_wp2
    refine bodyPost_ret (results_none rfl _ _ _) rfl ?_
    exact ⟨⟨_, rfl⟩, .inr ⟨_, ⟨k + 1, by omega, by rw [HDP.out]⟩, hJx3⟩⟩
  ·obtain rfl : k = 16 := by omega
   have HFT : Hid (restOf ((hexDigs m).take 16) = restOf (hexDigs m)) := Lib.hid (by rw [List.take_of_length_le (by rw [hexDigs_len]; omega)])
   have hr1 := rest_le ((hexDigs m).take 16)
   have hr2 : ((hexDigs m).take 16).length ≤ 16 := by rw [List.length_take]; omega
   have HD16 := Lib.hid (dig16 m)
   have HP16 := Lib.hid (digP_succ 16 (by decide))
   have HP17 := Lib.hid (digP_succ 17 (by decide))
   rw [← HFT.out] at HD16
   clear HFT
   generalize restOf ((hexDigs m).take 16) = r at *
   have hY16 := hY (digP 16) 16 (by decide) wr hJk (by rw [digP_len _ (by decide)]; decide)
   have hY17 := fun W h => hY (digP 17) 17 (by decide) W h (by rw [digP_len _ (by decide)]; decide)
   rw [HD16.out.1] at hY16
   rw [HD16.out.2] at hY17
   obtain ⟨fn, tmps, assign, body, hy, hR⟩ := hY16
   have hr3 : r ≤ 240 := by omega
   obtain ⟨q, hq⟩ : ∃ q, q = r / 16 := ⟨_, rfl⟩
   obtain ⟨t, ht⟩ : ∃ t, t = r % 16 := ⟨_, rfl⟩
   have hq1 : (r : Int) / 16 = (q : Int) := by omega
   have hq2 : (r : Int) % 16 = (t : Int) := by omega
   rw [← hq] at hy
   rw [show ((16 : Nat) : Int) = 16 from rfl] at hy
   rw [← ht] at hY17
   clear hr1 hr2 HD16 hq ht
   gi_wp2
   refine hR.mono ?_
   rintro e W3 (⟨rfl, hJ3, hk3⟩ | ⟨rfl, hJx3⟩)
   ·have hJ3' : J (digP 17) W3 := by rw [HP16.out]; exact hJ3
    clear hy hR
    obtain ⟨fn2, tmps2, assign2, body2, hy2, hR2⟩ := hY17 W3 hJ3'
    rw [show ((17 : Nat) : Int) = 17 from rfl] at hy2
    gi_wp2
    refine hR2.mono ?_
    rintro e W4 (⟨rfl, hJ4, hk4⟩ | ⟨rfl, hJx4⟩)
    ·gi_wp2
     go_end0
     exact ⟨⟨_, rfl⟩, .inl ⟨_, rfl, by rw [HP17.out]; exact hJ4⟩⟩
    ·gi_wp2
     go_end0
     exact ⟨⟨_, rfl⟩, .inr ⟨_, ⟨18, by omega, by rw [HP17.out]⟩, hJx4⟩⟩
   ·gi_wp2
    go_end0
    exact ⟨⟨_, rfl⟩, .inr ⟨_, ⟨17, by omega, by rw [HP16.out]⟩, hJx3⟩⟩
def digA (m : ByteArray) (k : Nat) : Nat := (digsT m).getD k 0
theorem digits_stops (n : Nat) (hn : 1 ≤ n) (Bs n₀ : Nat) (m : ByteArray) (hm : m.size ≤ 1099511627776) (w : World) (hn₀ : n₀ ≤ w.heap.size) (hBs : w.cell? ⟨Bs, 0, none⟩ = some (.string m)) (hBs' : Bs < w.heap.size) (hT : Tabs w) :
  SeqStopsK Fence.wide n Tryz.prog 109 #[.pointer (some ⟨Bs, 0, none⟩)] (fun x : Fin 18 => #[Value.int .i64 (x.val : Int), .int .i64 (digA m x.val : Int)]) (Below n₀) (fun ys => ys = digP 18) (fun pre => ∃ k, k ≤ 18 ∧ pre = digP k) 18 w := fun l J Jx W hW hJ _ hY h0 =>
 digits1_in n hn l Bs n₀ m hm J Jx (fun pre k hk W => hY pre ⟨k, hk⟩ W) W (Nat.le_trans hn₀ hW.size) hJ ((hW.cell (p := ⟨Bs, 0, none⟩) hBs').trans hBs) h0 (hT.on hW)
end Go.Proofs.YtnkepmfgmfeabaaGreatDoor
set_option linter.unusedVariables false
namespace Go.Proofs.YtnkepmfgmfeabaaGreatDoor
open Go Go.RowKit

def OwnF (B : Nat) (l : List ByteArray) : FKind := ⟨fun w v => Own B w v l, fun v b => v.ownBlock = some b⟩
theorem ownF_stable (B : Nat) (l : List ByteArray) : (OwnF B l).Stable B := by
 intro w w' v hb hf h
 have h : w.ownsRow B 9 1 v l.length (l.map Value.string) := h
 refine (show w'.ownsRow B 9 1 v l.length (l.map Value.string) from ⟨h.1, ?_⟩)
 rcases h.2 with hn | ⟨g, cap, cur, rfl, hB, hgg, rest⟩
 ·exact .inl hn
 ·exact .inr ⟨g, cap, cur, rfl, hB, by rw [hf g rfl]; exact hgg, rest⟩
theorem append_run_at {B : Nat} {w : World} {va vb : Value} {l1 l2 : List ByteArray} (ty : TypeId) (hA : Own B w va l1) (hC : IsStrC w vb l2) (hB : B ≤ w.heap.size) (hl : l1.length + l2.length ≤ 1099511627776) :
  ∃ v' w', (Builtin.append_ #[22, 22] ty #[va, vb]).run Tryz.prog w = .ok v' w' ∧ Own B w' v' (l1 ++ l2) ∧ w.grownBy w' va.ownBlock ∧ (v'.ownBlock = va.ownBlock ∨ v'.ownBlock = some w.heap.size) := by
 obtain ⟨it, hti, hz0, hz1, hz2⟩ : ∃ i, Tryz.prog.info? 9 = some i ∧ i.zero = some (.string ByteArray.empty) ∧ i.size = 1 ∧ i.bytes = 16 := info_parts (by kernel_rfl)
 obtain ⟨ao, cap, rfl, hlc, hcm, hcells⟩ := hC
 cases ao with
 | none =>
  have hn : l2 = [] := by
   cases l2 with
   | nil => rfl
   | cons x r => obtain ⟨b, o, e, _⟩ := hcells 0 (by simp); cases e
  subst hn
  refine ⟨va, w, ?_, by simpa using hA, World.grownBy.refl w _, .inl rfl⟩
  have hown : w.ownsRow B 9 1 va l1.length (l1.map Value.string) := hA
  rcases hown.2 with ⟨rfl, he⟩ | ⟨g, cp, cur, rfl, _, _, hnc, _⟩
  ·simp [Builtin.append_, run_underlying Tryz.underlying22, sizeOf, typeInfo, hti, Builtin.lenOf, Builtin.firstCells]
  ·simp [Builtin.append_, run_underlying Tryz.underlying22, sizeOf, typeInfo, hti, Builtin.lenOf, Builtin.firstCells, hnc, storeCells]
 | some ad =>
  obtain ⟨v', w', hr, h2, h3, _, h5⟩ := run_append_own_at (P := Tryz.prog) w B 22 ty 9 it (.string ByteArray.empty) 1 16 Tryz.underlying22 hti hz0 hz1 hz2 rfl (by decide) va l1.length (l1.map Value.string) hA ad l2.length cap (l2.map Value.string) (by simp) (fun j u hj => by
   have hjl : j < l2.length := by
    have := (List.getElem?_eq_some_iff.1 hj).1
    simpa using this
   obtain ⟨b, o, e, hlt, hc⟩ := hcells j hjl
   cases e
   rw [Lib.add_plain]
   rw [hc]
   rw [← hj]
   simp [List.getD, hjl]) (fun u hu => by obtain ⟨s, _, rfl⟩ := List.mem_map.1 hu; rfl) (by unfold maxLen; omega) (by omega) hB
  refine ⟨v', w', hr, ?_, h3, h5⟩
  unfold Own
  rw [List.length_append, List.map_append]
  exact h2
theorem fk_append {o : Oper} {a : Act} {w : World} {B : Nat} {C : Nat → Prop} (s x : Operand)
  (ho : o.op = .call { callee := .builtin .append, args := #[s, x], argTypes := #[22, 22] })
  {va vb : Value} {l1 l2 : List ByteArray} (hs : a.eval s = va) (hx : a.eval x = vb) (hA : Own B w va l1) (hC : IsStrC w vb l2) (hB : B ≤ w.heap.size) (hl : l1.length + l2.length ≤ 1099511627776)
  (hc : ∀ b, va.ownBlock = some b → C b) : fkindAt Tryz.prog o a w B C (OwnF B (l1 ++ l2)) := by
 obtain ⟨v', w', hr, h2, h3, h4⟩ := append_run_at o.type hA hC hB hl
 unfold fkindAt execOp
 simp only [ho, resolve, invoke, builtin, Sem.run_bind, Sem.run_pure, Result.andThen_ok, List.map_toArray, List.map_cons, List.map_nil, hs, hx, hr]
 refine ⟨⟨h3.os, h3.tape, h3.output, h3.size, fun b hb hn => h3.block b hb fun e => hn (hc b e.symm)⟩, h2, fun b hb => ⟨?_, (own_block h2 b hb).2⟩⟩
 have hb : v'.ownBlock = some b := hb
 rcases h4 with h | h
 ·exact .inr (hc b (by rw [← h]; exact hb))
 ·rw [h] at hb
  exact .inl (by cases hb; exact Nat.le_refl _)
theorem fk_own_of {B : Nat} {C : Nat → Prop} {w w' : World} {v : Value} {l : List ByteArray} (hB : B ≤ w.heap.size) (h : Own w.heap.size w' v l) (hb : Below w.heap.size w w') : FOut B C (OwnF B l) w w' v :=
 ⟨Fr.of_ext hb, own_mono h hB, fun b hf => ⟨.inl (own_block h b hf).1, (own_block h b hf).2⟩⟩
/-- a call whose value is a row of its own -/
theorem fk_own {f : FuncId} {args : Array Value} {w : World} {B : Nat} {C : Nat → Prop} {l : List ByteArray} (hB : B ≤ w.heap.size)
  (h : Calls Tryz.prog f args w fun e w' => ∃ v', e = .returned v' ∧ Own w.heap.size w' v' l ∧ Below w.heap.size w w') :
  Calls Tryz.prog f args w (fun e w'' => ∃ v, e = .returned v ∧ FOut B C (OwnF B l) w w'' v) :=
 h.mono fun e w' ⟨v, he, ho, hb⟩ => ⟨v, he, fk_own_of hB ho hb⟩
/-- a call of one value -/
theorem fk_val {f : FuncId} {args : Array Value} {w : World} {B : Nat} {C : Nat → Prop} {c : Value}
  (h : Calls Tryz.prog f args w fun e w' => e = .returned c ∧ Below w.heap.size w w') :
  Calls Tryz.prog f args w (fun e w'' => ∃ v, e = .returned v ∧ FOut B C (valF c) w w'' v) :=
 h.mono fun e w' ⟨he, hb⟩ => ⟨c, he, FOut.valExt hb rfl⟩
theorem ownF_st (B B' : Nat) (l : List ByteArray) : (OwnF B l).Stable B' := by
 intro w w' v hb hf h
 have h : w.ownsRow B 9 1 v l.length (l.map Value.string) := h
 refine (show w'.ownsRow B 9 1 v l.length (l.map Value.string) from ⟨h.1, ?_⟩)
 rcases h.2 with hn | ⟨g, cap, cur, rfl, hB, hgg, rest⟩
 ·exact .inl hn
 ·exact .inr ⟨g, cap, cur, rfl, hB, by rw [hf g rfl]; exact hgg, rest⟩
theorem strO_keep {w w' : World} {v : Value} {l : List ByteArray} (h : IsStrC w v l) (hs : w.heap.size ≤ w'.heap.size) (hf : ∀ b, v.ownBlock = some b → w'.heap[b]? = w.heap[b]?) : IsStrC w' v l := by
 obtain ⟨ao, cap, rfl, h2, h3, h4⟩ := h
 refine ⟨ao, cap, rfl, h2, h3, fun i hi => ?_⟩
 obtain ⟨b, o, e, hlt, hc⟩ := h4 i hi
 subst e
 exact ⟨b, o, rfl, Nat.lt_of_lt_of_le hlt hs, (World.cell?_of_block (a := ⟨b, o + i, none⟩) (hf b rfl)).trans hc⟩
/-- such a row beside no error -/
def TupO (l : List ByteArray) : FKind := ⟨fun w v => ∃ v', v = .tuple #[v', .int .i64 0] ∧ IsStrC w v' l ∧ ∀ b, v'.ownBlock = some b → b < w.heap.size, fun v b => ∃ v', v = .tuple #[v', .int .i64 0] ∧ v'.ownBlock = some b⟩
theorem tupO_st (B : Nat) (l : List ByteArray) : (TupO l).Stable B := fun w w' v hb hf ⟨v', e, h, hl⟩ => ⟨v', e, strO_keep h hb.size fun b hb => hf b ⟨v', e, hb⟩, fun b hb2 => Nat.lt_of_lt_of_le (hl b hb2) hb.size⟩
/-- the first of a pair -/
def FstK (x : Value) : FKind := ⟨fun _ v => x = .tuple #[v, .int .i64 0] ∧ ∃ ao n c, v = .slice ao n c, fun _ _ => False⟩
theorem fstK_st (B : Nat) (x : Value) : (FstK x).Stable B := fun _ _ _ _ _ h => h
/-- a store: the block that it leaves -/
def MemK (b : Nat) (o : Obj) : FKind := ⟨fun w _ => w.heap[b]? = some o, fun _ c => c = b⟩
theorem memK_st (B b : Nat) (o : Obj) : (MemK b o).Stable B := fun w w' v _ hf h => (hf b rfl).trans h
theorem fr_set {C : Nat → Prop} (w : World) (b o : Nat) (v : Value) (hC : C b) : Fr C w (w.setCell ⟨b, o, none⟩ v) :=
 ⟨rfl, rfl, rfl, by rw [World.size_setCell]; exact Nat.le_refl _, fun k _ hk => Below.heap_setCell w ⟨b, o, none⟩ v k (fun e => hk (by rw [e]; exact hC))⟩
theorem fk_store {o : Oper} {a : Act} {w : World} {B : Nat} {C : Nat → Prop} {b i : Nat} {v : Value} {ob : Obj} (h : (execOp a.eval o).run Tryz.prog w = .ok .skip (w.setCell ⟨b, i, none⟩ v))
  (hb : b < w.heap.size) (hC : C b) (hm : (w.setCell ⟨b, i, none⟩ v).heap[b]? = some ob) : fkindAt Tryz.prog o a w B C (MemK b ob) := by
 unfold fkindAt
 rw [h]
 exact ⟨fr_set w b i v hC, hm, fun c hc => by subst hc; exact ⟨.inr hC, by rw [World.size_setCell]; exact hb⟩⟩
theorem fk_tup {f : FuncId} {args : Array Value} {w : World} {B : Nat} {C : Nat → Prop} {l : List ByteArray}
  (h : Calls Tryz.prog f args w fun e w' => ∃ v', e = .returned (.tuple #[v', .int .i64 0]) ∧ IsStrC w' v' l ∧ (∀ b, v'.ownBlock = some b → w.heap.size ≤ b ∧ b < w'.heap.size) ∧ Below w.heap.size w w') :
  Calls Tryz.prog f args w (fun e w'' => ∃ v, e = .returned v ∧ FOut B C (TupO l) w w'' v) :=
 h.mono fun e w' ⟨v', he, hs, hn, hb⟩ => ⟨_, he, Fr.of_ext hb, ⟨v', rfl, hs, fun b hb2 => (hn b hb2).2⟩, fun b ⟨v2, e2, hb2⟩ => by
  have e3 : v' = v2 := by simpa using e2
  subst e3
  exact ⟨.inl (hn b hb2).1, (hn b hb2).2⟩⟩
theorem own_form {B : Nat} {w : World} {v : Value} {l : List ByteArray} (h : Own B w v l) : ∃ ao n cap, v = .slice ao n cap := by
 rcases h.2 with ⟨rfl, _⟩ | ⟨g, cap, cur, rfl, _⟩
 ·exact ⟨_, _, _, rfl⟩
 ·exact ⟨_, _, _, rfl⟩
theorem below_undrew {B : Nat} {w w' : World} (h : Below B w.drew w') : Below B w w' := ⟨h.os, h.tape, h.output, h.size, h.block⟩
theorem fk_load_own {o : Oper} {a : Act} {w : World} {B B' : Nat} {C : Nat → Prop} {v : Value} {l : List ByteArray} (h : (execOp a.eval o).run Tryz.prog w = .ok (.value v) w) (ho : Own B w v l) (hC : ∀ b, v.ownBlock = some b → C b) : fkindAt Tryz.prog o a w B' C (OwnF B l) :=
 fk_step h ⟨Fr.of_ext (Ext.refl w), ho, fun b hb => ⟨.inr (hC b hb), (own_block ho b hb).2⟩⟩
theorem strc_keep {w w' : World} {v : Value} {l : List ByteArray} (h : IsStrC w v l) (hs : w.heap.size ≤ w'.heap.size) (hc : ∀ b o s, w.cell? ⟨b, o, none⟩ = some (.string s) → w'.cell? ⟨b, o, none⟩ = some (.string s)) : IsStrC w' v l := by
 obtain ⟨ao, cap, rfl, h2, h3, h4⟩ := h
 refine ⟨ao, cap, rfl, h2, h3, fun i hi => ?_⟩
 obtain ⟨b, o, e, hlt, hcl⟩ := h4 i hi
 exact ⟨b, o, e, Nat.lt_of_lt_of_le hlt hs, hc b (o + i) _ hcl⟩
end Go.Proofs.YtnkepmfgmfeabaaGreatDoor
set_option linter.unusedVariables false
namespace Go.Proofs.YtnkepmfgmfeabaaGreatDoor
open Go Go.RowKit

/-- The world w' is az w was, but for the blocks of S and for new ones. -/
structure Chg (S : List Nat) (w w' : World) : Prop where
 os : w'.os = w.os
 tape : w'.tape = w.tape
 output : w'.output = w.output
 size : w.heap.size ≤ w'.heap.size
 block : ∀ k, k < w.heap.size → k ∉ S → w'.heap[k]? = w.heap[k]?
theorem Chg.refl (S : List Nat) (w : World) : Chg S w w := ⟨rfl, rfl, rfl, Nat.le_refl _, fun _ _ _ => rfl⟩
theorem Chg.trans {S : List Nat} {a b c : World} (h : Chg S a b) (k : Chg S b c) : Chg S a c :=
 ⟨k.os.trans h.os, k.tape.trans h.tape, k.output.trans h.output, Nat.le_trans h.size k.size, fun i hi hS => (k.block i (Nat.lt_of_lt_of_le hi h.size) hS).trans (h.block i hi hS)⟩
theorem Chg.of_below {w w' : World} (h : Below w.heap.size w w') (S : List Nat) : Chg S w w' := ⟨h.os, h.tape, h.output, h.size, fun k hk _ => h.block k hk⟩
theorem heap_set_same (w : World) (b o : Nat) (v : Value) (cs : Array Value) (t : TypeId) (fr : Nat × Nat) (h : w.heap[b]? = some (.cells cs t fr)) : (w.setCell ⟨b, o, none⟩ v).heap[b]? = some (.cells (cs.setIfInBounds o v) t fr) := by
 simp only [World.setCell, Array.getElem?_modify]
 simp [h]
theorem heap_set_other (w : World) (b o : Nat) (v : Value) (k : Nat) (h : k ≠ b) : (w.setCell ⟨b, o, none⟩ v).heap[k]? = w.heap[k]? := by
 simp only [World.setCell, Array.getElem?_modify]
 simp [Ne.symm h]
theorem Chg.set {S : List Nat} {w w' : World} (h : Chg S w w') (b o : Nat) (v : Value) (hb : b ∈ S) : Chg S w (w'.setCell ⟨b, o, none⟩ v) :=
 ⟨h.os, h.tape, h.output, by rw [World.size_setCell]; exact h.size, fun k hk hS => (heap_set_other w' b o v k (fun e => hS (e ▸ hb))).trans (h.block k hk hS)⟩
theorem Chg.cell {S : List Nat} {w w' : World} (h : Chg S w w') {b o : Nat} (hb : b < w.heap.size) (hS : b ∉ S) : w'.cell? ⟨b, o, none⟩ = w.cell? ⟨b, o, none⟩ := World.cell?_of_block (h.block b hb hS)

/-- What is left of a proof: the first j of p0 in the variable's block lb; the struct in block pb. -/
structure Rd0 (W0 : World) (lb pb : Nat) (ao : Option Addr) (cap : Nat) (p0 : List ByteArray) : Prop where
 ne : lb ≠ pb
 llt : lb < W0.heap.size
 plt : pb < W0.heap.size
 len : p0.length ≤ cap
 max : cap ≤ maxLen
 sz : ∀ s ∈ p0, s.size = 16
 str : ∀ i, i < p0.length → ∃ b o, ao = some ⟨b, o, none⟩ ∧ b < W0.heap.size ∧ b ≠ lb ∧ b ≠ pb ∧ W0.cell? ⟨b, o + i, none⟩ = some (.string (p0.getD i ByteArray.empty))
structure Rd (W0 : World) (lb pb : Nat) (ao : Option Addr) (cap : Nat) (j : Nat) (s : Bool) (W : World) : Prop where
 chg : Chg [lb, pb] W0 W
 l : W.heap[lb]? = some (.cells #[.slice ao j cap] 166 (0, 0))
 p : W.heap[pb]? = some (.cells #[.pointer (some ⟨lb, 0, none⟩), .bool s] 170 (0, 0))
theorem Rd.below {W0 W W' : World} {lb pb cap j : Nat} {ao : Option Addr} {s : Bool} (h : Rd W0 lb pb ao cap j s W) (hb : Below W.heap.size W W') : Rd W0 lb pb ao cap j s W' :=
 ⟨h.chg.trans (Chg.of_below hb _), by rw [hb.block lb (Array.getElem?_eq_some_iff.1 h.l).1]; exact h.l, by rw [hb.block pb (Array.getElem?_eq_some_iff.1 h.p).1]; exact h.p⟩
theorem Rd.lc {W0 W : World} {lb pb cap j : Nat} {ao : Option Addr} {s : Bool} (h : Rd W0 lb pb ao cap j s W) : W.cell? ⟨lb, 0, none⟩ = some (.slice ao j cap) := by rw [cell_of_row W lb 0 _ _ _ h.l]; rfl
theorem Rd.lf {W0 W : World} {lb pb cap j : Nat} {ao : Option Addr} {s : Bool} (h : Rd W0 lb pb ao cap j s W) (o : Nat) : W.frozen? ⟨lb, o, none⟩ = false := by simp [World.frozen?, h.l]
theorem Rd.pc0 {W0 W : World} {lb pb cap j : Nat} {ao : Option Addr} {s : Bool} (h : Rd W0 lb pb ao cap j s W) : W.cell? ⟨pb, 0, none⟩ = some (.pointer (some ⟨lb, 0, none⟩)) := by rw [cell_of_row W pb 0 _ _ _ h.p]; rfl
theorem Rd.pc1 {W0 W : World} {lb pb cap j : Nat} {ao : Option Addr} {s : Bool} (h : Rd W0 lb pb ao cap j s W) : W.cell? ⟨pb, 1, none⟩ = some (.bool s) := by rw [cell_of_row W pb 1 _ _ _ h.p]; rfl
theorem Rd.pf {W0 W : World} {lb pb cap j : Nat} {ao : Option Addr} {s : Bool} (h : Rd W0 lb pb ao cap j s W) (o : Nat) : W.frozen? ⟨pb, o, none⟩ = false := by simp [World.frozen?, h.p]
theorem Rd.setL {W0 W : World} {lb pb cap j : Nat} {ao : Option Addr} {s : Bool} {p0 : List ByteArray} (h0 : Rd0 W0 lb pb ao cap p0) (h : Rd W0 lb pb ao cap j s W) (i : Nat) : Rd W0 lb pb ao cap i s (W.setCell ⟨lb, 0, none⟩ (.slice ao i cap)) :=
 ⟨h.chg.set lb 0 _ (by simp), by rw [heap_set_same W lb 0 _ _ _ _ h.l]; rfl, by rw [heap_set_other W lb 0 _ pb (Ne.symm h0.ne)]; exact h.p⟩
theorem Rd.setS {W0 W : World} {lb pb cap j : Nat} {ao : Option Addr} {s : Bool} {p0 : List ByteArray} (h0 : Rd0 W0 lb pb ao cap p0) (h : Rd W0 lb pb ao cap j s W) (s' : Bool) : Rd W0 lb pb ao cap j s' (W.setCell ⟨pb, 1, none⟩ (.bool s')) :=
 ⟨h.chg.set pb 1 _ (by simp), by rw [heap_set_other W pb 1 _ lb h0.ne]; exact h.l, by rw [heap_set_same W pb 1 _ _ _ _ h.p]; rfl⟩
theorem Rd.drew {W0 W : World} {lb pb cap j : Nat} {ao : Option Addr} {s : Bool} (h : Rd W0 lb pb ao cap j s W) : Rd W0 lb pb ao cap j s W.drew := h.below (Below.refl _ _).drew
theorem popV_take (p : List ByteArray) (j : Nat) (hj : j < p.length) : popV (p.take (j + 1)) = p.getD j ByteArray.empty := by
 rw [List.take_add_one, List.getElem?_eq_getElem hj]
 simp only [Option.toList, popV_append, List.getD, List.getElem?_eq_getElem hj, Option.getD_some]
theorem popV_nil (p : List ByteArray) : popV (p.take 0) = ByteArray.empty := by simp [popV]

theorem pop_calls {W0 W : World} {lb pb cap j : Nat} {ao : Option Addr} {s : Bool} {p0 : List ByteArray} (h0 : Rd0 W0 lb pb ao cap p0) (h : Rd W0 lb pb ao cap j s W) (hj : j ≤ p0.length) :
  Calls Tryz.prog 135 #[.pointer (some ⟨lb, 0, none⟩)] W fun e W' => e = .returned (.string (popV (p0.take j))) ∧ Rd W0 lb pb ao cap (j - 1) s W' := by
 have H0 := Lib.hid h0
 have H := Lib.hid h
 have hc := h.lc
 clear h0 h
 cases j with
 | zero =>
  go_enter Tryz.func135, Tryz.ntmps135
  go_wp2
  go_ret
  exact ⟨by rw [popV_nil]; rfl, H.out⟩
 | succ i =>
  obtain ⟨b, o, rfl, hlt, hn1, hn2, hs⟩ := H0.out.str i (by omega)
  have hsw : W.cell? ⟨b, o + i, none⟩ = some (.string (popV (p0.take (i + 1)))) := by rw [H.out.chg.cell hlt (by simp [hn1, hn2]), hs, popV_take _ _ (by omega)]
  have hcap : i + 1 ≤ cap := Nat.le_trans hj H0.out.len
  have hcm : cap ≤ 9223372036854775807 := H0.out.max
  have hf := H.out.lf 0
  generalize popV (p0.take (i + 1)) = d at *
  have HS := Lib.hid (H.out.setL H0.out i)
  have HS2 := Lib.hid (H.out.drew.drew.setL H0.out i)
  clear hs hn1 hn2 hlt
  go_enter Tryz.func135, Tryz.ntmps135
  go_wp2_with fail
  go_region
  go_wp2_with fail
  go_region
  go_wp2
  go_ret
  exact ⟨rfl, HS2.out⟩
theorem next_calls {W0 W : World} {lb pb cap j : Nat} {ao : Option Addr} {s : Bool} {p0 : List ByteArray} (h0 : Rd0 W0 lb pb ao cap p0) (h : Rd W0 lb pb ao cap j s W) (hj : j ≤ p0.length) :
  Calls Tryz.prog 125 #[.pointer (some ⟨pb, 0, none⟩)] W fun e W' => e = .returned (.string (popV (p0.take j))) ∧ Rd W0 lb pb ao cap (j - 1) (s || decide (j = 0)) W' := by
 have H0 := Lib.hid h0
 have H := Lib.hid h
 have hc := h.pc0
 have hz : Hid ((popV (p0.take j)).toList.isEmpty = decide (j = 0)) := by
  rw [ByteArray.toList_eq]
  cases j with
  | zero => rw [popV_nil]; exact Lib.hid (by simp)
  | succ i =>
   rw [popV_take _ _ (by omega)]
   have h1 := h0.sz (p0.getD i ByteArray.empty) (by simp [List.getD, show i < p0.length by omega])
   rw [Lib.size_eq] at h1
   refine Lib.hid ?_
   rw [decide_eq_false (by omega : ¬ i + 1 = 0)]
   cases hl : (p0.getD i ByteArray.empty).data.toList with
   | nil => rw [hl] at h1; cases h1
   | cons => rfl
 clear h0 h
 go_enter Tryz.func125, Tryz.ntmps125
 go_wp2_with fail
 refine (pop_calls H0.out H.out hj).mono ?_
 rintro e W1 ⟨rfl, h1⟩
 have hp := h1.pc1
 have hf := h1.pf 1
 have H1 := Lib.hid h1
 clear h1 hc H
 have hz2 := hz.out
 clear hz
 have HS := Lib.hid (H1.out.setS H0.out (s || decide (j = 0)))
 cases s with
 | true =>
  go_wp2
  go_ret
  exact ⟨rfl, HS.out⟩
 | false =>
  go_wp2
  go_ret
  exact ⟨rfl, HS.out⟩
theorem done_calls {W0 W : World} {lb pb cap j : Nat} {ao : Option Addr} {s : Bool} {p0 : List ByteArray} (h0 : Rd0 W0 lb pb ao cap p0) (h : Rd W0 lb pb ao cap j s W) :
  Calls Tryz.prog 126 #[.pointer (some ⟨pb, 0, none⟩)] W fun e W' => e = .returned (.bool (!s && decide (j = 0))) ∧ W' = W := by
 have hc := h.pc0
 have hc1 := h.pc1
 have hl := h.lc
 clear h0 h
 cases s with
 | true =>
  go_enter Tryz.func126, Tryz.ntmps126
  go_wp2
  go_ret
  exact ⟨rfl, rfl⟩
 | false =>
  have hd : ((j : Int) == 0) = decide (j = 0) := by
   by_cases e : j = 0
   ·subst e; rfl
   ·rw [decide_eq_false e, beq_eq_false_iff_ne]; omega
  go_enter Tryz.func126, Tryz.ntmps126
  go_wp2
  go_ret
  exact ⟨rfl, rfl⟩
end Go.Proofs.YtnkepmfgmfeabaaGreatDoor
set_option linter.unusedVariables false
namespace Go.Proofs.YtnkepmfgmfeabaaGreatDoor
open Go Go.RowKit Go.Shelf

theorem calls_of_wp_marks {n : Nat} {P : Program} {f : FuncId} {fn : Func} {c : Code} {args : Array Value} {w : World} {R : Ending → World → Prop}
  (hf : P.funcs[f]? = some fn) (hb : fn.body = some c) (h : c.wp P (bodyPostM Fence.wide n P fn R) { tmps := args ++ Array.replicate (fn.ntmps - args.size) undef, defers := [] } w) : Calls P f args w R :=
 callsIn_wide.1 (callsIn_of_wp_marks hf hb trivial (wpIn_wide.2 h))
theorem wp_normal {P : Program} {c : Code} {K : Act → World → Prop} {Q' : Exit → Act → World → Prop} {a : Act} {w : World} (h : c.wp P (Exit.then K (fun _ _ _ => False)) a w) : c.wp P (Exit.then K Q') a w :=
 wp_mono h fun e _ _ hq => by cases e <;> first | exact hq | exact hq.elim
theorem own_cells {B : Nat} {w : World} {v : Value} {l : List ByteArray} (h : Own B w v l) {b : Nat} (hb : v.ownBlock = some b) : ∃ cs t f, w.heap[b]? = some (.cells cs t f) := by
 rcases h.2 with ⟨rfl, _⟩ | ⟨g, cap, cur, rfl, hB, hgg, rest⟩
 ·cases hb
 ·cases hb; exact ⟨_, _, _, hgg⟩
/-- a seal under way: its block, the texts that its second field holds -/
def SigAt (ob : Nat) (T : TypeId) (x : Value) (W1 : World) (l : List ByteArray) (W : World) : Prop :=
 ∃ v, W.heap[ob]? = some (.cells #[x, v, .slice none 0 0] T (0, 0)) ∧ Own (ob + 1) W v l ∧ Below ob W1 W
theorem sigAt_from {β : Type} {ob : Nat} {T : TypeId} {x : Value} {W1 : World} (f : β → List ByteArray) {B : Nat} (hB : ob + 1 ≤ B) (hob : ob ≤ W1.heap.size) : OwnFrom B (fun s W => SigAt ob T x W1 (f s) W) := by
 rintro s W W' row ⟨v, h1, h2, h3⟩ hg hr
 have hk : ∀ k cs t fr, W.heap[k]? = some (Obj.cells cs t fr) → W'.heap[k]? = W.heap[k]? := fun k cs t fr hk => hg.block k (Array.getElem?_eq_some_iff.1 hk).1 (fun e => by
  obtain ⟨_, o, ho, hc⟩ := hr k e.symm
  rw [hk] at ho; cases ho; cases hc)
 have hlt : ob < W.heap.size := (Array.getElem?_eq_some_iff.1 h1).1
 have hb : Below (ob + 1) W W' := ⟨hg.os, hg.tape, hg.output, hg.size, fun k hk2 => hg.block k (by omega) (fun e => by have := (hr k e.symm).1; omega)⟩
 refine ⟨v, (hk _ _ _ _ h1).trans h1, ?_, h3.trans (hb.mono (by omega))⟩
 exact ownF_stable (ob + 1) (f s) W W' v hb (fun b hb2 => by
  obtain ⟨cs, t, fr, he⟩ := own_cells h2 hb2
  exact hk b cs t fr he) h2
theorem keeps_of {W W' : World} {S : Nat → Prop} (hs : W.heap.size ≤ W'.heap.size) (hk : ∀ b, b < W.heap.size → ¬ S b → W'.heap[b]? = W.heap[b]?) (hc : ∀ b, S b → ∃ cs t f, W.heap[b]? = some (.cells cs t f)) : KeepsOthers W W' :=
 ⟨hs, fun k o hk2 ho => by
  refine (hk k (Array.getElem?_eq_some_iff.1 hk2).1 (fun h => ?_)).trans hk2
  obtain ⟨cs, t, f, he⟩ := hc k h
  rw [hk2] at he; cases he; cases ho⟩
theorem chainN_nat (n : Nat) (h : n ≤ 1000) : chainN (n : Int) = n := by unfold chainN; split <;> (try split) <;> omega
theorem sig_map (secret : ByteArray) (i : Nat) (m : ByteArray) : (digP 18).map (fun x => chainS (startT secret i x.val) (digA m x.val)) = sigT secret i m := digP_map (fun k => chainS (startT secret i k) ((digsT m).getD k 0))
theorem keys_sizes (secret : ByteArray) (h : Nat) : ∀ s ∈ keysT secret h, s.size ≤ 1099511627776 := fun s hs => by
 unfold keysT at hs
 obtain ⟨i, _, rfl⟩ := List.mem_map.1 hs
 rw [keyT_size]; omega
theorem strc_form {w : World} {v : Value} {l : List ByteArray} (h : IsStrC w v l) : ∃ ao cap, v = .slice ao l.length cap := by
 obtain ⟨ao, cap, e, _⟩ := h
 exact ⟨ao, cap, e⟩
theorem sign_end {W : World} {rb D : Nat} {x v p : Value} {T : TypeId} (hr : W.heap[rb]? = some (.cells #[.int .i64 0, .slice none 0 0, .slice none 0 0] T (0, 0))) (hD : W.heap[D]? = some (.deferred (some []))) :
  (((W.setCell ⟨rb, 0, none⟩ x).setCell ⟨rb, 1, none⟩ v).setCell ⟨rb, 2, none⟩ p).heap[D]? = some (.deferred (some [])) ∧
  ((((W.setCell ⟨rb, 0, none⟩ x).setCell ⟨rb, 1, none⟩ v).setCell ⟨rb, 2, none⟩ p).putObj D (.deferred none)).heap[rb]? = some (.cells #[x, v, p] T (0, 0)) ∧
  (∀ b o s, W.cell? ⟨b, o, none⟩ = some (.string s) → ((((W.setCell ⟨rb, 0, none⟩ x).setCell ⟨rb, 1, none⟩ v).setCell ⟨rb, 2, none⟩ p).putObj D (.deferred none)).cell? ⟨b, o, none⟩ = some (.string s)) ∧
  W.heap.size ≤ ((((W.setCell ⟨rb, 0, none⟩ x).setCell ⟨rb, 1, none⟩ v).setCell ⟨rb, 2, none⟩ p).putObj D (.deferred none)).heap.size ∧
  ∀ B, B ≤ rb → B ≤ D → Below B W ((((W.setCell ⟨rb, 0, none⟩ x).setCell ⟨rb, 1, none⟩ v).setCell ⟨rb, 2, none⟩ p).putObj D (.deferred none)) := by
 have hne : rb ≠ D := fun e => by subst e; rw [hr] at hD; cases hD
 have h1 := heap_set_same W rb 0 x _ _ _ hr
 have h2 := heap_set_same _ rb 1 v _ _ _ h1
 have h3 := heap_set_same _ rb 2 p _ _ _ h2
 have hk : ∀ k, k ≠ rb → (((W.setCell ⟨rb, 0, none⟩ x).setCell ⟨rb, 1, none⟩ v).setCell ⟨rb, 2, none⟩ p).heap[k]? = W.heap[k]? := fun k hk => by
  rw [heap_set_other _ rb 2 p k hk, heap_set_other _ rb 1 v k hk, heap_set_other _ rb 0 x k hk]
 have hsz : (((W.setCell ⟨rb, 0, none⟩ x).setCell ⟨rb, 1, none⟩ v).setCell ⟨rb, 2, none⟩ p).heap.size = W.heap.size := by simp only [World.size_setCell]
 have hDF := (hk D (Ne.symm hne)).trans hD
 have hBF : ∀ B, B ≤ rb → Below B W (((W.setCell ⟨rb, 0, none⟩ x).setCell ⟨rb, 1, none⟩ v).setCell ⟨rb, 2, none⟩ p) := fun B hB => (((Below.refl _ _).setCell (p := ⟨rb, 0, none⟩) hB x).setCell (p := ⟨rb, 1, none⟩) hB v).setCell (p := ⟨rb, 2, none⟩) hB p
 generalize (((W.setCell ⟨rb, 0, none⟩ x).setCell ⟨rb, 1, none⟩ v).setCell ⟨rb, 2, none⟩ p) = WF at *
 have hg := grownBy_putObj' WF D (.deferred none)
 have hrF : (WF.putObj D (.deferred none)).heap[rb]? = WF.heap[rb]? := hg.block rb (Array.getElem?_eq_some_iff.1 h3).1 (fun e => hne (Option.some.inj e))
 refine ⟨hDF, hrF.trans h3, fun b o s hc => ?_, by have := hg.size; omega, fun B h4 h5 => ?_⟩
 ·have hlt := World.block_lt_of_cell? W _ hc
  have hb1 : b ≠ rb := fun e => by
   subst e
   rw [cell_of_row _ _ o _ _ _ hr] at hc
   match o, hc with
   | 0, hc => simp at hc
   | 1, hc => simp at hc
   | 2, hc => simp at hc
   | o + 3, hc => simp at hc
  have hb2 : b ≠ D := fun e => by
   subst e
   simp [World.cell?, hD] at hc
  have : (WF.putObj D (.deferred none)).heap[b]? = W.heap[b]? := (hg.block b (by have : b < W.heap.size := hlt; omega) (fun e => hb2 (Option.some.inj e))).trans (hk b hb1)
  rw [World.cell?_of_block (a := ⟨b, o, none⟩) this]; exact hc
 ·have h6 := hBF B h4
  refine h6.trans ⟨hg.os, hg.tape, hg.output, hg.size, fun k hk2 => hg.block k ?_ (fun e => by have := Option.some.inj e; omega)⟩
  have := (Array.getElem?_eq_some_iff.1 hDF).1
  omega
theorem push_old (h : Array Obj) (o : Obj) (k : Nat) (hk : k < h.size) : (h.push o)[k]? = h[k]? := by rw [Array.getElem?_push, if_neg (by omega)]
theorem push_at (h : Array Obj) (o : Obj) (k : Nat) (hk : k = h.size) : (h.push o)[k]? = some o := by subst hk; simp
theorem heap_five (w : World) (q : Nat) (a b c d e : Obj) :
  let W := (((((w.alloc a).alloc b).alloc c).drewN q).alloc d).alloc e
  W.heap.size = w.heap.size + 5 ∧ W.heap[w.heap.size]? = some a ∧ W.heap[w.heap.size + 1]? = some b ∧ W.heap[w.heap.size + 1 + 1]? = some c ∧ W.heap[w.heap.size + 1 + 1 + 1]? = some d ∧ W.heap[w.heap.size + 1 + 1 + 1 + 1]? = some e := by
 show (((((w.heap.push a).push b).push c).push d).push e).size = _ ∧ (((((w.heap.push a).push b).push c).push d).push e)[w.heap.size]? = _ ∧ (((((w.heap.push a).push b).push c).push d).push e)[w.heap.size + 1]? = _ ∧ (((((w.heap.push a).push b).push c).push d).push e)[w.heap.size + 1 + 1]? = _ ∧ (((((w.heap.push a).push b).push c).push d).push e)[w.heap.size + 1 + 1 + 1]? = _ ∧ (((((w.heap.push a).push b).push c).push d).push e)[w.heap.size + 1 + 1 + 1 + 1]? = _
 refine ⟨by simp, ?_, ?_, ?_, ?_, ?_⟩
 ·rw [push_old _ _ _ (by simp <;> omega), push_old _ _ _ (by simp <;> omega), push_old _ _ _ (by simp <;> omega), push_old _ _ _ (by simp), push_at _ _ _ rfl]
 ·rw [push_old _ _ _ (by simp <;> omega), push_old _ _ _ (by simp <;> omega), push_old _ _ _ (by simp), push_at _ _ _ (by simp)]
 ·rw [push_old _ _ _ (by simp <;> omega), push_old _ _ _ (by simp), push_at _ _ _ (by simp)]
 ·rw [push_old _ _ _ (by simp), push_at _ _ _ (by simp)]
 ·rw [push_at _ _ _ (by simp)]
theorem below_five (w : World) (q : Nat) (a b c d e : Obj) : Below w.heap.size w ((((((w.alloc a).alloc b).alloc c).drewN q).alloc d).alloc e) := by
 have h3 : Below w.heap.size w (((w.alloc a).alloc b).alloc c) := (((Below.refl _ w).alloc (Nat.le_refl _) a).alloc (by simp) b).alloc (by simp <;> omega) c
 have h4 := below_drewN h3 q
 exact (h4.alloc h4.size d).alloc (by have := h4.size; simp; omega) e
end Go.Proofs.YtnkepmfgmfeabaaGreatDoor

namespace Go.Proofs.YtnkepmfgmfeabaaGreatDoor
open Go Go.RowKit Go.Shelf
attribute [local go_sem] Oper.semAt_some

end Go.Proofs.YtnkepmfgmfeabaaGreatDoor

namespace Go.Proofs.YtnkepmfgmfeabaaGreatDoor
open Go Go.RowKit

end Go.Proofs.YtnkepmfgmfeabaaGreatDoor
set_option linter.unusedVariables false
namespace Go.Proofs.YtnkepmfgmfeabaaGreatDoor
open Go Go.RowKit

/-- what the closures capture -/
structure Up0 (w W0 : World) (lb pb vb ub xb : Nat) (ao : Option Addr) (cap : Nat) (p0 : List ByteArray) (x : ByteArray) (fn : Value) : Prop where
 rd : Rd0 W0 lb pb ao cap p0
 base : Below w.heap.size w W0
 l0 : w.heap.size ≤ lb
 p0 : w.heap.size ≤ pb
 v : vb < W0.heap.size ∧ vb ≠ lb ∧ vb ≠ pb ∧ W0.cell? ⟨vb, 0, none⟩ = some (.pointer (some ⟨pb, 0, none⟩))
 u : ub < W0.heap.size ∧ ub ≠ lb ∧ ub ≠ pb ∧ W0.cell? ⟨ub, 0, none⟩ = some fn
 x : xb < W0.heap.size ∧ xb ≠ lb ∧ xb ≠ pb ∧ W0.cell? ⟨xb, 0, none⟩ = some (.string x)
 tabs : Tabs w
theorem Up0.vc {w W0 W : World} {lb pb vb ub xb cap j : Nat} {ao : Option Addr} {p0 : List ByteArray} {x : ByteArray} {fn : Value} {s : Bool} (h0 : Up0 w W0 lb pb vb ub xb ao cap p0 x fn) (h : Rd W0 lb pb ao cap j s W) : W.cell? ⟨vb, 0, none⟩ = some (.pointer (some ⟨pb, 0, none⟩)) := by
 rw [h.chg.cell h0.v.1 (by simp [h0.v.2.1, h0.v.2.2.1])]; exact h0.v.2.2.2
theorem Up0.uc {w W0 W : World} {lb pb vb ub xb cap j : Nat} {ao : Option Addr} {p0 : List ByteArray} {x : ByteArray} {fn : Value} {s : Bool} (h0 : Up0 w W0 lb pb vb ub xb ao cap p0 x fn) (h : Rd W0 lb pb ao cap j s W) : W.cell? ⟨ub, 0, none⟩ = some fn := by
 rw [h.chg.cell h0.u.1 (by simp [h0.u.2.1, h0.u.2.2.1])]; exact h0.u.2.2.2
theorem Up0.xc {w W0 W : World} {lb pb vb ub xb cap j : Nat} {ao : Option Addr} {p0 : List ByteArray} {x : ByteArray} {fn : Value} {s : Bool} (h0 : Up0 w W0 lb pb vb ub xb ao cap p0 x fn) (h : Rd W0 lb pb ao cap j s W) : W.cell? ⟨xb, 0, none⟩ = some (.string x) := by
 rw [h.chg.cell h0.x.1 (by simp [h0.x.2.1, h0.x.2.2.1])]; exact h0.x.2.2.2
theorem Up0.below {w W0 W : World} {lb pb vb ub xb cap j : Nat} {ao : Option Addr} {p0 : List ByteArray} {x : ByteArray} {fn : Value} {s : Bool} (h0 : Up0 w W0 lb pb vb ub xb ao cap p0 x fn) (h : Rd W0 lb pb ao cap j s W) : Below w.heap.size w W := by
 refine ⟨h.chg.os.trans h0.base.os, h.chg.tape.trans h0.base.tape, h.chg.output.trans h0.base.output, Nat.le_trans h0.base.size h.chg.size, fun k hk => ?_⟩
 have h1 := h0.l0
 have h2 := h0.p0
 rw [h.chg.block k (Nat.lt_of_lt_of_le hk h0.base.size) (by simp; omega)]
 exact h0.base.block k hk
theorem take_dropLast (p : List ByteArray) (j : Nat) (hj : j ≤ p.length) : (p.take j).dropLast = p.take (j - 1) := by
 cases j with
 | zero => simp
 | succ i =>
  rw [List.take_add_one, List.getElem?_eq_getElem (by omega)]
  simp only [Option.toList, List.dropLast_concat, Nat.add_sub_cancel]
theorem or_short (s : Bool) (j L : Nat) : ((s || decide (j = 0)) || decide (j - 1 < L)) = (s || decide (j < 1 + L)) := by
 rw [Bool.or_assoc]
 congr 1
 by_cases h : j = 0
 ·subst h; simp; omega
 ·rw [decide_eq_false h, Bool.false_or]
  exact decide_eq_decide.2 (by omega)
theorem upT_one (i : Nat) (d : ByteArray) (p : List ByteArray) : upT 1 i d p = d := by rw [upT, dif_pos (Nat.le_refl 1)]
theorem upT_many {n : Nat} (h : 2 ≤ n) (i : Nat) (d : ByteArray) (p : List ByteArray) : upT n i d p = if i < half n then dg [sNode, upT (half n) i d p.dropLast, popV p] else dg [sNode, popV p, upT (n - half n) (i - half n) d p.dropLast] := by
 rw [upT, dif_neg (by omega)]
theorem lenT_many {n : Nat} (h : 2 ≤ n) (i : Nat) : lenT n i = if i < half n then 1 + lenT (half n) i else 1 + lenT (n - half n) (i - half n) := by
 rw [lenT, dif_neg (by omega)]
theorem upT_size (n i : Nat) (d : ByteArray) (p : List ByteArray) (hd : d.size = 16) : (upT n i d p).size = 16 := by
 rw [upT]
 split
 ·exact hd
 ·split <;> exact dg_size _
theorem popV_size {p : List ByteArray} (h : ∀ s ∈ p, s.size = 16) (j : Nat) : (popV (p.take j)).size ≤ 16 := by
 unfold popV
 cases hl : (p.take j).getLast? with
 | none => exact Nat.zero_le _
 | some a =>
  have := h a (List.mem_of_mem_take (List.mem_of_getLast? hl))
  show a.size ≤ 16
  omega

set_option maxRecDepth 100000 in
set_option maxHeartbeats 1000000 in
theorem up_calls {w W0 : World} {lb pb vb ub xb cap : Nat} {ao : Option Addr} {p0 : List ByteArray} {x : ByteArray} (hx : x.size ≤ 1099511627776)
  (h0 : Up0 w W0 lb pb vb ub xb ao cap p0 x (.func (Fn.func 124) #[] #[.pointer (some ⟨xb, 0, none⟩), .pointer (some ⟨vb, 0, none⟩), .pointer (some ⟨ub, 0, none⟩)])) (n : Nat) :
  ∀ (i j : Nat) (s : Bool) (W : World), 1 ≤ n → n ≤ 1000000 → i < n → j ≤ p0.length → Rd W0 lb pb ao cap j s W →
  Calls Tryz.prog 124 #[.int .i64 (n : Int), .int .i64 (i : Int), .pointer (some ⟨xb, 0, none⟩), .pointer (some ⟨vb, 0, none⟩), .pointer (some ⟨ub, 0, none⟩)] W fun e W' =>
   e = .returned (.string (upT n i (dg [sLeaf, x]) (p0.take j))) ∧ Rd W0 lb pb ao cap (j - lenT n i) (s || decide (j < lenT n i)) W' := by
 have H0 := Lib.hid h0
 clear h0
 induction n using Nat.strongRecOn with
 | _ n ih =>
 intro i j s W hn1 hn hi hj h
 have H := Lib.hid h
 clear h
 by_cases h1 : n = 1
 ·subst h1
  have hxc := H0.out.xc H.out
  have hb := H0.out.below H.out
  have HT := Lib.hid (H0.out.tabs.on hb)
  have HU := Lib.hid (upT_one i (dg [sLeaf, x]) (p0.take j))
  have HL := Lib.hid (len_one i)
  clear ih hb
  go_enter Tryz.func124, Tryz.ntmps124
  go_wp2_with fail
  refine (lit2_calls sLeaf x W (by decide) hx HT.out).mono ?_
  rintro e w1 ⟨rfl, h1⟩
  have HR := Lib.hid (H.out.below h1)
  clear h1
  go_wp2
  go_ret
  refine ⟨by rw [HU.out]; rfl, ?_⟩
  rw [HL.out]
  simpa using HR.out
 ·have h2 : 2 ≤ n := by omega
  have hk1 := half_lt h2
  have hk0 := half_pos h2
  have hh := fun W => half_calls n h2 (by omega) W
  have HM := Lib.hid (upT_many h2 i (dg [sLeaf, x]) (p0.take j))
  have HL := Lib.hid (lenT_many h2 i)
  have hvc := H0.out.vc H.out
  have hn1' : ¬ (n : Int) = 1 := by omega
  have hn2' : ((n : Int) == 1) = false := by rw [beq_eq_false_iff_ne]; omega
  rw [take_dropLast p0 j hj] at HM
  have hds := popV_size H0.out.rd.sz j
  have HIH := Lib.hid ih
  clear ih
  obtain ⟨k, hk⟩ : ∃ k, k = half n := ⟨_, rfl⟩
  rw [← hk] at hk1 hk0 hh HM HL
  clear hk
  have hj1 : j - 1 ≤ p0.length := by omega
  by_cases hik : i < k
  ·have hik' : (i : Int) < (k : Int) := by omega
   rw [if_pos hik] at HM HL
   go_enter Tryz.func124, Tryz.ntmps124
   go_upto_region 3 with fail
   go_cut [8, 9] from 10 (fun v8 v9 wx => v8 = .int .i64 (k : Int) ∧ v9 = .string (popV (p0.take j)) ∧ Hid (Rd W0 lb pb ao cap (j - 1) (s || decide (j = 0)) wx))
   case first =>
    go_region_with (first
     | (go_at_call 100; refine (hh _).mono ?_; rintro e w1 ⟨rfl, rfl⟩)
     | (go_at_call 125; refine (next_calls H0.out.rd H.out.drew hj).mono ?_; rintro e w1 ⟨rfl, h1⟩; have H1 := Lib.hid h1; clear h1))
    all_goals (go_wp2_with fail; go_meet; exact ⟨rfl, rfl, H1⟩)
   case rest =>
    obtain ⟨rfl, rfl, H1⟩ := hcut
    have huc := H0.out.uc H1.out
    have hus := upT_size k i (dg [sLeaf, x]) (p0.take (j - 1)) (dg_size _)
    have HC := Lib.hid (HIH.out k hk1 i (j - 1) (s || decide (j = 0)) wc (by omega) (by omega) hik hj1 H1.out)
    clear HIH hh hvc
    go_wp2_with fail
    refine HC.out.mono ?_
    rintro e w2 ⟨rfl, h2⟩
    have H2 := Lib.hid h2
    have HT := Lib.hid (H0.out.tabs.on (H0.out.below h2))
    clear h2 HC
    go_wp2_with fail
    refine (node_calls _ _ w2 (by omega) (by omega) HT.out).mono ?_
    rintro e w3 ⟨rfl, h3⟩
    have H3 := Lib.hid (H2.out.below h3)
    clear h3
    go_wp2
    go_ret
    refine ⟨by rw [HM.out]; rfl, ?_⟩
    rw [HL.out, ← or_short, show j - (1 + lenT k i) = j - 1 - lenT k i by omega]
    exact H3.out
  ·have hik' : ¬ (i : Int) < (k : Int) := by omega
   rw [if_neg hik] at HM HL
   go_enter Tryz.func124, Tryz.ntmps124
   go_upto_region 3 with fail
   go_cut [8, 9] from 10 (fun v8 v9 wx => v8 = .int .i64 (k : Int) ∧ v9 = .string (popV (p0.take j)) ∧ Hid (Rd W0 lb pb ao cap (j - 1) (s || decide (j = 0)) wx))
   case first =>
    go_region_with (first
     | (go_at_call 100; refine (hh _).mono ?_; rintro e w1 ⟨rfl, rfl⟩)
     | (go_at_call 125; refine (next_calls H0.out.rd H.out.drew hj).mono ?_; rintro e w1 ⟨rfl, h1⟩; have H1 := Lib.hid h1; clear h1))
    all_goals (go_wp2_with fail; go_meet; exact ⟨rfl, rfl, H1⟩)
   case rest =>
    obtain ⟨rfl, rfl, H1⟩ := hcut
    have huc := H0.out.uc H1.out
    have hus := upT_size (n - k) (i - k) (dg [sLeaf, x]) (p0.take (j - 1)) (dg_size _)
    have hc := HIH.out (n - k) (by omega) (i - k) (j - 1) (s || decide (j = 0)) wc (by omega) (by omega) (by omega) hj1 H1.out
    rw [show ((n - k : Nat) : Int) = (n : Int) - (k : Int) by omega, show ((i - k : Nat) : Int) = (i : Int) - (k : Int) by omega] at hc
    have HC := Lib.hid hc
    clear HIH hh hvc hc
    go_wp2_with fail
    refine HC.out.mono ?_
    rintro e w2 ⟨rfl, h2⟩
    have H2 := Lib.hid h2
    have HT := Lib.hid (H0.out.tabs.on (H0.out.below h2))
    clear h2 HC
    go_wp2_with fail
    refine (node_calls _ _ w2 (by omega) (by omega) HT.out).mono ?_
    rintro e w3 ⟨rfl, h3⟩
    have H3 := Lib.hid (H2.out.below h3)
    clear h3
    go_wp2
    go_ret
    refine ⟨by rw [HM.out]; rfl, ?_⟩
    rw [HL.out, ← or_short, show j - (1 + lenT (n - k) (i - k)) = j - 1 - lenT (n - k) (i - k) by omega]
    exact H3.out
end Go.Proofs.YtnkepmfgmfeabaaGreatDoor
set_option linter.unusedVariables false
namespace Go.Proofs.YtnkepmfgmfeabaaGreatDoor
open Go Go.RowKit

theorem clone_calls (v : Value) (p : List ByteArray) (w : World) (hv : IsStrC w v p) (hl : p.length ≤ 1099511627776) :
  Calls Tryz.prog 40 #[v] w fun e w' => ∃ v', e = .returned v' ∧ Own w.heap.size w' v' p ∧ Below w.heap.size w w' := by
 obtain ⟨ao, cap, rfl, hlc, hmax, hcells⟩ := hv
 cases ao with
 | none =>
  refine (Tryz.slices_Clone_string_nil p.length cap w).mono ?_
  rintro e w' ⟨rfl, rfl⟩
  have : p = [] := by
   cases p with
   | nil => rfl
   | cons a r => obtain ⟨b, o, e, _⟩ := hcells 0 (by simp); cases e
  subst this
  exact ⟨_, rfl, Own.nil _ _, Below.refl _ _⟩
 | some a =>
  rcases Nat.eq_zero_or_pos p.length with h0 | h0
  ·have : p = [] := List.eq_nil_of_length_eq_zero h0
   subst this
   refine (Tryz.slices_Clone_string_zero a cap w).mono ?_
   rintro e w' ⟨v', rfl, ho, _, hb⟩
   exact ⟨v', rfl, ho, hb⟩
  ·obtain ⟨b, o, e, hlt, _⟩ := hcells 0 h0
   cases e
   refine (Tryz.slices_Clone_string b o p.length cap p w (Nat.le_refl _) (by omega) (fun j hj => ?_)).mono ?_
   ·obtain ⟨b', o', e, _, hc⟩ := hcells j hj
    cases e
    exact hc
   ·rintro e w' ⟨v', rfl, ho, _, hb⟩
    rw [List.take_length] at ho
    exact ⟨v', rfl, ho, hb⟩
theorem isS_size {s : ByteArray} (h : isS s = true) : s.size = 16 := by
 unfold isS isL at h
 simp only [Bool.and_eq_true, beq_iff_eq] at h
 rw [Lib.size_eq]; exact h.1
/-- the world in which a closure is first called -/
def startW (w4 : World) (lb : Nat) (fn : Value) (tv tu : TypeId) : World :=
 ((w4.alloc (.cells #[.pointer (some ⟨lb, 0, none⟩), .bool false] 170)).alloc (.cells #[.pointer (some ⟨w4.heap.size, 0, none⟩)] tv)).alloc (.cells #[fn] tu)
theorem setup {w w2 w4 : World} {x : ByteArray} {ao : Option Addr} {cap : Nat} {p : List ByteArray} (fn : Value) (tv tu : TypeId)
  (h2 : Below (w.alloc (.cells #[.string x] 9)).heap.size (w.alloc (.cells #[.string x] 9)) w2)
  (ho : Own (w.alloc (.cells #[.string x] 9)).heap.size w2 (.slice ao p.length cap) p) (hc1 : p.length ≤ cap) (hc2 : cap ≤ maxLen) (hp : p.all isS = true)
  (h4 : Below (w2.alloc (.cells #[.slice ao p.length cap] 166)).heap.size (w2.alloc (.cells #[.slice ao p.length cap] 166)) w4) (hT : Tabs w) :
  Up0 w (startW w4 w2.heap.size fn tv tu) w2.heap.size w4.heap.size (w4.heap.size + 1) (w4.heap.size + 1 + 1) w.heap.size ao cap p x fn ∧
  Rd (startW w4 w2.heap.size fn tv tu) w2.heap.size w4.heap.size ao cap p.length false (startW w4 w2.heap.size fn tv tu) := by
 have hb1 : Below w.heap.size w (w.alloc (.cells #[.string x] 9)) := (Below.refl w.heap.size w).alloc (Nat.le_refl _) _
 have s1 : (w.alloc (.cells #[.string x] 9)).heap.size = w.heap.size + 1 := World.size_alloc ..
 have s3 : (w2.alloc (.cells #[.slice ao p.length cap] 166)).heap.size = w2.heap.size + 1 := World.size_alloc ..
 have e2 := h2.size
 have e4 := h4.size
 rw [s1] at e2
 rw [s3] at e4
 have B2 : Below w.heap.size w w2 := hb1.trans (h2.mono hb1.size)
 have B3 : Below w.heap.size w (w2.alloc (.cells #[.slice ao p.length cap] 166)) := B2.alloc B2.size _
 have B4 : Below w.heap.size w w4 := B3.trans (h4.mono B3.size)
 have b5 := Below.refl w4.heap.size w4
 have B5 : Below w4.heap.size w4 (startW w4 w2.heap.size fn tv tu) := by
  unfold startW
  refine ((b5.alloc (Nat.le_refl _) _).alloc ?_ _).alloc ?_ _ <;> simp only [World.size_alloc] <;> omega
 have sz : (startW w4 w2.heap.size fn tv tu).heap.size = w4.heap.size + 1 + 1 + 1 := by unfold startW; simp only [World.size_alloc]
 have hl : (startW w4 w2.heap.size fn tv tu).heap[w2.heap.size]? = some (.cells #[.slice ao p.length cap] 166 (0, 0)) := by
  rw [B5.block _ (by omega), h4.block _ (by rw [s3]; omega)]
  exact heap_alloc_new w2 _
 have hpb : (startW w4 w2.heap.size fn tv tu).heap[w4.heap.size]? = some (.cells #[.pointer (some ⟨w2.heap.size, 0, none⟩), .bool false] 170 (0, 0)) := by
  unfold startW
  rw [heap_alloc_old _ _ (by simp only [World.size_alloc]; omega), heap_alloc_old _ _ (by simp only [World.size_alloc]; omega)]
  exact heap_alloc_new w4 _
 have hv : (startW w4 w2.heap.size fn tv tu).heap[w4.heap.size + 1]? = some (.cells #[.pointer (some ⟨w4.heap.size, 0, none⟩)] tv (0, 0)) := by
  unfold startW
  rw [heap_alloc_old _ _ (by simp only [World.size_alloc]; omega)]
  have := heap_alloc_new (w4.alloc (.cells #[.pointer (some ⟨w2.heap.size, 0, none⟩), .bool false] 170)) (.cells #[.pointer (some ⟨w4.heap.size, 0, none⟩)] tv)
  rwa [World.size_alloc] at this
 have hu : (startW w4 w2.heap.size fn tv tu).heap[w4.heap.size + 1 + 1]? = some (.cells #[fn] tu (0, 0)) := by
  unfold startW
  have := heap_alloc_new ((w4.alloc (.cells #[.pointer (some ⟨w2.heap.size, 0, none⟩), .bool false] 170)).alloc (.cells #[.pointer (some ⟨w4.heap.size, 0, none⟩)] tv)) (.cells #[fn] tu)
  rwa [World.size_alloc, World.size_alloc] at this
 have hx : (startW w4 w2.heap.size fn tv tu).heap[w.heap.size]? = some (.cells #[.string x] 9 (0, 0)) := by
  rw [B5.block _ (by omega), h4.block _ (by rw [s3]; omega), heap_alloc_old _ _ (by omega), h2.block _ (by rw [s1]; omega)]
  exact heap_alloc_new w _
 refine ⟨⟨⟨by omega, by omega, by omega, hc1, hc2, fun s hs => isS_size (List.all_eq_true.1 hp s hs), fun i hi => ?_⟩, B4.trans (B5.mono B4.size), by omega, by omega, ⟨by omega, by omega, by omega, ?_⟩, ⟨by omega, by omega, by omega, ?_⟩, ⟨by omega, by omega, by omega, ?_⟩, hT⟩, ⟨Chg.refl _ _, hl, hpb⟩⟩
 ·obtain ⟨ao', cap', he, _, _, hcells⟩ := ho.strc
  simp only [Value.slice.injEq] at he
  obtain ⟨rfl, _, rfl⟩ := he
  obtain ⟨b, o, rfl, hlt, hc⟩ := hcells i hi
  refine ⟨b, o, rfl, by omega, by omega, by omega, ?_⟩
  rw [World.cell?_of_block (B5.block b (by omega)), World.cell?_of_block (h4.block b (by rw [s3]; omega)), World.cell?_of_block (heap_alloc_old w2 _ hlt)]
  exact hc
 ·rw [cell_of_row _ _ 0 _ _ _ hv]; rfl
 ·rw [cell_of_row _ _ 0 _ _ _ hu]; rfl
 ·rw [cell_of_row _ _ 0 _ _ _ hx]; rfl
theorem eqB (a b : ByteArray) : (a.toList == b.toList) = decide (a = b) := by
 rw [eqS]
 exact decide_eq_decide.2 ⟨fun h => ByteArray.ext (Array.toList_inj.1 h), fun h => by rw [h]⟩
theorem check_val {root leaf : ByteArray} {n i : Nat} {p : List ByteArray} (hn : n ≤ 1000000) (hi : i < n) (hp : p.all isS = true) :
  checkT root n i leaf p = (decide (p.length = lenT n i) && decide (upT n i (dg [sLeaf, leaf]) p = root)) := by
 unfold checkT
 rw [hp, decide_eq_true (by omega : (n : Int) ≤ 1000000), decide_eq_true (by omega : (0 : Int) ≤ i), decide_eq_true (by omega : (i : Int) < n)]
 simp
theorem done_val (n L : Nat) : (!(false || decide (n < L)) && decide (n - L = 0)) = decide (n = L) := by
 by_cases h : n < L
 ·rw [decide_eq_true h, decide_eq_false (by omega : ¬ n = L)]; rfl
 ·rw [decide_eq_false h]
  simp only [Bool.or_false, Bool.not_false, Bool.true_and]
  exact decide_eq_decide.2 (by omega)
set_option maxRecDepth 100000 in
set_option maxHeartbeats 1000000 in
theorem check_ok (root : ByteArray) (n i : Nat) (leaf : ByteArray) (v : Value) (p : List ByteArray) (w : World) (hv : IsStrC w v p) (hl : p.length ≤ 1099511627776) (hp : p.all isS = true) (hs : ∀ s ∈ p, s.size ≤ 1099511627776)
  (hx : leaf.size ≤ 1099511627776) (hn : n ≤ 1000000) (hi : i < n) (hT : Tabs w) :
  Calls Tryz.prog 107 #[.string root, .int .i64 (n : Int), .int .i64 (i : Int), .string leaf, v] w fun e w' => e = .returned (.bool (checkT root n i leaf p)) ∧ Below w.heap.size w w' := by
 have HT := Lib.hid hT
 have HV := Lib.hid hv
 have HS := Lib.hid hs
 have HP := Lib.hid hp
 clear hT hv hs hp
 have hd1 : decide ((1000000 : Int) < (n : Int)) = false := decide_eq_false (by omega)
 have hd2 : decide ((i : Int) < 0) = false := decide_eq_false (by omega)
 have hd3 : decide ((n : Int) ≤ (i : Int)) = false := decide_eq_false (by omega)
 have hd4 : decide (n ≤ i) = false := decide_eq_false (by omega)
 go_enter Tryz.func107, Tryz.ntmps107
 go_wp2_with fail
 have hb1 := (Below.refl w.heap.size w).alloc (Nat.le_refl _) (.cells #[.string leaf] 9)
 refine (clone_calls v p _ (HV.out.on hb1) hl).mono ?_
 rintro e w2 ⟨v', rfl, ho, h2⟩
 have H12 := Lib.hid h2
 have H2 := Lib.hid (hb1.trans (h2.mono hb1.size))
 have hsc := ho.strc
 obtain ⟨ao, cap, rfl, hlc, hcm, hcells⟩ := hsc
 have HO := Lib.hid ho
 clear ho h2 hcells hb1
 go_wp2_with fail
 have hb3 := H2.out.alloc H2.out.size (.cells #[.slice ao p.length cap] 166)
 have hv3 : IsStrC (w2.alloc (.cells #[.slice ao p.length cap] 166)) (.slice ao p.length cap) p := HO.out.strc.on ((Below.refl _ _).alloc (Nat.le_refl _) _)
 refine (proper_calls _ p _ hv3 HS.out).mono ?_
 rintro e w4 ⟨rfl, h4⟩
 rw [HP.out]
 have H4 := Lib.hid h4
 clear h4 hb3 hv3
 go_wp2_with fail
 obtain ⟨hU, hR⟩ := setup (.func (Fn.func 124) #[] #[.pointer (some ⟨w.heap.size, 0, none⟩), .pointer (some ⟨w4.heap.size + 1, 0, none⟩), .pointer (some ⟨w4.heap.size + 1 + 1, 0, none⟩)]) _ _ H12.out HO.out hlc hcm HP.out H4.out HT.out
 have HU := Lib.hid hU
 clear hU
 refine (up_calls hx HU.out n i p.length false _ (by omega) hn hi (Nat.le_refl _) hR).mono ?_
 rintro e w5 ⟨rfl, h5⟩
 have H5 := Lib.hid h5
 clear h5 hR
 rw [List.take_length]
 have hvc := HU.out.vc H5.out
 have hcv : Hid (checkT root n i leaf p = (decide (p.length = lenT n i) && decide (upT n i (dg [sLeaf, leaf]) p = root))) := Lib.hid (check_val hn hi HP.out)
 have hB := Lib.hid (HU.out.below H5.out)
 generalize upT n i (dg [sLeaf, leaf]) p = u at *
 by_cases hq : u = root
 ·have hq2 : (u.toList == root.toList) = true := by rw [hq]; simp
  go_wp2_with fail
  refine (done_calls HU.out.rd H5.out).mono ?_
  rintro e w6 ⟨rfl, rfl⟩
  rw [done_val]
  go_wp2
  go_ret
  exact ⟨by rw [hcv.out, decide_eq_true hq, Bool.and_true]; rfl, hB.out⟩
 ·have hq2 : (u.toList == root.toList) = false := by rw [eqB]; exact decide_eq_false hq
  go_wp2
  go_ret
  exact ⟨by rw [hcv.out, decide_eq_false hq, Bool.and_false]; rfl, hB.out⟩
set_option maxHeartbeats 1000000 in
theorem check_bad (root : ByteArray) (n i : Int) (leaf : ByteArray) (v : Value) (p : List ByteArray) (w : World) (hv : IsStrC w v p) (hl : p.length ≤ 1099511627776) (hs : ∀ s ∈ p, s.size ≤ 1099511627776)
  (hb : ¬ (n ≤ 1000000 ∧ 0 ≤ i ∧ i < n)) :
  Calls Tryz.prog 107 #[.string root, .int .i64 n, .int .i64 i, .string leaf, v] w fun e w' => e = .returned (.bool false) ∧ Below w.heap.size w w' := by
 have HV := Lib.hid hv
 clear hv hs
 by_cases h1 : (1000000 : Int) < n
 ·go_enter Tryz.func107, Tryz.ntmps107
  go_wp2_with fail
  have hb1 := (Below.refl w.heap.size w).alloc (Nat.le_refl _) (.cells #[.string leaf] 9)
  refine (clone_calls v p _ (HV.out.on hb1) hl).mono ?_
  rintro e w2 ⟨v', rfl, ho, h2⟩
  have H2 := Lib.hid (hb1.trans (h2.mono hb1.size))
  obtain ⟨ao, cap, rfl, _⟩ := ho.strc
  clear ho h2 hb1
  go_wp2
  go_ret
  exact ⟨rfl, H2.out.alloc H2.out.size _⟩
 ·by_cases h2 : i < 0
  ·go_enter Tryz.func107, Tryz.ntmps107
   go_wp2_with fail
   have hb1 := (Below.refl w.heap.size w).alloc (Nat.le_refl _) (.cells #[.string leaf] 9)
   refine (clone_calls v p _ (HV.out.on hb1) hl).mono ?_
   rintro e w2 ⟨v', rfl, ho, h2⟩
   have H2 := Lib.hid (hb1.trans (h2.mono hb1.size))
   obtain ⟨ao, cap, rfl, _⟩ := ho.strc
   clear ho h2 hb1
   go_wp2
   go_ret
   exact ⟨rfl, H2.out.alloc H2.out.size _⟩
  ·have h3 : n ≤ i := by omega
   go_enter Tryz.func107, Tryz.ntmps107
   go_wp2_with fail
   have hb1 := (Below.refl w.heap.size w).alloc (Nat.le_refl _) (.cells #[.string leaf] 9)
   refine (clone_calls v p _ (HV.out.on hb1) hl).mono ?_
   rintro e w2 ⟨v', rfl, ho, h2⟩
   have H2 := Lib.hid (hb1.trans (h2.mono hb1.size))
   obtain ⟨ao, cap, rfl, _⟩ := ho.strc
   clear ho h2 hb1
   go_wp2
   go_ret
   exact ⟨rfl, H2.out.alloc H2.out.size _⟩
set_option maxHeartbeats 1000000 in
theorem check_improper (root : ByteArray) (n i : Int) (leaf : ByteArray) (v : Value) (p : List ByteArray) (w : World) (hv : IsStrC w v p) (hl : p.length ≤ 1099511627776) (hs : ∀ s ∈ p, s.size ≤ 1099511627776)
  (hn : n ≤ 1000000) (hi : 0 ≤ i) (hin : i < n) (hp : p.all isS = false) :
  Calls Tryz.prog 107 #[.string root, .int .i64 n, .int .i64 i, .string leaf, v] w fun e w' => e = .returned (.bool false) ∧ Below w.heap.size w w' := by
 have HV := Lib.hid hv
 have HS := Lib.hid hs
 have HP := Lib.hid hp
 clear hv hs hp
 go_enter Tryz.func107, Tryz.ntmps107
 go_wp2_with fail
 have hb1 := (Below.refl w.heap.size w).alloc (Nat.le_refl _) (.cells #[.string leaf] 9)
 refine (clone_calls v p _ (HV.out.on hb1) hl).mono ?_
 rintro e w2 ⟨v', rfl, ho, h2⟩
 have H2 := Lib.hid (hb1.trans (h2.mono hb1.size))
 have hsc := ho.strc
 obtain ⟨ao, cap, rfl, _⟩ := hsc
 have HO := Lib.hid ho
 clear ho h2 hb1
 go_wp2_with fail
 have hb3 := H2.out.alloc H2.out.size (.cells #[.slice ao p.length cap] 166)
 have hv3 : IsStrC (w2.alloc (.cells #[.slice ao p.length cap] 166)) (.slice ao p.length cap) p := HO.out.strc.on ((Below.refl _ _).alloc (Nat.le_refl _) _)
 refine (proper_calls _ p _ hv3 HS.out).mono ?_
 rintro e w4 ⟨rfl, h4⟩
 rw [HP.out]
 have H4 := Lib.hid (hb3.trans (h4.mono hb3.size))
 clear h4 hb3 hv3
 go_wp2
 go_ret
 exact ⟨rfl, H4.out⟩
theorem check_calls (root : ByteArray) (n i : Int) (leaf : ByteArray) (v : Value) (p : List ByteArray) (w : World) (hv : IsStrC w v p) (hl : p.length ≤ 1099511627776) (hs : ∀ s ∈ p, s.size ≤ 1099511627776)
  (hx : leaf.size ≤ 1099511627776) (hT : Tabs w) :
  Calls Tryz.prog 107 #[.string root, .int .i64 n, .int .i64 i, .string leaf, v] w fun e w' => e = .returned (.bool (checkT root n i leaf p)) ∧ Below w.heap.size w w' := by
 by_cases hb : n ≤ 1000000 ∧ 0 ≤ i ∧ i < n
 ·cases hp : p.all isS with
  | true =>
   obtain ⟨a, rfl⟩ : ∃ a : Nat, n = (a : Int) := ⟨n.toNat, by omega⟩
   obtain ⟨b, rfl⟩ : ∃ b : Nat, i = (b : Int) := ⟨i.toNat, by omega⟩
   exact check_ok root a b leaf v p w hv hl hp hs hx (by omega) (by omega) hT
  | false =>
   have e : checkT root n i leaf p = false := by unfold checkT; rw [hp]; simp
   rw [e]
   exact check_improper root n i leaf v p w hv hl hs hb.1 hb.2.1 hb.2.2 hp
 ·have e : checkT root n i leaf p = false := by
   unfold checkT
   by_cases h1 : n ≤ 1000000
   ·by_cases h2 : 0 ≤ i
    ·rw [decide_eq_false (by omega : ¬ i < n)]; simp
    ·rw [decide_eq_false h2]; simp
   ·rw [decide_eq_false h1]; simp
  rw [e]
  exact check_bad root n i leaf v p w hv hl hs hb
end Go.Proofs.YtnkepmfgmfeabaaGreatDoor
set_option linter.unusedVariables false
namespace Go.Proofs.YtnkepmfgmfeabaaGreatDoor
open Go Go.RowKit

theorem sodd1_calls (s : ByteArray) (hs : s.size ≤ 4611686018427387904) (w : World) :
  Calls Tryz.prog 106 #[.string s] w fun e w' => e = .returned (.bool (!isS s)) ∧ Below w.heap.size w w' := by
 go_enter Tryz.func106, Tryz.ntmps106
 go_wp2_with fail
 refine (is_calls s hs w).mono ?_
 rintro e w1 ⟨rfl, h1⟩
 go_wp2
 go_ret
 exact ⟨rfl, h1⟩
theorem sindex_calls (v : Value) (l : List ByteArray) (w : World) (hv : IsStrC w v l) (hs : ∀ s ∈ l, s.size ≤ 1099511627776) :
  Calls Tryz.prog 103 #[v, .func (Fn.func 106) #[] #[]] w fun e w' => ∃ r : Int, e = .returned (.int .i64 r) ∧ decide (0 ≤ r) = !(l.all isS) ∧ Below w.heap.size w w' := by
 obtain ⟨ao, cap, rfl, hlc, hmax, hcells⟩ := hv
 have HC := Lib.hid hcells
 have HS := Lib.hid hs
 clear hcells hs
 have hmx : l.length ≤ 9223372036854775807 := by have : cap ≤ 9223372036854775807 := hmax; omega
 clear hmax hlc
 go_enter Tryz.func103, Tryz.ntmps103
 go_wp2_with fail
 go_loopw [8] (fun vi W => ∃ i : Nat, vi = .int .i64 (i : Int) ∧ i ≤ l.length ∧ Hid (Below w.heap.size w W ∧ (l.take i).all isS = true)) (fun vi _ => l.length - (RowKit.intOf vi).toNat)
 case atStart => exact ⟨0, rfl, by omega, Below.refl _ _, rfl⟩
 case round =>
  obtain ⟨i, rfl, hi, HI⟩ := hrel
  by_cases hlt : i < l.length
  ·obtain ⟨b, o, rfl, hbl, hc⟩ := HC.out i hlt
   have hcw : wr.cell? ⟨b, o + i, none⟩ = some (.string (l.getD i ByteArray.empty)) := by rw [HI.out.1.cell (p := ⟨b, o + i, none⟩) hbl]; exact hc
   have HA := Lib.hid (all_take_succ l i hlt)
   have hss : (l.getD i ByteArray.empty).size ≤ 1099511627776 := HS.out _ (by simp [List.getD, hlt])
   generalize l.getD i ByteArray.empty = s at *
   clear hc
   cases hq : isS s with
   | true =>
    go_wp2_with fail
    refine (sodd1_calls s (by omega) wr).mono ?_
    rintro e w1 ⟨rfl, h1⟩
    have HB1 := Lib.hid (HI.out.1.trans (h1.mono HI.out.1.size))
    have HA1 : Hid ((l.take (i + 1)).all isS = true) := by rw [HA.out, HI.out.2, hq]; exact Lib.hid rfl
    clear h1 hcw HA HI
    rw [hq]
    go_wp2
    go_round
    case rel => exact ⟨i + 1, rfl, by omega, HB1.out, HA1.out⟩
    case measure => simp only [RowKit.intOf]; omega
   | false =>
    go_wp2_with fail
    refine (sodd1_calls s (by omega) wr).mono ?_
    rintro e w1 ⟨rfl, h1⟩
    have HB1 := Lib.hid (HI.out.1.trans (h1.mono HI.out.1.size))
    have HA1 : Hid (l.all isS = false) := by exact Lib.hid (all_of_take l (i + 1) (by rw [HA.out, hq, Bool.and_false]))
    clear h1 hcw HA HI
    rw [hq]
    go_wp2
    go_ret
    exact ⟨_, rfl, by rw [HA1.out]; simp, HB1.out⟩
  ·have e : i = l.length := by omega
   subst e
   have HA1 : Hid (l.all isS = true) := by have := HI.out.2; rw [List.take_length] at this; exact Lib.hid this
   have HB1 := Lib.hid HI.out.1
   clear HI
   go_wp2
   go_ret
   exact ⟨_, rfl, by rw [HA1.out]; rfl, HB1.out⟩
theorem scontains_calls (v : Value) (l : List ByteArray) (w : World) (hv : IsStrC w v l) (hs : ∀ s ∈ l, s.size ≤ 1099511627776) :
  Calls Tryz.prog 74 #[v, .func (Fn.func 106) #[] #[]] w fun e w' => e = .returned (.bool (!(l.all isS))) ∧ Below w.heap.size w w' := by
 go_enter Tryz.func74, Tryz.ntmps74
 go_wp2_with fail
 refine (sindex_calls v l w hv hs).mono ?_
 rintro e w1 ⟨r, rfl, hr, h1⟩
 have HR := Lib.hid hr
 clear hr
 go_wp2
 go_ret
 exact ⟨by rw [← HR.out]; rfl, h1⟩
theorem sodd_calls (v : Value) (l : List ByteArray) (w : World) (hv : IsStrC w v l) (hs : ∀ s ∈ l, s.size ≤ 1099511627776) :
  Calls Tryz.prog 105 #[v] w fun e w' => e = .returned (.bool (!(l.all isS))) ∧ Below w.heap.size w w' := by
 have HV := Lib.hid hv
 clear hv
 go_enter Tryz.func105, Tryz.ntmps105
 go_wp2_with fail
 refine (scontains_calls v l w HV.out hs).mono ?_
 rintro e w1 ⟨rfl, h1⟩
 go_wp2
 go_ret
 exact ⟨rfl, h1⟩
end Go.Proofs.YtnkepmfgmfeabaaGreatDoor

namespace Go.Proofs.YtnkepmfgmfeabaaGreatDoor
open Go Go.RowKit Go.Shelf
attribute [local go_sem] Oper.semAt_some

theorem ver_no {pub m : ByteArray} {idx : Int} {sig path : List ByteArray} (h : ¬ (sig.length = 18 ∧ path.length ≤ 8 ∧ sig.all isS = true ∧ path.all isS = true ∧ 0 ≤ idx ∧ idx < ((2 ^ path.length : Nat) : Int))) : verT pub m idx sig path = false := by
 cases hv : verT pub m idx sig path with
 | false => rfl
 | true =>
  unfold verT at hv
  simp only [Bool.and_eq_true, decide_eq_true_eq] at hv
  obtain ⟨⟨⟨⟨⟨⟨h1, h2⟩, h3⟩, h4⟩, h5⟩, h6⟩, _⟩ := hv
  exact absurd ⟨h1, h2, h3, h4, h5, h6⟩ h
theorem ver_yes {pub m : ByteArray} {idx : Int} {sig path : List ByteArray} (h1 : sig.length = 18) (h2 : path.length ≤ 8) (h3 : sig.all isS = true) (h4 : path.all isS = true) (h5 : 0 ≤ idx) (h6 : idx < ((2 ^ path.length : Nat) : Int)) :
  verT pub m idx sig path = checkT pub ((2 ^ path.length : Nat) : Int) idx (dg (sealEnds m sig)) path := by
 unfold verT
 rw [decide_eq_true h1, decide_eq_true h2, h3, h4, decide_eq_true h5, decide_eq_true h6]
 simp
theorem wrap_powI (h : Nat) (hh : h ≤ 20) : IntKind.i64.wrap ((2 : Int) ^ h) = (2 : Int) ^ h := by
 have e : ((2 ^ h : Nat) : Int) = (2 : Int) ^ h := by simp
 have := Nat.pow_le_pow_right (n := 2) (by decide) hh
 rw [← e]
 generalize 2 ^ h = p at *
 exact IntWalk.i64_in _ (by omega)
theorem box_one (w : World) (cs : Array Value) (T : TypeId) : (w.alloc (.cells cs T)).heap[w.heap.size]? = some (.cells cs T (0, 0)) ∧ Below w.heap.size w (w.alloc (.cells cs T)) ∧ (w.alloc (.cells cs T)).heap.size = w.heap.size + 1 :=
 ⟨by rw [World.alloc_heap_new], (Below.refl _ w).alloc (Nat.le_refl _) _, by rw [World.size_alloc]⟩
set_option maxRecDepth 100000 in
set_option maxHeartbeats 2000000 in
theorem ver_no1 (pub m : ByteArray) (idx : Int) (vs vp : Value) (sig path : List ByteArray) (w : World) (hpub : pub.size ≤ 1099511627776) (hm : m.size ≤ 1099511627776) (hs : IsStrC w vs sig) (hp : IsStrC w vp path) (hss : ∀ s ∈ sig, s.size ≤ 1099511627776) (hps : ∀ s ∈ path, s.size ≤ 1099511627776) (hT : Tabs w) (hA : ¬ sig.length = 18) :
  Calls Tryz.prog 78 #[.string pub, .string m, .agg #[.int .i64 idx, vs, vp]] w fun e w' => e = .returned (.bool (false)) ∧ Below w.heap.size w w' := by
 have HT := Lib.hid hT
 have HSS := Lib.hid hss
 have HSP := Lib.hid hps
 obtain ⟨aos, cs, rfl⟩ := strc_form hs
 obtain ⟨aop, cp, rfl⟩ := strc_form hp
 have HSG := Lib.hid hs
 have HPT := Lib.hid hp
 clear hT hss hps hs hp
 have hlm : sig.length ≤ 9223372036854775807 := by obtain ⟨ao, c, e, h1, h2, _⟩ := HSG.out; have : c ≤ 9223372036854775807 := h2; omega
 have HLS : Hid (sig.length = sig.length) := Lib.hid rfl
 generalize hls : sig.length = ls at *
 have hdA : ((ls : Int) != 18) = true := by simp; omega
 clear hls hA
 have hpm : path.length ≤ 9223372036854775807 := by obtain ⟨ao, c, e, h1, h2, _⟩ := HPT.out; have : c ≤ 9223372036854775807 := h2; omega
 obtain ⟨lp, hlp⟩ : ∃ lp, lp = path.length := ⟨_, rfl⟩
 rw [← hlp] at hpm
 rw [← hlp] at HPT
 rw [← hlp]
 have HLP := Lib.hid hlp
 clear hlp
 obtain ⟨hbx, hB1, hz⟩ := box_one w #[.int .i64 idx, .slice aos ls cs, .slice aop lp cp] 25
 have C0 : Hid ((w.alloc (.cells #[.int .i64 idx, .slice aos ls cs, .slice aop lp cp] 25)).cell? ⟨w.heap.size, 0, none⟩ = some (.int .i64 idx)) := Lib.hid (by rw [cell_of_row _ _ 0 _ _ _ hbx]; rfl)
 have C1 : Hid ((w.alloc (.cells #[.int .i64 idx, .slice aos ls cs, .slice aop lp cp] 25)).cell? ⟨w.heap.size, 1, none⟩ = some (.slice aos ls cs)) := Lib.hid (by rw [cell_of_row _ _ 1 _ _ _ hbx]; rfl)
 have C2 : Hid ((w.alloc (.cells #[.int .i64 idx, .slice aos ls cs, .slice aop lp cp] 25)).cell? ⟨w.heap.size, 2, none⟩ = some (.slice aop lp cp)) := Lib.hid (by rw [cell_of_row _ _ 2 _ _ _ hbx]; rfl)
 have HB1 := Lib.hid hB1
 have HSG1 := Lib.hid (HSG.out.on hB1)
 have HPT1 := Lib.hid (HPT.out.on hB1)
 have hz1 : w.heap.size < (w.alloc (.cells #[.int .i64 idx, .slice aos ls cs, .slice aop lp cp] 25)).heap.size := by omega
 clear hbx hB1 hz
 go_enter Tryz.func78, Tryz.ntmps78
 go_wp2_with fail
 generalize hgw : w.alloc (.cells #[.int .i64 idx, .slice aos ls cs, .slice aop lp cp] 25) = w1 at *
 clear hgw
 refine wp_region_res 32 (w1.heap.size) (fun ii u => [valF (.pointer (some ⟨w.heap.size, 1, none⟩)), valF (.slice aos ls cs), valF (.int .i64 (ls : Int)), valF (.bool true), valF (.bool true), valF undef, valF undef, valF (.bool true), valF (.bool true), valF undef, valF undef, valF undef, valF undef, valF (.bool true), valF (.bool true), valF undef, valF undef, valF undef, valF undef, valF (.bool true), valF (.bool true), valF undef, valF undef, valF undef, valF (.bool true), valF (.bool true), valF undef, valF undef, valF undef, valF undef, valF undef, valF (.bool true)].getD ii anyF) (fun jj ii => false) (fun jj bb => False) (by kernel_rfl) (by kernel_rfl) (by kernel_rfl) (by kernel_rfl) (by kernel_rfl) (Nat.le_refl _) ?_ ?_ ?_ ?_ ?_
 ·intro ii u hii
  refine AllKStable.at ?_ ii
  exact ⟨.inl (valF_stable _ _), .inl (valF_stable _ _), .inl (valF_stable _ _), .inl (valF_stable _ _), .inl (valF_stable _ _), .inl (valF_stable _ _), .inl (valF_stable _ _), .inl (valF_stable _ _), .inl (valF_stable _ _), .inl (valF_stable _ _), .inl (valF_stable _ _), .inl (valF_stable _ _), .inl (valF_stable _ _), .inl (valF_stable _ _), .inl (valF_stable _ _), .inl (valF_stable _ _), .inl (valF_stable _ _), .inl (valF_stable _ _), .inl (valF_stable _ _), .inl (valF_stable _ _), .inl (valF_stable _ _), .inl (valF_stable _ _), .inl (valF_stable _ _), .inl (valF_stable _ _), .inl (valF_stable _ _), .inl (valF_stable _ _), .inl (valF_stable _ _), .inl (valF_stable _ _), .inl (valF_stable _ _), .inl (valF_stable _ _), .inl (valF_stable _ _), .inl (valF_stable _ _), trivial⟩
 ·exact fun _ _ _ _ _ => rfl
 ·exact ⟨fun _ _ _ h => h.elim, fun _ _ _ _ _ h => h.elim⟩
 ·refine And.intro (fun u W A hW hBW hd hv hr => ?_) ?_
  ·have t5 : A.eval (.tmp 5) = .pointer (some ⟨w.heap.size, 0, none⟩) := (hv 5 (by kernel_rfl)).trans (by kernel_rfl)
   clear hd hv
   have s5 := evalT t5
   clear t5
   refine fk_run ?_
   go_simp
  refine And.intro (fun u W A hW hBW hd hv hr => ?_) ?_
  ·have e0 : u 0 = .pointer (some ⟨w.heap.size, 1, none⟩) := hd 0 (by decide) (by kernel_rfl)
   have t15 : A.eval (.tmp 15) = .pointer (some ⟨w.heap.size, 1, none⟩) := (hv 15 (by kernel_rfl)).trans ((by kernel_rfl : slotV _ _ _ u 15 = u 0).trans e0)
   have hW1 := below_undrew hW
   have hcl : W.cell? ⟨w.heap.size, 1, none⟩ = some (.slice aos ls cs) := by rw [hW1.cell (p := ⟨w.heap.size, 1, none⟩) (by show w.heap.size < w1.heap.size; omega)]; exact C1.out
   clear hd hv
   have s15 := evalT t15
   clear t15
   refine fk_run ?_
   go_simp
  refine And.intro (fun u W A hW hBW hd hv hr => ?_) ?_
  ·have e1 : u 1 = .slice aos ls cs := hd 1 (by decide) (by kernel_rfl)
   have t16 : A.eval (.tmp 16) = .slice aos ls cs := (hv 16 (by kernel_rfl)).trans ((by kernel_rfl : slotV _ _ _ u 16 = u 1).trans e1)
   clear hd hv
   have s16 := evalT t16
   clear t16
   refine fk_run ?_
   go_simp
  refine And.intro (fun u W A hW hBW hd hv hr => ?_) ?_
  ·have e2 : u 2 = .int .i64 (ls : Int) := hd 2 (by decide) (by kernel_rfl)
   have t17 : A.eval (.tmp 17) = .int .i64 (ls : Int) := (hv 17 (by kernel_rfl)).trans ((by kernel_rfl : slotV _ _ _ u 17 = u 2).trans e2)
   clear hd hv
   have s17 := evalT t17
   clear t17
   refine fk_run ?_
   go_simp
  refine And.intro (fun u W A hW hBW hd hv hr => ?_) ?_
  ·have e3 : u 3 = .bool true := hd 3 (by decide) (by kernel_rfl)
   have t18 : A.eval (.tmp 18) = .bool true := (hv 18 (by kernel_rfl)).trans ((by kernel_rfl : slotV _ _ _ u 18 = u 3).trans e3)
   clear hd hv
   have s18 := evalT t18
   clear t18
   refine fk_run ?_
   go_simp
  refine And.intro (fun u W A hW hBW hd hv hr => ?_) ?_
  ·have e4 : u 4 = .bool true := hd 4 (by decide) (by kernel_rfl)
   exact Or.inr ⟨e4, rfl, fun _ h => h⟩
  refine And.intro (fun u W A hW hBW hd hv hr => ?_) ?_
  ·have e4 : u 4 = .bool true := hd 4 (by decide) (by kernel_rfl)
   have e5 : u 5 = undef := hd 5 (by decide) (by kernel_rfl)
   exact Or.inr ⟨e4, rfl, fun _ h => h⟩
  refine And.intro (fun u W A hW hBW hd hv hr => ?_) ?_
  ·have e4 : u 4 = .bool true := hd 4 (by decide) (by kernel_rfl)
   have e6 : u 6 = undef := hd 6 (by decide) (by kernel_rfl)
   have t19 : A.eval (.tmp 19) = .bool true := (hv 19 (by kernel_rfl)).trans ((by kernel_rfl : slotV _ _ _ u 19 = u 4).trans e4)
   have t21 : A.eval (.tmp 21) = undef := (hv 21 (by kernel_rfl)).trans ((by kernel_rfl : slotV _ _ _ u 21 = u 6).trans e6)
   clear hd hv
   have s19 := evalT t19
   have s21 := evalT t21
   clear t19 t21
   refine fk_run ?_
   go_simp
  refine And.intro (fun u W A hW hBW hd hv hr => ?_) ?_
  ·have e7 : u 7 = .bool true := hd 7 (by decide) (by kernel_rfl)
   have t22 : A.eval (.tmp 22) = .bool true := (hv 22 (by kernel_rfl)).trans ((by kernel_rfl : slotV _ _ _ u 22 = u 7).trans e7)
   clear hd hv
   have s22 := evalT t22
   clear t22
   refine fk_run ?_
   go_simp
  refine And.intro (fun u W A hW hBW hd hv hr => ?_) ?_
  ·have e8 : u 8 = .bool true := hd 8 (by decide) (by kernel_rfl)
   exact Or.inr ⟨e8, rfl, fun _ h => h⟩
  refine And.intro (fun u W A hW hBW hd hv hr => ?_) ?_
  ·have e8 : u 8 = .bool true := hd 8 (by decide) (by kernel_rfl)
   exact Or.inr ⟨e8, rfl, fun _ h => h⟩
  refine And.intro (fun u W A hW hBW hd hv hr => ?_) ?_
  ·have e8 : u 8 = .bool true := hd 8 (by decide) (by kernel_rfl)
   have e10 : u 10 = undef := hd 10 (by decide) (by kernel_rfl)
   exact Or.inr ⟨e8, rfl, fun _ h => h⟩
  refine And.intro (fun u W A hW hBW hd hv hr => ?_) ?_
  ·have e8 : u 8 = .bool true := hd 8 (by decide) (by kernel_rfl)
   have e9 : u 9 = undef := hd 9 (by decide) (by kernel_rfl)
   have e11 : u 11 = undef := hd 11 (by decide) (by kernel_rfl)
   exact Or.inr ⟨e8, rfl, fun _ h => h⟩
  refine And.intro (fun u W A hW hBW hd hv hr => ?_) ?_
  ·have e8 : u 8 = .bool true := hd 8 (by decide) (by kernel_rfl)
   have e12 : u 12 = undef := hd 12 (by decide) (by kernel_rfl)
   have t23 : A.eval (.tmp 23) = .bool true := (hv 23 (by kernel_rfl)).trans ((by kernel_rfl : slotV _ _ _ u 23 = u 8).trans e8)
   have t27 : A.eval (.tmp 27) = undef := (hv 27 (by kernel_rfl)).trans ((by kernel_rfl : slotV _ _ _ u 27 = u 12).trans e12)
   clear hd hv
   have s23 := evalT t23
   have s27 := evalT t27
   clear t23 t27
   refine fk_run ?_
   go_simp
  refine And.intro (fun u W A hW hBW hd hv hr => ?_) ?_
  ·have e13 : u 13 = .bool true := hd 13 (by decide) (by kernel_rfl)
   have t28 : A.eval (.tmp 28) = .bool true := (hv 28 (by kernel_rfl)).trans ((by kernel_rfl : slotV _ _ _ u 28 = u 13).trans e13)
   clear hd hv
   have s28 := evalT t28
   clear t28
   refine fk_run ?_
   go_simp
  refine And.intro (fun u W A hW hBW hd hv hr => ?_) ?_
  ·have e14 : u 14 = .bool true := hd 14 (by decide) (by kernel_rfl)
   exact Or.inr ⟨e14, rfl, fun _ h => h⟩
  refine And.intro (fun u W A hW hBW hd hv hr => ?_) ?_
  ·have e14 : u 14 = .bool true := hd 14 (by decide) (by kernel_rfl)
   exact Or.inr ⟨e14, rfl, fun _ h => h⟩
  refine And.intro (fun u W A hW hBW hd hv hr => ?_) ?_
  ·have e14 : u 14 = .bool true := hd 14 (by decide) (by kernel_rfl)
   have e16 : u 16 = undef := hd 16 (by decide) (by kernel_rfl)
   exact Or.inr ⟨e14, rfl, fun _ h => h⟩
  refine And.intro (fun u W A hW hBW hd hv hr => ?_) ?_
  ·have e14 : u 14 = .bool true := hd 14 (by decide) (by kernel_rfl)
   have e15 : u 15 = undef := hd 15 (by decide) (by kernel_rfl)
   have e17 : u 17 = undef := hd 17 (by decide) (by kernel_rfl)
   exact Or.inr ⟨e14, rfl, fun _ h => h⟩
  refine And.intro (fun u W A hW hBW hd hv hr => ?_) ?_
  ·have e14 : u 14 = .bool true := hd 14 (by decide) (by kernel_rfl)
   have e18 : u 18 = undef := hd 18 (by decide) (by kernel_rfl)
   have t29 : A.eval (.tmp 29) = .bool true := (hv 29 (by kernel_rfl)).trans ((by kernel_rfl : slotV _ _ _ u 29 = u 14).trans e14)
   have t33 : A.eval (.tmp 33) = undef := (hv 33 (by kernel_rfl)).trans ((by kernel_rfl : slotV _ _ _ u 33 = u 18).trans e18)
   clear hd hv
   have s29 := evalT t29
   have s33 := evalT t33
   clear t29 t33
   refine fk_run ?_
   go_simp
  refine And.intro (fun u W A hW hBW hd hv hr => ?_) ?_
  ·have e19 : u 19 = .bool true := hd 19 (by decide) (by kernel_rfl)
   have t34 : A.eval (.tmp 34) = .bool true := (hv 34 (by kernel_rfl)).trans ((by kernel_rfl : slotV _ _ _ u 34 = u 19).trans e19)
   clear hd hv
   have s34 := evalT t34
   clear t34
   refine fk_run ?_
   go_simp
  refine And.intro (fun u W A hW hBW hd hv hr => ?_) ?_
  ·have e20 : u 20 = .bool true := hd 20 (by decide) (by kernel_rfl)
   exact Or.inr ⟨e20, rfl, fun _ h => h⟩
  refine And.intro (fun u W A hW hBW hd hv hr => ?_) ?_
  ·have e20 : u 20 = .bool true := hd 20 (by decide) (by kernel_rfl)
   have e21 : u 21 = undef := hd 21 (by decide) (by kernel_rfl)
   exact Or.inr ⟨e20, rfl, fun _ h => h⟩
  refine And.intro (fun u W A hW hBW hd hv hr => ?_) ?_
  ·have e20 : u 20 = .bool true := hd 20 (by decide) (by kernel_rfl)
   have e22 : u 22 = undef := hd 22 (by decide) (by kernel_rfl)
   exact Or.inr ⟨e20, rfl, fun _ h => h⟩
  refine And.intro (fun u W A hW hBW hd hv hr => ?_) ?_
  ·have e20 : u 20 = .bool true := hd 20 (by decide) (by kernel_rfl)
   have e23 : u 23 = undef := hd 23 (by decide) (by kernel_rfl)
   have t35 : A.eval (.tmp 35) = .bool true := (hv 35 (by kernel_rfl)).trans ((by kernel_rfl : slotV _ _ _ u 35 = u 20).trans e20)
   have t38 : A.eval (.tmp 38) = undef := (hv 38 (by kernel_rfl)).trans ((by kernel_rfl : slotV _ _ _ u 38 = u 23).trans e23)
   clear hd hv
   have s35 := evalT t35
   have s38 := evalT t38
   clear t35 t38
   refine fk_run ?_
   go_simp
  refine And.intro (fun u W A hW hBW hd hv hr => ?_) ?_
  ·have e24 : u 24 = .bool true := hd 24 (by decide) (by kernel_rfl)
   have t39 : A.eval (.tmp 39) = .bool true := (hv 39 (by kernel_rfl)).trans ((by kernel_rfl : slotV _ _ _ u 39 = u 24).trans e24)
   clear hd hv
   have s39 := evalT t39
   clear t39
   refine fk_run ?_
   go_simp
  refine And.intro (fun u W A hW hBW hd hv hr => ?_) ?_
  ·have e25 : u 25 = .bool true := hd 25 (by decide) (by kernel_rfl)
   exact Or.inr ⟨e25, rfl, fun _ h => h⟩
  refine And.intro (fun u W A hW hBW hd hv hr => ?_) ?_
  ·have e25 : u 25 = .bool true := hd 25 (by decide) (by kernel_rfl)
   have e26 : u 26 = undef := hd 26 (by decide) (by kernel_rfl)
   exact Or.inr ⟨e25, rfl, fun _ h => h⟩
  refine And.intro (fun u W A hW hBW hd hv hr => ?_) ?_
  ·have e25 : u 25 = .bool true := hd 25 (by decide) (by kernel_rfl)
   exact Or.inr ⟨e25, rfl, fun _ h => h⟩
  refine And.intro (fun u W A hW hBW hd hv hr => ?_) ?_
  ·have e25 : u 25 = .bool true := hd 25 (by decide) (by kernel_rfl)
   have e28 : u 28 = undef := hd 28 (by decide) (by kernel_rfl)
   exact Or.inr ⟨e25, rfl, fun _ h => h⟩
  refine And.intro (fun u W A hW hBW hd hv hr => ?_) ?_
  ·have e25 : u 25 = .bool true := hd 25 (by decide) (by kernel_rfl)
   have e27 : u 27 = undef := hd 27 (by decide) (by kernel_rfl)
   have e29 : u 29 = undef := hd 29 (by decide) (by kernel_rfl)
   exact Or.inr ⟨e25, rfl, fun _ h => h⟩
  refine And.intro (fun u W A hW hBW hd hv hr => ?_) ?_
  ·have e25 : u 25 = .bool true := hd 25 (by decide) (by kernel_rfl)
   have e30 : u 30 = undef := hd 30 (by decide) (by kernel_rfl)
   have t40 : A.eval (.tmp 40) = .bool true := (hv 40 (by kernel_rfl)).trans ((by kernel_rfl : slotV _ _ _ u 40 = u 25).trans e25)
   have t45 : A.eval (.tmp 45) = undef := (hv 45 (by kernel_rfl)).trans ((by kernel_rfl : slotV _ _ _ u 45 = u 30).trans e30)
   clear hd hv
   have s40 := evalT t40
   have s45 := evalT t45
   clear t40 t45
   refine fk_run ?_
   go_simp
  exact trivial
 intro u w2 hb2 hk2 hf2
 have e31 : u 31 = .bool true := hf2 31 (by decide) (by decide)
 have H2 := Lib.hid (HB1.out.trans ((below_undrew hb2).mono HB1.out.size))
 clear hf2 hb2 hk2
 simp only [List.take, List.drop, wpList, lexPut, Nat.zero_add, Nat.reduceAdd, e31, Act.put, List.setIfInBounds_toArray, List.set_cons_succ, List.set_cons_zero]
 clear e31
 go_wp2
 go_ret
 exact ⟨rfl, H2.out⟩
set_option maxRecDepth 100000 in
set_option maxHeartbeats 2000000 in
theorem ver_no2 (pub m : ByteArray) (idx : Int) (vs vp : Value) (sig path : List ByteArray) (w : World) (hpub : pub.size ≤ 1099511627776) (hm : m.size ≤ 1099511627776) (hs : IsStrC w vs sig) (hp : IsStrC w vp path) (hss : ∀ s ∈ sig, s.size ≤ 1099511627776) (hps : ∀ s ∈ path, s.size ≤ 1099511627776) (hT : Tabs w) (hA : sig.length = 18) (hB : ¬ path.length ≤ 8) :
  Calls Tryz.prog 78 #[.string pub, .string m, .agg #[.int .i64 idx, vs, vp]] w fun e w' => e = .returned (.bool (false)) ∧ Below w.heap.size w w' := by
 have HT := Lib.hid hT
 have HSS := Lib.hid hss
 have HSP := Lib.hid hps
 obtain ⟨aos, cs, rfl⟩ := strc_form hs
 obtain ⟨aop, cp, rfl⟩ := strc_form hp
 have HSG := Lib.hid hs
 have HPT := Lib.hid hp
 clear hT hss hps hs hp
 rw [hA] at HSG
 rw [hA]
 have HLS := Lib.hid hA
 clear hA
 have hpm : path.length ≤ 9223372036854775807 := by obtain ⟨ao, c, e, h1, h2, _⟩ := HPT.out; have : c ≤ 9223372036854775807 := h2; omega
 obtain ⟨lp, hlp⟩ : ∃ lp, lp = path.length := ⟨_, rfl⟩
 rw [← hlp] at hpm hB
 rw [← hlp] at HPT
 rw [← hlp]
 have HLP := Lib.hid hlp
 clear hlp
 have hdB : decide ((8 : Int) < (lp : Int)) = true := decide_eq_true (by omega)
 clear hB
 obtain ⟨hbx, hB1, hz⟩ := box_one w #[.int .i64 idx, .slice aos 18 cs, .slice aop lp cp] 25
 have C0 : Hid ((w.alloc (.cells #[.int .i64 idx, .slice aos 18 cs, .slice aop lp cp] 25)).cell? ⟨w.heap.size, 0, none⟩ = some (.int .i64 idx)) := Lib.hid (by rw [cell_of_row _ _ 0 _ _ _ hbx]; rfl)
 have C1 : Hid ((w.alloc (.cells #[.int .i64 idx, .slice aos 18 cs, .slice aop lp cp] 25)).cell? ⟨w.heap.size, 1, none⟩ = some (.slice aos 18 cs)) := Lib.hid (by rw [cell_of_row _ _ 1 _ _ _ hbx]; rfl)
 have C2 : Hid ((w.alloc (.cells #[.int .i64 idx, .slice aos 18 cs, .slice aop lp cp] 25)).cell? ⟨w.heap.size, 2, none⟩ = some (.slice aop lp cp)) := Lib.hid (by rw [cell_of_row _ _ 2 _ _ _ hbx]; rfl)
 have HB1 := Lib.hid hB1
 have HSG1 := Lib.hid (HSG.out.on hB1)
 have HPT1 := Lib.hid (HPT.out.on hB1)
 have hz1 : w.heap.size < (w.alloc (.cells #[.int .i64 idx, .slice aos 18 cs, .slice aop lp cp] 25)).heap.size := by omega
 clear hbx hB1 hz
 go_enter Tryz.func78, Tryz.ntmps78
 go_wp2_with fail
 generalize hgw : w.alloc (.cells #[.int .i64 idx, .slice aos 18 cs, .slice aop lp cp] 25) = w1 at *
 clear hgw
 refine wp_region_res 32 (w1.heap.size) (fun ii u => [valF (.pointer (some ⟨w.heap.size, 1, none⟩)), valF (.slice aos 18 cs), valF (.int .i64 18), valF (.bool false), valF (.bool false), valF (.int .i64 (lp : Int)), valF (.bool true), valF (.bool true), valF (.bool true), valF undef, valF undef, valF undef, valF undef, valF (.bool true), valF (.bool true), valF undef, valF undef, valF undef, valF undef, valF (.bool true), valF (.bool true), valF undef, valF undef, valF undef, valF (.bool true), valF (.bool true), valF undef, valF undef, valF undef, valF undef, valF undef, valF (.bool true)].getD ii anyF) (fun jj ii => false) (fun jj bb => False) (by kernel_rfl) (by kernel_rfl) (by kernel_rfl) (by kernel_rfl) (by kernel_rfl) (Nat.le_refl _) ?_ ?_ ?_ ?_ ?_
 ·intro ii u hii
  refine AllKStable.at ?_ ii
  exact ⟨.inl (valF_stable _ _), .inl (valF_stable _ _), .inl (valF_stable _ _), .inl (valF_stable _ _), .inl (valF_stable _ _), .inl (valF_stable _ _), .inl (valF_stable _ _), .inl (valF_stable _ _), .inl (valF_stable _ _), .inl (valF_stable _ _), .inl (valF_stable _ _), .inl (valF_stable _ _), .inl (valF_stable _ _), .inl (valF_stable _ _), .inl (valF_stable _ _), .inl (valF_stable _ _), .inl (valF_stable _ _), .inl (valF_stable _ _), .inl (valF_stable _ _), .inl (valF_stable _ _), .inl (valF_stable _ _), .inl (valF_stable _ _), .inl (valF_stable _ _), .inl (valF_stable _ _), .inl (valF_stable _ _), .inl (valF_stable _ _), .inl (valF_stable _ _), .inl (valF_stable _ _), .inl (valF_stable _ _), .inl (valF_stable _ _), .inl (valF_stable _ _), .inl (valF_stable _ _), trivial⟩
 ·exact fun _ _ _ _ _ => rfl
 ·exact ⟨fun _ _ _ h => h.elim, fun _ _ _ _ _ h => h.elim⟩
 ·refine And.intro (fun u W A hW hBW hd hv hr => ?_) ?_
  ·have t5 : A.eval (.tmp 5) = .pointer (some ⟨w.heap.size, 0, none⟩) := (hv 5 (by kernel_rfl)).trans (by kernel_rfl)
   clear hd hv
   have s5 := evalT t5
   clear t5
   refine fk_run ?_
   go_simp
  refine And.intro (fun u W A hW hBW hd hv hr => ?_) ?_
  ·have e0 : u 0 = .pointer (some ⟨w.heap.size, 1, none⟩) := hd 0 (by decide) (by kernel_rfl)
   have t15 : A.eval (.tmp 15) = .pointer (some ⟨w.heap.size, 1, none⟩) := (hv 15 (by kernel_rfl)).trans ((by kernel_rfl : slotV _ _ _ u 15 = u 0).trans e0)
   have hW1 := below_undrew hW
   have hcl : W.cell? ⟨w.heap.size, 1, none⟩ = some (.slice aos 18 cs) := by rw [hW1.cell (p := ⟨w.heap.size, 1, none⟩) (by show w.heap.size < w1.heap.size; omega)]; exact C1.out
   clear hd hv
   have s15 := evalT t15
   clear t15
   refine fk_run ?_
   go_simp
  refine And.intro (fun u W A hW hBW hd hv hr => ?_) ?_
  ·have e1 : u 1 = .slice aos 18 cs := hd 1 (by decide) (by kernel_rfl)
   have t16 : A.eval (.tmp 16) = .slice aos 18 cs := (hv 16 (by kernel_rfl)).trans ((by kernel_rfl : slotV _ _ _ u 16 = u 1).trans e1)
   clear hd hv
   have s16 := evalT t16
   clear t16
   refine fk_run ?_
   go_simp
  refine And.intro (fun u W A hW hBW hd hv hr => ?_) ?_
  ·have e2 : u 2 = .int .i64 18 := hd 2 (by decide) (by kernel_rfl)
   have t17 : A.eval (.tmp 17) = .int .i64 18 := (hv 17 (by kernel_rfl)).trans ((by kernel_rfl : slotV _ _ _ u 17 = u 2).trans e2)
   clear hd hv
   have s17 := evalT t17
   clear t17
   refine fk_run ?_
   go_simp
  refine And.intro (fun u W A hW hBW hd hv hr => ?_) ?_
  ·have e3 : u 3 = .bool false := hd 3 (by decide) (by kernel_rfl)
   have t18 : A.eval (.tmp 18) = .bool false := (hv 18 (by kernel_rfl)).trans ((by kernel_rfl : slotV _ _ _ u 18 = u 3).trans e3)
   clear hd hv
   have s18 := evalT t18
   clear t18
   refine fk_run ?_
   go_simp
  refine And.intro (fun u W A hW hBW hd hv hr => ?_) ?_
  ·have e4 : u 4 = .bool false := hd 4 (by decide) (by kernel_rfl)
   have t7 : A.eval (.tmp 7) = .int .i64 (lp : Int) := (hv 7 (by kernel_rfl)).trans (by kernel_rfl)
   clear hd hv
   have s7 := evalT t7
   clear t7
   refine Or.inl ⟨e4, ?_⟩
   refine fk_run ?_
   go_simp
  refine And.intro (fun u W A hW hBW hd hv hr => ?_) ?_
  ·have e4 : u 4 = .bool false := hd 4 (by decide) (by kernel_rfl)
   have e5 : u 5 = .int .i64 (lp : Int) := hd 5 (by decide) (by kernel_rfl)
   have t20 : A.eval (.tmp 20) = .int .i64 (lp : Int) := (hv 20 (by kernel_rfl)).trans ((by kernel_rfl : slotV _ _ _ u 20 = u 5).trans e5)
   clear hd hv
   have s20 := evalT t20
   clear t20
   refine Or.inl ⟨e4, ?_⟩
   refine fk_run ?_
   go_simp
  refine And.intro (fun u W A hW hBW hd hv hr => ?_) ?_
  ·have e4 : u 4 = .bool false := hd 4 (by decide) (by kernel_rfl)
   have e6 : u 6 = .bool true := hd 6 (by decide) (by kernel_rfl)
   have t19 : A.eval (.tmp 19) = .bool false := (hv 19 (by kernel_rfl)).trans ((by kernel_rfl : slotV _ _ _ u 19 = u 4).trans e4)
   have t21 : A.eval (.tmp 21) = .bool true := (hv 21 (by kernel_rfl)).trans ((by kernel_rfl : slotV _ _ _ u 21 = u 6).trans e6)
   clear hd hv
   have s19 := evalT t19
   have s21 := evalT t21
   clear t19 t21
   refine fk_run ?_
   go_simp
  refine And.intro (fun u W A hW hBW hd hv hr => ?_) ?_
  ·have e7 : u 7 = .bool true := hd 7 (by decide) (by kernel_rfl)
   have t22 : A.eval (.tmp 22) = .bool true := (hv 22 (by kernel_rfl)).trans ((by kernel_rfl : slotV _ _ _ u 22 = u 7).trans e7)
   clear hd hv
   have s22 := evalT t22
   clear t22
   refine fk_run ?_
   go_simp
  refine And.intro (fun u W A hW hBW hd hv hr => ?_) ?_
  ·have e8 : u 8 = .bool true := hd 8 (by decide) (by kernel_rfl)
   exact Or.inr ⟨e8, rfl, fun _ h => h⟩
  refine And.intro (fun u W A hW hBW hd hv hr => ?_) ?_
  ·have e8 : u 8 = .bool true := hd 8 (by decide) (by kernel_rfl)
   exact Or.inr ⟨e8, rfl, fun _ h => h⟩
  refine And.intro (fun u W A hW hBW hd hv hr => ?_) ?_
  ·have e8 : u 8 = .bool true := hd 8 (by decide) (by kernel_rfl)
   have e10 : u 10 = undef := hd 10 (by decide) (by kernel_rfl)
   exact Or.inr ⟨e8, rfl, fun _ h => h⟩
  refine And.intro (fun u W A hW hBW hd hv hr => ?_) ?_
  ·have e8 : u 8 = .bool true := hd 8 (by decide) (by kernel_rfl)
   have e9 : u 9 = undef := hd 9 (by decide) (by kernel_rfl)
   have e11 : u 11 = undef := hd 11 (by decide) (by kernel_rfl)
   exact Or.inr ⟨e8, rfl, fun _ h => h⟩
  refine And.intro (fun u W A hW hBW hd hv hr => ?_) ?_
  ·have e8 : u 8 = .bool true := hd 8 (by decide) (by kernel_rfl)
   have e12 : u 12 = undef := hd 12 (by decide) (by kernel_rfl)
   have t23 : A.eval (.tmp 23) = .bool true := (hv 23 (by kernel_rfl)).trans ((by kernel_rfl : slotV _ _ _ u 23 = u 8).trans e8)
   have t27 : A.eval (.tmp 27) = undef := (hv 27 (by kernel_rfl)).trans ((by kernel_rfl : slotV _ _ _ u 27 = u 12).trans e12)
   clear hd hv
   have s23 := evalT t23
   have s27 := evalT t27
   clear t23 t27
   refine fk_run ?_
   go_simp
  refine And.intro (fun u W A hW hBW hd hv hr => ?_) ?_
  ·have e13 : u 13 = .bool true := hd 13 (by decide) (by kernel_rfl)
   have t28 : A.eval (.tmp 28) = .bool true := (hv 28 (by kernel_rfl)).trans ((by kernel_rfl : slotV _ _ _ u 28 = u 13).trans e13)
   clear hd hv
   have s28 := evalT t28
   clear t28
   refine fk_run ?_
   go_simp
  refine And.intro (fun u W A hW hBW hd hv hr => ?_) ?_
  ·have e14 : u 14 = .bool true := hd 14 (by decide) (by kernel_rfl)
   exact Or.inr ⟨e14, rfl, fun _ h => h⟩
  refine And.intro (fun u W A hW hBW hd hv hr => ?_) ?_
  ·have e14 : u 14 = .bool true := hd 14 (by decide) (by kernel_rfl)
   exact Or.inr ⟨e14, rfl, fun _ h => h⟩
  refine And.intro (fun u W A hW hBW hd hv hr => ?_) ?_
  ·have e14 : u 14 = .bool true := hd 14 (by decide) (by kernel_rfl)
   have e16 : u 16 = undef := hd 16 (by decide) (by kernel_rfl)
   exact Or.inr ⟨e14, rfl, fun _ h => h⟩
  refine And.intro (fun u W A hW hBW hd hv hr => ?_) ?_
  ·have e14 : u 14 = .bool true := hd 14 (by decide) (by kernel_rfl)
   have e15 : u 15 = undef := hd 15 (by decide) (by kernel_rfl)
   have e17 : u 17 = undef := hd 17 (by decide) (by kernel_rfl)
   exact Or.inr ⟨e14, rfl, fun _ h => h⟩
  refine And.intro (fun u W A hW hBW hd hv hr => ?_) ?_
  ·have e14 : u 14 = .bool true := hd 14 (by decide) (by kernel_rfl)
   have e18 : u 18 = undef := hd 18 (by decide) (by kernel_rfl)
   have t29 : A.eval (.tmp 29) = .bool true := (hv 29 (by kernel_rfl)).trans ((by kernel_rfl : slotV _ _ _ u 29 = u 14).trans e14)
   have t33 : A.eval (.tmp 33) = undef := (hv 33 (by kernel_rfl)).trans ((by kernel_rfl : slotV _ _ _ u 33 = u 18).trans e18)
   clear hd hv
   have s29 := evalT t29
   have s33 := evalT t33
   clear t29 t33
   refine fk_run ?_
   go_simp
  refine And.intro (fun u W A hW hBW hd hv hr => ?_) ?_
  ·have e19 : u 19 = .bool true := hd 19 (by decide) (by kernel_rfl)
   have t34 : A.eval (.tmp 34) = .bool true := (hv 34 (by kernel_rfl)).trans ((by kernel_rfl : slotV _ _ _ u 34 = u 19).trans e19)
   clear hd hv
   have s34 := evalT t34
   clear t34
   refine fk_run ?_
   go_simp
  refine And.intro (fun u W A hW hBW hd hv hr => ?_) ?_
  ·have e20 : u 20 = .bool true := hd 20 (by decide) (by kernel_rfl)
   exact Or.inr ⟨e20, rfl, fun _ h => h⟩
  refine And.intro (fun u W A hW hBW hd hv hr => ?_) ?_
  ·have e20 : u 20 = .bool true := hd 20 (by decide) (by kernel_rfl)
   have e21 : u 21 = undef := hd 21 (by decide) (by kernel_rfl)
   exact Or.inr ⟨e20, rfl, fun _ h => h⟩
  refine And.intro (fun u W A hW hBW hd hv hr => ?_) ?_
  ·have e20 : u 20 = .bool true := hd 20 (by decide) (by kernel_rfl)
   have e22 : u 22 = undef := hd 22 (by decide) (by kernel_rfl)
   exact Or.inr ⟨e20, rfl, fun _ h => h⟩
  refine And.intro (fun u W A hW hBW hd hv hr => ?_) ?_
  ·have e20 : u 20 = .bool true := hd 20 (by decide) (by kernel_rfl)
   have e23 : u 23 = undef := hd 23 (by decide) (by kernel_rfl)
   have t35 : A.eval (.tmp 35) = .bool true := (hv 35 (by kernel_rfl)).trans ((by kernel_rfl : slotV _ _ _ u 35 = u 20).trans e20)
   have t38 : A.eval (.tmp 38) = undef := (hv 38 (by kernel_rfl)).trans ((by kernel_rfl : slotV _ _ _ u 38 = u 23).trans e23)
   clear hd hv
   have s35 := evalT t35
   have s38 := evalT t38
   clear t35 t38
   refine fk_run ?_
   go_simp
  refine And.intro (fun u W A hW hBW hd hv hr => ?_) ?_
  ·have e24 : u 24 = .bool true := hd 24 (by decide) (by kernel_rfl)
   have t39 : A.eval (.tmp 39) = .bool true := (hv 39 (by kernel_rfl)).trans ((by kernel_rfl : slotV _ _ _ u 39 = u 24).trans e24)
   clear hd hv
   have s39 := evalT t39
   clear t39
   refine fk_run ?_
   go_simp
  refine And.intro (fun u W A hW hBW hd hv hr => ?_) ?_
  ·have e25 : u 25 = .bool true := hd 25 (by decide) (by kernel_rfl)
   exact Or.inr ⟨e25, rfl, fun _ h => h⟩
  refine And.intro (fun u W A hW hBW hd hv hr => ?_) ?_
  ·have e25 : u 25 = .bool true := hd 25 (by decide) (by kernel_rfl)
   have e26 : u 26 = undef := hd 26 (by decide) (by kernel_rfl)
   exact Or.inr ⟨e25, rfl, fun _ h => h⟩
  refine And.intro (fun u W A hW hBW hd hv hr => ?_) ?_
  ·have e25 : u 25 = .bool true := hd 25 (by decide) (by kernel_rfl)
   exact Or.inr ⟨e25, rfl, fun _ h => h⟩
  refine And.intro (fun u W A hW hBW hd hv hr => ?_) ?_
  ·have e25 : u 25 = .bool true := hd 25 (by decide) (by kernel_rfl)
   have e28 : u 28 = undef := hd 28 (by decide) (by kernel_rfl)
   exact Or.inr ⟨e25, rfl, fun _ h => h⟩
  refine And.intro (fun u W A hW hBW hd hv hr => ?_) ?_
  ·have e25 : u 25 = .bool true := hd 25 (by decide) (by kernel_rfl)
   have e27 : u 27 = undef := hd 27 (by decide) (by kernel_rfl)
   have e29 : u 29 = undef := hd 29 (by decide) (by kernel_rfl)
   exact Or.inr ⟨e25, rfl, fun _ h => h⟩
  refine And.intro (fun u W A hW hBW hd hv hr => ?_) ?_
  ·have e25 : u 25 = .bool true := hd 25 (by decide) (by kernel_rfl)
   have e30 : u 30 = undef := hd 30 (by decide) (by kernel_rfl)
   have t40 : A.eval (.tmp 40) = .bool true := (hv 40 (by kernel_rfl)).trans ((by kernel_rfl : slotV _ _ _ u 40 = u 25).trans e25)
   have t45 : A.eval (.tmp 45) = undef := (hv 45 (by kernel_rfl)).trans ((by kernel_rfl : slotV _ _ _ u 45 = u 30).trans e30)
   clear hd hv
   have s40 := evalT t40
   have s45 := evalT t45
   clear t40 t45
   refine fk_run ?_
   go_simp
  exact trivial
 intro u w2 hb2 hk2 hf2
 have e31 : u 31 = .bool true := hf2 31 (by decide) (by decide)
 have H2 := Lib.hid (HB1.out.trans ((below_undrew hb2).mono HB1.out.size))
 clear hf2 hb2 hk2
 simp only [List.take, List.drop, wpList, lexPut, Nat.zero_add, Nat.reduceAdd, e31, Act.put, List.setIfInBounds_toArray, List.set_cons_succ, List.set_cons_zero]
 clear e31
 go_wp2
 go_ret
 exact ⟨rfl, H2.out⟩
set_option maxRecDepth 100000 in
set_option maxHeartbeats 2000000 in
theorem ver_no3 (pub m : ByteArray) (idx : Int) (vs vp : Value) (sig path : List ByteArray) (w : World) (hpub : pub.size ≤ 1099511627776) (hm : m.size ≤ 1099511627776) (hs : IsStrC w vs sig) (hp : IsStrC w vp path) (hss : ∀ s ∈ sig, s.size ≤ 1099511627776) (hps : ∀ s ∈ path, s.size ≤ 1099511627776) (hT : Tabs w) (hA : sig.length = 18) (hB : path.length ≤ 8) (hC : sig.all isS = false) :
  Calls Tryz.prog 78 #[.string pub, .string m, .agg #[.int .i64 idx, vs, vp]] w fun e w' => e = .returned (.bool (false)) ∧ Below w.heap.size w w' := by
 have HT := Lib.hid hT
 have HSS := Lib.hid hss
 have HSP := Lib.hid hps
 obtain ⟨aos, cs, rfl⟩ := strc_form hs
 obtain ⟨aop, cp, rfl⟩ := strc_form hp
 have HSG := Lib.hid hs
 have HPT := Lib.hid hp
 clear hT hss hps hs hp
 rw [hA] at HSG
 rw [hA]
 have HLS := Lib.hid hA
 clear hA
 have hpm : path.length ≤ 9223372036854775807 := by obtain ⟨ao, c, e, h1, h2, _⟩ := HPT.out; have : c ≤ 9223372036854775807 := h2; omega
 obtain ⟨lp, hlp⟩ : ∃ lp, lp = path.length := ⟨_, rfl⟩
 rw [← hlp] at hpm hB
 rw [← hlp] at HPT
 rw [← hlp]
 have HLP := Lib.hid hlp
 clear hlp
 have hdB : decide ((8 : Int) < (lp : Int)) = false := decide_eq_false (by omega)
 have HC : Hid ((!(sig.all isS)) = true) := Lib.hid (by rw [hC]; rfl)
 clear hC
 obtain ⟨hbx, hB1, hz⟩ := box_one w #[.int .i64 idx, .slice aos 18 cs, .slice aop lp cp] 25
 have C0 : Hid ((w.alloc (.cells #[.int .i64 idx, .slice aos 18 cs, .slice aop lp cp] 25)).cell? ⟨w.heap.size, 0, none⟩ = some (.int .i64 idx)) := Lib.hid (by rw [cell_of_row _ _ 0 _ _ _ hbx]; rfl)
 have C1 : Hid ((w.alloc (.cells #[.int .i64 idx, .slice aos 18 cs, .slice aop lp cp] 25)).cell? ⟨w.heap.size, 1, none⟩ = some (.slice aos 18 cs)) := Lib.hid (by rw [cell_of_row _ _ 1 _ _ _ hbx]; rfl)
 have C2 : Hid ((w.alloc (.cells #[.int .i64 idx, .slice aos 18 cs, .slice aop lp cp] 25)).cell? ⟨w.heap.size, 2, none⟩ = some (.slice aop lp cp)) := Lib.hid (by rw [cell_of_row _ _ 2 _ _ _ hbx]; rfl)
 have HB1 := Lib.hid hB1
 have HSG1 := Lib.hid (HSG.out.on hB1)
 have HPT1 := Lib.hid (HPT.out.on hB1)
 have hz1 : w.heap.size < (w.alloc (.cells #[.int .i64 idx, .slice aos 18 cs, .slice aop lp cp] 25)).heap.size := by omega
 clear hbx hB1 hz
 go_enter Tryz.func78, Tryz.ntmps78
 go_wp2_with fail
 generalize hgw : w.alloc (.cells #[.int .i64 idx, .slice aos 18 cs, .slice aop lp cp] 25) = w1 at *
 clear hgw
 refine wp_region_res 32 (w1.heap.size) (fun ii u => [valF (.pointer (some ⟨w.heap.size, 1, none⟩)), valF (.slice aos 18 cs), valF (.int .i64 18), valF (.bool false), valF (.bool false), valF (.int .i64 (lp : Int)), valF (.bool false), valF (.bool false), valF (.bool false), valF (.func (.func 105) #[] #[]), valF (.pointer (some ⟨w.heap.size, 1, none⟩)), valF (.slice aos 18 cs), valF (.bool true), valF (.bool true), valF (.bool true), valF undef, valF undef, valF undef, valF undef, valF (.bool true), valF (.bool true), valF undef, valF undef, valF undef, valF (.bool true), valF (.bool true), valF undef, valF undef, valF undef, valF undef, valF undef, valF (.bool true)].getD ii anyF) (fun jj ii => false) (fun jj bb => False) (by kernel_rfl) (by kernel_rfl) (by kernel_rfl) (by kernel_rfl) (by kernel_rfl) (Nat.le_refl _) ?_ ?_ ?_ ?_ ?_
 ·intro ii u hii
  refine AllKStable.at ?_ ii
  exact ⟨.inl (valF_stable _ _), .inl (valF_stable _ _), .inl (valF_stable _ _), .inl (valF_stable _ _), .inl (valF_stable _ _), .inl (valF_stable _ _), .inl (valF_stable _ _), .inl (valF_stable _ _), .inl (valF_stable _ _), .inl (valF_stable _ _), .inl (valF_stable _ _), .inl (valF_stable _ _), .inl (valF_stable _ _), .inl (valF_stable _ _), .inl (valF_stable _ _), .inl (valF_stable _ _), .inl (valF_stable _ _), .inl (valF_stable _ _), .inl (valF_stable _ _), .inl (valF_stable _ _), .inl (valF_stable _ _), .inl (valF_stable _ _), .inl (valF_stable _ _), .inl (valF_stable _ _), .inl (valF_stable _ _), .inl (valF_stable _ _), .inl (valF_stable _ _), .inl (valF_stable _ _), .inl (valF_stable _ _), .inl (valF_stable _ _), .inl (valF_stable _ _), .inl (valF_stable _ _), trivial⟩
 ·exact fun _ _ _ _ _ => rfl
 ·exact ⟨fun _ _ _ h => h.elim, fun _ _ _ _ _ h => h.elim⟩
 ·refine And.intro (fun u W A hW hBW hd hv hr => ?_) ?_
  ·have t5 : A.eval (.tmp 5) = .pointer (some ⟨w.heap.size, 0, none⟩) := (hv 5 (by kernel_rfl)).trans (by kernel_rfl)
   clear hd hv
   have s5 := evalT t5
   clear t5
   refine fk_run ?_
   go_simp
  refine And.intro (fun u W A hW hBW hd hv hr => ?_) ?_
  ·have e0 : u 0 = .pointer (some ⟨w.heap.size, 1, none⟩) := hd 0 (by decide) (by kernel_rfl)
   have t15 : A.eval (.tmp 15) = .pointer (some ⟨w.heap.size, 1, none⟩) := (hv 15 (by kernel_rfl)).trans ((by kernel_rfl : slotV _ _ _ u 15 = u 0).trans e0)
   have hW1 := below_undrew hW
   have hcl : W.cell? ⟨w.heap.size, 1, none⟩ = some (.slice aos 18 cs) := by rw [hW1.cell (p := ⟨w.heap.size, 1, none⟩) (by show w.heap.size < w1.heap.size; omega)]; exact C1.out
   clear hd hv
   have s15 := evalT t15
   clear t15
   refine fk_run ?_
   go_simp
  refine And.intro (fun u W A hW hBW hd hv hr => ?_) ?_
  ·have e1 : u 1 = .slice aos 18 cs := hd 1 (by decide) (by kernel_rfl)
   have t16 : A.eval (.tmp 16) = .slice aos 18 cs := (hv 16 (by kernel_rfl)).trans ((by kernel_rfl : slotV _ _ _ u 16 = u 1).trans e1)
   clear hd hv
   have s16 := evalT t16
   clear t16
   refine fk_run ?_
   go_simp
  refine And.intro (fun u W A hW hBW hd hv hr => ?_) ?_
  ·have e2 : u 2 = .int .i64 18 := hd 2 (by decide) (by kernel_rfl)
   have t17 : A.eval (.tmp 17) = .int .i64 18 := (hv 17 (by kernel_rfl)).trans ((by kernel_rfl : slotV _ _ _ u 17 = u 2).trans e2)
   clear hd hv
   have s17 := evalT t17
   clear t17
   refine fk_run ?_
   go_simp
  refine And.intro (fun u W A hW hBW hd hv hr => ?_) ?_
  ·have e3 : u 3 = .bool false := hd 3 (by decide) (by kernel_rfl)
   have t18 : A.eval (.tmp 18) = .bool false := (hv 18 (by kernel_rfl)).trans ((by kernel_rfl : slotV _ _ _ u 18 = u 3).trans e3)
   clear hd hv
   have s18 := evalT t18
   clear t18
   refine fk_run ?_
   go_simp
  refine And.intro (fun u W A hW hBW hd hv hr => ?_) ?_
  ·have e4 : u 4 = .bool false := hd 4 (by decide) (by kernel_rfl)
   have t7 : A.eval (.tmp 7) = .int .i64 (lp : Int) := (hv 7 (by kernel_rfl)).trans (by kernel_rfl)
   clear hd hv
   have s7 := evalT t7
   clear t7
   refine Or.inl ⟨e4, ?_⟩
   refine fk_run ?_
   go_simp
  refine And.intro (fun u W A hW hBW hd hv hr => ?_) ?_
  ·have e4 : u 4 = .bool false := hd 4 (by decide) (by kernel_rfl)
   have e5 : u 5 = .int .i64 (lp : Int) := hd 5 (by decide) (by kernel_rfl)
   have t20 : A.eval (.tmp 20) = .int .i64 (lp : Int) := (hv 20 (by kernel_rfl)).trans ((by kernel_rfl : slotV _ _ _ u 20 = u 5).trans e5)
   clear hd hv
   have s20 := evalT t20
   clear t20
   refine Or.inl ⟨e4, ?_⟩
   refine fk_run ?_
   go_simp
  refine And.intro (fun u W A hW hBW hd hv hr => ?_) ?_
  ·have e4 : u 4 = .bool false := hd 4 (by decide) (by kernel_rfl)
   have e6 : u 6 = .bool false := hd 6 (by decide) (by kernel_rfl)
   have t19 : A.eval (.tmp 19) = .bool false := (hv 19 (by kernel_rfl)).trans ((by kernel_rfl : slotV _ _ _ u 19 = u 4).trans e4)
   have t21 : A.eval (.tmp 21) = .bool false := (hv 21 (by kernel_rfl)).trans ((by kernel_rfl : slotV _ _ _ u 21 = u 6).trans e6)
   clear hd hv
   have s19 := evalT t19
   have s21 := evalT t21
   clear t19 t21
   refine fk_run ?_
   go_simp
  refine And.intro (fun u W A hW hBW hd hv hr => ?_) ?_
  ·have e7 : u 7 = .bool false := hd 7 (by decide) (by kernel_rfl)
   have t22 : A.eval (.tmp 22) = .bool false := (hv 22 (by kernel_rfl)).trans ((by kernel_rfl : slotV _ _ _ u 22 = u 7).trans e7)
   clear hd hv
   have s22 := evalT t22
   clear t22
   refine fk_run ?_
   go_simp
  refine And.intro (fun u W A hW hBW hd hv hr => ?_) ?_
  ·have e8 : u 8 = .bool false := hd 8 (by decide) (by kernel_rfl)
   have t8 : A.eval (.tmp 8) = .func (.func 105) #[] #[] := (hv 8 (by kernel_rfl)).trans (by kernel_rfl)
   clear hd hv
   have s8 := evalT t8
   clear t8
   refine Or.inl ⟨e8, ?_⟩
   refine fk_run ?_
   go_simp
  refine And.intro (fun u W A hW hBW hd hv hr => ?_) ?_
  ·have e8 : u 8 = .bool false := hd 8 (by decide) (by kernel_rfl)
   have t5 : A.eval (.tmp 5) = .pointer (some ⟨w.heap.size, 0, none⟩) := (hv 5 (by kernel_rfl)).trans (by kernel_rfl)
   clear hd hv
   have s5 := evalT t5
   clear t5
   refine Or.inl ⟨e8, ?_⟩
   refine fk_run ?_
   go_simp
  refine And.intro (fun u W A hW hBW hd hv hr => ?_) ?_
  ·have e8 : u 8 = .bool false := hd 8 (by decide) (by kernel_rfl)
   have e10 : u 10 = .pointer (some ⟨w.heap.size, 1, none⟩) := hd 10 (by decide) (by kernel_rfl)
   have t25 : A.eval (.tmp 25) = .pointer (some ⟨w.heap.size, 1, none⟩) := (hv 25 (by kernel_rfl)).trans ((by kernel_rfl : slotV _ _ _ u 25 = u 10).trans e10)
   have hW1 := below_undrew hW
   have hcl : W.cell? ⟨w.heap.size, 1, none⟩ = some (.slice aos 18 cs) := by rw [hW1.cell (p := ⟨w.heap.size, 1, none⟩) (by show w.heap.size < w1.heap.size; omega)]; exact C1.out
   clear hd hv
   have s25 := evalT t25
   clear t25
   refine Or.inl ⟨e8, ?_⟩
   refine fk_run ?_
   go_simp
  refine And.intro (fun u W A hW hBW hd hv hr => ?_) ?_
  ·have e8 : u 8 = .bool false := hd 8 (by decide) (by kernel_rfl)
   have e9 : u 9 = .func (.func 105) #[] #[] := hd 9 (by decide) (by kernel_rfl)
   have e11 : u 11 = .slice aos 18 cs := hd 11 (by decide) (by kernel_rfl)
   have t24 : A.eval (.tmp 24) = .func (.func 105) #[] #[] := (hv 24 (by kernel_rfl)).trans ((by kernel_rfl : slotV _ _ _ u 24 = u 9).trans e9)
   have t26 : A.eval (.tmp 26) = .slice aos 18 cs := (hv 26 (by kernel_rfl)).trans ((by kernel_rfl : slotV _ _ _ u 26 = u 11).trans e11)
   have hW1 := below_undrew hW
   clear hd hv
   have s24 := evalT t24
   have s26 := evalT t26
   clear t24 t26
   refine Or.inl ⟨e8, ?_⟩
   refine fk_enter (f := 105) (args := #[.slice aos 18 cs]) (by go_simp) (fk_val ?_)
   have hod := sodd_calls _ sig W (HSG1.out.on hW1) HSS.out
   rw [HC.out] at hod
   exact hod
  refine And.intro (fun u W A hW hBW hd hv hr => ?_) ?_
  ·have e8 : u 8 = .bool false := hd 8 (by decide) (by kernel_rfl)
   have e12 : u 12 = .bool true := hd 12 (by decide) (by kernel_rfl)
   have t23 : A.eval (.tmp 23) = .bool false := (hv 23 (by kernel_rfl)).trans ((by kernel_rfl : slotV _ _ _ u 23 = u 8).trans e8)
   have t27 : A.eval (.tmp 27) = .bool true := (hv 27 (by kernel_rfl)).trans ((by kernel_rfl : slotV _ _ _ u 27 = u 12).trans e12)
   clear hd hv
   have s23 := evalT t23
   have s27 := evalT t27
   clear t23 t27
   refine fk_run ?_
   go_simp
  refine And.intro (fun u W A hW hBW hd hv hr => ?_) ?_
  ·have e13 : u 13 = .bool true := hd 13 (by decide) (by kernel_rfl)
   have t28 : A.eval (.tmp 28) = .bool true := (hv 28 (by kernel_rfl)).trans ((by kernel_rfl : slotV _ _ _ u 28 = u 13).trans e13)
   clear hd hv
   have s28 := evalT t28
   clear t28
   refine fk_run ?_
   go_simp
  refine And.intro (fun u W A hW hBW hd hv hr => ?_) ?_
  ·have e14 : u 14 = .bool true := hd 14 (by decide) (by kernel_rfl)
   exact Or.inr ⟨e14, rfl, fun _ h => h⟩
  refine And.intro (fun u W A hW hBW hd hv hr => ?_) ?_
  ·have e14 : u 14 = .bool true := hd 14 (by decide) (by kernel_rfl)
   exact Or.inr ⟨e14, rfl, fun _ h => h⟩
  refine And.intro (fun u W A hW hBW hd hv hr => ?_) ?_
  ·have e14 : u 14 = .bool true := hd 14 (by decide) (by kernel_rfl)
   have e16 : u 16 = undef := hd 16 (by decide) (by kernel_rfl)
   exact Or.inr ⟨e14, rfl, fun _ h => h⟩
  refine And.intro (fun u W A hW hBW hd hv hr => ?_) ?_
  ·have e14 : u 14 = .bool true := hd 14 (by decide) (by kernel_rfl)
   have e15 : u 15 = undef := hd 15 (by decide) (by kernel_rfl)
   have e17 : u 17 = undef := hd 17 (by decide) (by kernel_rfl)
   exact Or.inr ⟨e14, rfl, fun _ h => h⟩
  refine And.intro (fun u W A hW hBW hd hv hr => ?_) ?_
  ·have e14 : u 14 = .bool true := hd 14 (by decide) (by kernel_rfl)
   have e18 : u 18 = undef := hd 18 (by decide) (by kernel_rfl)
   have t29 : A.eval (.tmp 29) = .bool true := (hv 29 (by kernel_rfl)).trans ((by kernel_rfl : slotV _ _ _ u 29 = u 14).trans e14)
   have t33 : A.eval (.tmp 33) = undef := (hv 33 (by kernel_rfl)).trans ((by kernel_rfl : slotV _ _ _ u 33 = u 18).trans e18)
   clear hd hv
   have s29 := evalT t29
   have s33 := evalT t33
   clear t29 t33
   refine fk_run ?_
   go_simp
  refine And.intro (fun u W A hW hBW hd hv hr => ?_) ?_
  ·have e19 : u 19 = .bool true := hd 19 (by decide) (by kernel_rfl)
   have t34 : A.eval (.tmp 34) = .bool true := (hv 34 (by kernel_rfl)).trans ((by kernel_rfl : slotV _ _ _ u 34 = u 19).trans e19)
   clear hd hv
   have s34 := evalT t34
   clear t34
   refine fk_run ?_
   go_simp
  refine And.intro (fun u W A hW hBW hd hv hr => ?_) ?_
  ·have e20 : u 20 = .bool true := hd 20 (by decide) (by kernel_rfl)
   exact Or.inr ⟨e20, rfl, fun _ h => h⟩
  refine And.intro (fun u W A hW hBW hd hv hr => ?_) ?_
  ·have e20 : u 20 = .bool true := hd 20 (by decide) (by kernel_rfl)
   have e21 : u 21 = undef := hd 21 (by decide) (by kernel_rfl)
   exact Or.inr ⟨e20, rfl, fun _ h => h⟩
  refine And.intro (fun u W A hW hBW hd hv hr => ?_) ?_
  ·have e20 : u 20 = .bool true := hd 20 (by decide) (by kernel_rfl)
   have e22 : u 22 = undef := hd 22 (by decide) (by kernel_rfl)
   exact Or.inr ⟨e20, rfl, fun _ h => h⟩
  refine And.intro (fun u W A hW hBW hd hv hr => ?_) ?_
  ·have e20 : u 20 = .bool true := hd 20 (by decide) (by kernel_rfl)
   have e23 : u 23 = undef := hd 23 (by decide) (by kernel_rfl)
   have t35 : A.eval (.tmp 35) = .bool true := (hv 35 (by kernel_rfl)).trans ((by kernel_rfl : slotV _ _ _ u 35 = u 20).trans e20)
   have t38 : A.eval (.tmp 38) = undef := (hv 38 (by kernel_rfl)).trans ((by kernel_rfl : slotV _ _ _ u 38 = u 23).trans e23)
   clear hd hv
   have s35 := evalT t35
   have s38 := evalT t38
   clear t35 t38
   refine fk_run ?_
   go_simp
  refine And.intro (fun u W A hW hBW hd hv hr => ?_) ?_
  ·have e24 : u 24 = .bool true := hd 24 (by decide) (by kernel_rfl)
   have t39 : A.eval (.tmp 39) = .bool true := (hv 39 (by kernel_rfl)).trans ((by kernel_rfl : slotV _ _ _ u 39 = u 24).trans e24)
   clear hd hv
   have s39 := evalT t39
   clear t39
   refine fk_run ?_
   go_simp
  refine And.intro (fun u W A hW hBW hd hv hr => ?_) ?_
  ·have e25 : u 25 = .bool true := hd 25 (by decide) (by kernel_rfl)
   exact Or.inr ⟨e25, rfl, fun _ h => h⟩
  refine And.intro (fun u W A hW hBW hd hv hr => ?_) ?_
  ·have e25 : u 25 = .bool true := hd 25 (by decide) (by kernel_rfl)
   have e26 : u 26 = undef := hd 26 (by decide) (by kernel_rfl)
   exact Or.inr ⟨e25, rfl, fun _ h => h⟩
  refine And.intro (fun u W A hW hBW hd hv hr => ?_) ?_
  ·have e25 : u 25 = .bool true := hd 25 (by decide) (by kernel_rfl)
   exact Or.inr ⟨e25, rfl, fun _ h => h⟩
  refine And.intro (fun u W A hW hBW hd hv hr => ?_) ?_
  ·have e25 : u 25 = .bool true := hd 25 (by decide) (by kernel_rfl)
   have e28 : u 28 = undef := hd 28 (by decide) (by kernel_rfl)
   exact Or.inr ⟨e25, rfl, fun _ h => h⟩
  refine And.intro (fun u W A hW hBW hd hv hr => ?_) ?_
  ·have e25 : u 25 = .bool true := hd 25 (by decide) (by kernel_rfl)
   have e27 : u 27 = undef := hd 27 (by decide) (by kernel_rfl)
   have e29 : u 29 = undef := hd 29 (by decide) (by kernel_rfl)
   exact Or.inr ⟨e25, rfl, fun _ h => h⟩
  refine And.intro (fun u W A hW hBW hd hv hr => ?_) ?_
  ·have e25 : u 25 = .bool true := hd 25 (by decide) (by kernel_rfl)
   have e30 : u 30 = undef := hd 30 (by decide) (by kernel_rfl)
   have t40 : A.eval (.tmp 40) = .bool true := (hv 40 (by kernel_rfl)).trans ((by kernel_rfl : slotV _ _ _ u 40 = u 25).trans e25)
   have t45 : A.eval (.tmp 45) = undef := (hv 45 (by kernel_rfl)).trans ((by kernel_rfl : slotV _ _ _ u 45 = u 30).trans e30)
   clear hd hv
   have s40 := evalT t40
   have s45 := evalT t45
   clear t40 t45
   refine fk_run ?_
   go_simp
  exact trivial
 intro u w2 hb2 hk2 hf2
 have e31 : u 31 = .bool true := hf2 31 (by decide) (by decide)
 have H2 := Lib.hid (HB1.out.trans ((below_undrew hb2).mono HB1.out.size))
 clear hf2 hb2 hk2
 simp only [List.take, List.drop, wpList, lexPut, Nat.zero_add, Nat.reduceAdd, e31, Act.put, List.setIfInBounds_toArray, List.set_cons_succ, List.set_cons_zero]
 clear e31
 go_wp2
 go_ret
 exact ⟨rfl, H2.out⟩
set_option maxRecDepth 100000 in
set_option maxHeartbeats 2000000 in
theorem ver_no4 (pub m : ByteArray) (idx : Int) (vs vp : Value) (sig path : List ByteArray) (w : World) (hpub : pub.size ≤ 1099511627776) (hm : m.size ≤ 1099511627776) (hs : IsStrC w vs sig) (hp : IsStrC w vp path) (hss : ∀ s ∈ sig, s.size ≤ 1099511627776) (hps : ∀ s ∈ path, s.size ≤ 1099511627776) (hT : Tabs w) (hA : sig.length = 18) (hB : path.length ≤ 8) (hC : sig.all isS = true) (hD : path.all isS = false) :
  Calls Tryz.prog 78 #[.string pub, .string m, .agg #[.int .i64 idx, vs, vp]] w fun e w' => e = .returned (.bool (false)) ∧ Below w.heap.size w w' := by
 have HT := Lib.hid hT
 have HSS := Lib.hid hss
 have HSP := Lib.hid hps
 obtain ⟨aos, cs, rfl⟩ := strc_form hs
 obtain ⟨aop, cp, rfl⟩ := strc_form hp
 have HSG := Lib.hid hs
 have HPT := Lib.hid hp
 clear hT hss hps hs hp
 rw [hA] at HSG
 rw [hA]
 have HLS := Lib.hid hA
 clear hA
 have hpm : path.length ≤ 9223372036854775807 := by obtain ⟨ao, c, e, h1, h2, _⟩ := HPT.out; have : c ≤ 9223372036854775807 := h2; omega
 obtain ⟨lp, hlp⟩ : ∃ lp, lp = path.length := ⟨_, rfl⟩
 rw [← hlp] at hpm hB
 rw [← hlp] at HPT
 rw [← hlp]
 have HLP := Lib.hid hlp
 clear hlp
 have hdB : decide ((8 : Int) < (lp : Int)) = false := decide_eq_false (by omega)
 have HC : Hid ((!(sig.all isS)) = false) := Lib.hid (by rw [hC]; rfl)
 clear hC
 have HD : Hid ((!(path.all isS)) = true) := Lib.hid (by rw [hD]; rfl)
 clear hD
 obtain ⟨hbx, hB1, hz⟩ := box_one w #[.int .i64 idx, .slice aos 18 cs, .slice aop lp cp] 25
 have C0 : Hid ((w.alloc (.cells #[.int .i64 idx, .slice aos 18 cs, .slice aop lp cp] 25)).cell? ⟨w.heap.size, 0, none⟩ = some (.int .i64 idx)) := Lib.hid (by rw [cell_of_row _ _ 0 _ _ _ hbx]; rfl)
 have C1 : Hid ((w.alloc (.cells #[.int .i64 idx, .slice aos 18 cs, .slice aop lp cp] 25)).cell? ⟨w.heap.size, 1, none⟩ = some (.slice aos 18 cs)) := Lib.hid (by rw [cell_of_row _ _ 1 _ _ _ hbx]; rfl)
 have C2 : Hid ((w.alloc (.cells #[.int .i64 idx, .slice aos 18 cs, .slice aop lp cp] 25)).cell? ⟨w.heap.size, 2, none⟩ = some (.slice aop lp cp)) := Lib.hid (by rw [cell_of_row _ _ 2 _ _ _ hbx]; rfl)
 have HB1 := Lib.hid hB1
 have HSG1 := Lib.hid (HSG.out.on hB1)
 have HPT1 := Lib.hid (HPT.out.on hB1)
 have hz1 : w.heap.size < (w.alloc (.cells #[.int .i64 idx, .slice aos 18 cs, .slice aop lp cp] 25)).heap.size := by omega
 clear hbx hB1 hz
 go_enter Tryz.func78, Tryz.ntmps78
 go_wp2_with fail
 generalize hgw : w.alloc (.cells #[.int .i64 idx, .slice aos 18 cs, .slice aop lp cp] 25) = w1 at *
 clear hgw
 refine wp_region_res 32 (w1.heap.size) (fun ii u => [valF (.pointer (some ⟨w.heap.size, 1, none⟩)), valF (.slice aos 18 cs), valF (.int .i64 18), valF (.bool false), valF (.bool false), valF (.int .i64 (lp : Int)), valF (.bool false), valF (.bool false), valF (.bool false), valF (.func (.func 105) #[] #[]), valF (.pointer (some ⟨w.heap.size, 1, none⟩)), valF (.slice aos 18 cs), valF (.bool false), valF (.bool false), valF (.bool false), valF (.func (.func 105) #[] #[]), valF (.pointer (some ⟨w.heap.size, 2, none⟩)), valF (.slice aop lp cp), valF (.bool true), valF (.bool true), valF (.bool true), valF undef, valF undef, valF undef, valF (.bool true), valF (.bool true), valF undef, valF undef, valF undef, valF undef, valF undef, valF (.bool true)].getD ii anyF) (fun jj ii => false) (fun jj bb => False) (by kernel_rfl) (by kernel_rfl) (by kernel_rfl) (by kernel_rfl) (by kernel_rfl) (Nat.le_refl _) ?_ ?_ ?_ ?_ ?_
 ·intro ii u hii
  refine AllKStable.at ?_ ii
  exact ⟨.inl (valF_stable _ _), .inl (valF_stable _ _), .inl (valF_stable _ _), .inl (valF_stable _ _), .inl (valF_stable _ _), .inl (valF_stable _ _), .inl (valF_stable _ _), .inl (valF_stable _ _), .inl (valF_stable _ _), .inl (valF_stable _ _), .inl (valF_stable _ _), .inl (valF_stable _ _), .inl (valF_stable _ _), .inl (valF_stable _ _), .inl (valF_stable _ _), .inl (valF_stable _ _), .inl (valF_stable _ _), .inl (valF_stable _ _), .inl (valF_stable _ _), .inl (valF_stable _ _), .inl (valF_stable _ _), .inl (valF_stable _ _), .inl (valF_stable _ _), .inl (valF_stable _ _), .inl (valF_stable _ _), .inl (valF_stable _ _), .inl (valF_stable _ _), .inl (valF_stable _ _), .inl (valF_stable _ _), .inl (valF_stable _ _), .inl (valF_stable _ _), .inl (valF_stable _ _), trivial⟩
 ·exact fun _ _ _ _ _ => rfl
 ·exact ⟨fun _ _ _ h => h.elim, fun _ _ _ _ _ h => h.elim⟩
 ·refine And.intro (fun u W A hW hBW hd hv hr => ?_) ?_
  ·have t5 : A.eval (.tmp 5) = .pointer (some ⟨w.heap.size, 0, none⟩) := (hv 5 (by kernel_rfl)).trans (by kernel_rfl)
   clear hd hv
   have s5 := evalT t5
   clear t5
   refine fk_run ?_
   go_simp
  refine And.intro (fun u W A hW hBW hd hv hr => ?_) ?_
  ·have e0 : u 0 = .pointer (some ⟨w.heap.size, 1, none⟩) := hd 0 (by decide) (by kernel_rfl)
   have t15 : A.eval (.tmp 15) = .pointer (some ⟨w.heap.size, 1, none⟩) := (hv 15 (by kernel_rfl)).trans ((by kernel_rfl : slotV _ _ _ u 15 = u 0).trans e0)
   have hW1 := below_undrew hW
   have hcl : W.cell? ⟨w.heap.size, 1, none⟩ = some (.slice aos 18 cs) := by rw [hW1.cell (p := ⟨w.heap.size, 1, none⟩) (by show w.heap.size < w1.heap.size; omega)]; exact C1.out
   clear hd hv
   have s15 := evalT t15
   clear t15
   refine fk_run ?_
   go_simp
  refine And.intro (fun u W A hW hBW hd hv hr => ?_) ?_
  ·have e1 : u 1 = .slice aos 18 cs := hd 1 (by decide) (by kernel_rfl)
   have t16 : A.eval (.tmp 16) = .slice aos 18 cs := (hv 16 (by kernel_rfl)).trans ((by kernel_rfl : slotV _ _ _ u 16 = u 1).trans e1)
   clear hd hv
   have s16 := evalT t16
   clear t16
   refine fk_run ?_
   go_simp
  refine And.intro (fun u W A hW hBW hd hv hr => ?_) ?_
  ·have e2 : u 2 = .int .i64 18 := hd 2 (by decide) (by kernel_rfl)
   have t17 : A.eval (.tmp 17) = .int .i64 18 := (hv 17 (by kernel_rfl)).trans ((by kernel_rfl : slotV _ _ _ u 17 = u 2).trans e2)
   clear hd hv
   have s17 := evalT t17
   clear t17
   refine fk_run ?_
   go_simp
  refine And.intro (fun u W A hW hBW hd hv hr => ?_) ?_
  ·have e3 : u 3 = .bool false := hd 3 (by decide) (by kernel_rfl)
   have t18 : A.eval (.tmp 18) = .bool false := (hv 18 (by kernel_rfl)).trans ((by kernel_rfl : slotV _ _ _ u 18 = u 3).trans e3)
   clear hd hv
   have s18 := evalT t18
   clear t18
   refine fk_run ?_
   go_simp
  refine And.intro (fun u W A hW hBW hd hv hr => ?_) ?_
  ·have e4 : u 4 = .bool false := hd 4 (by decide) (by kernel_rfl)
   have t7 : A.eval (.tmp 7) = .int .i64 (lp : Int) := (hv 7 (by kernel_rfl)).trans (by kernel_rfl)
   clear hd hv
   have s7 := evalT t7
   clear t7
   refine Or.inl ⟨e4, ?_⟩
   refine fk_run ?_
   go_simp
  refine And.intro (fun u W A hW hBW hd hv hr => ?_) ?_
  ·have e4 : u 4 = .bool false := hd 4 (by decide) (by kernel_rfl)
   have e5 : u 5 = .int .i64 (lp : Int) := hd 5 (by decide) (by kernel_rfl)
   have t20 : A.eval (.tmp 20) = .int .i64 (lp : Int) := (hv 20 (by kernel_rfl)).trans ((by kernel_rfl : slotV _ _ _ u 20 = u 5).trans e5)
   clear hd hv
   have s20 := evalT t20
   clear t20
   refine Or.inl ⟨e4, ?_⟩
   refine fk_run ?_
   go_simp
  refine And.intro (fun u W A hW hBW hd hv hr => ?_) ?_
  ·have e4 : u 4 = .bool false := hd 4 (by decide) (by kernel_rfl)
   have e6 : u 6 = .bool false := hd 6 (by decide) (by kernel_rfl)
   have t19 : A.eval (.tmp 19) = .bool false := (hv 19 (by kernel_rfl)).trans ((by kernel_rfl : slotV _ _ _ u 19 = u 4).trans e4)
   have t21 : A.eval (.tmp 21) = .bool false := (hv 21 (by kernel_rfl)).trans ((by kernel_rfl : slotV _ _ _ u 21 = u 6).trans e6)
   clear hd hv
   have s19 := evalT t19
   have s21 := evalT t21
   clear t19 t21
   refine fk_run ?_
   go_simp
  refine And.intro (fun u W A hW hBW hd hv hr => ?_) ?_
  ·have e7 : u 7 = .bool false := hd 7 (by decide) (by kernel_rfl)
   have t22 : A.eval (.tmp 22) = .bool false := (hv 22 (by kernel_rfl)).trans ((by kernel_rfl : slotV _ _ _ u 22 = u 7).trans e7)
   clear hd hv
   have s22 := evalT t22
   clear t22
   refine fk_run ?_
   go_simp
  refine And.intro (fun u W A hW hBW hd hv hr => ?_) ?_
  ·have e8 : u 8 = .bool false := hd 8 (by decide) (by kernel_rfl)
   have t8 : A.eval (.tmp 8) = .func (.func 105) #[] #[] := (hv 8 (by kernel_rfl)).trans (by kernel_rfl)
   clear hd hv
   have s8 := evalT t8
   clear t8
   refine Or.inl ⟨e8, ?_⟩
   refine fk_run ?_
   go_simp
  refine And.intro (fun u W A hW hBW hd hv hr => ?_) ?_
  ·have e8 : u 8 = .bool false := hd 8 (by decide) (by kernel_rfl)
   have t5 : A.eval (.tmp 5) = .pointer (some ⟨w.heap.size, 0, none⟩) := (hv 5 (by kernel_rfl)).trans (by kernel_rfl)
   clear hd hv
   have s5 := evalT t5
   clear t5
   refine Or.inl ⟨e8, ?_⟩
   refine fk_run ?_
   go_simp
  refine And.intro (fun u W A hW hBW hd hv hr => ?_) ?_
  ·have e8 : u 8 = .bool false := hd 8 (by decide) (by kernel_rfl)
   have e10 : u 10 = .pointer (some ⟨w.heap.size, 1, none⟩) := hd 10 (by decide) (by kernel_rfl)
   have t25 : A.eval (.tmp 25) = .pointer (some ⟨w.heap.size, 1, none⟩) := (hv 25 (by kernel_rfl)).trans ((by kernel_rfl : slotV _ _ _ u 25 = u 10).trans e10)
   have hW1 := below_undrew hW
   have hcl : W.cell? ⟨w.heap.size, 1, none⟩ = some (.slice aos 18 cs) := by rw [hW1.cell (p := ⟨w.heap.size, 1, none⟩) (by show w.heap.size < w1.heap.size; omega)]; exact C1.out
   clear hd hv
   have s25 := evalT t25
   clear t25
   refine Or.inl ⟨e8, ?_⟩
   refine fk_run ?_
   go_simp
  refine And.intro (fun u W A hW hBW hd hv hr => ?_) ?_
  ·have e8 : u 8 = .bool false := hd 8 (by decide) (by kernel_rfl)
   have e9 : u 9 = .func (.func 105) #[] #[] := hd 9 (by decide) (by kernel_rfl)
   have e11 : u 11 = .slice aos 18 cs := hd 11 (by decide) (by kernel_rfl)
   have t24 : A.eval (.tmp 24) = .func (.func 105) #[] #[] := (hv 24 (by kernel_rfl)).trans ((by kernel_rfl : slotV _ _ _ u 24 = u 9).trans e9)
   have t26 : A.eval (.tmp 26) = .slice aos 18 cs := (hv 26 (by kernel_rfl)).trans ((by kernel_rfl : slotV _ _ _ u 26 = u 11).trans e11)
   have hW1 := below_undrew hW
   clear hd hv
   have s24 := evalT t24
   have s26 := evalT t26
   clear t24 t26
   refine Or.inl ⟨e8, ?_⟩
   refine fk_enter (f := 105) (args := #[.slice aos 18 cs]) (by go_simp) (fk_val ?_)
   have hod := sodd_calls _ sig W (HSG1.out.on hW1) HSS.out
   rw [HC.out] at hod
   exact hod
  refine And.intro (fun u W A hW hBW hd hv hr => ?_) ?_
  ·have e8 : u 8 = .bool false := hd 8 (by decide) (by kernel_rfl)
   have e12 : u 12 = .bool false := hd 12 (by decide) (by kernel_rfl)
   have t23 : A.eval (.tmp 23) = .bool false := (hv 23 (by kernel_rfl)).trans ((by kernel_rfl : slotV _ _ _ u 23 = u 8).trans e8)
   have t27 : A.eval (.tmp 27) = .bool false := (hv 27 (by kernel_rfl)).trans ((by kernel_rfl : slotV _ _ _ u 27 = u 12).trans e12)
   clear hd hv
   have s23 := evalT t23
   have s27 := evalT t27
   clear t23 t27
   refine fk_run ?_
   go_simp
  refine And.intro (fun u W A hW hBW hd hv hr => ?_) ?_
  ·have e13 : u 13 = .bool false := hd 13 (by decide) (by kernel_rfl)
   have t28 : A.eval (.tmp 28) = .bool false := (hv 28 (by kernel_rfl)).trans ((by kernel_rfl : slotV _ _ _ u 28 = u 13).trans e13)
   clear hd hv
   have s28 := evalT t28
   clear t28
   refine fk_run ?_
   go_simp
  refine And.intro (fun u W A hW hBW hd hv hr => ?_) ?_
  ·have e14 : u 14 = .bool false := hd 14 (by decide) (by kernel_rfl)
   have t8 : A.eval (.tmp 8) = .func (.func 105) #[] #[] := (hv 8 (by kernel_rfl)).trans (by kernel_rfl)
   clear hd hv
   have s8 := evalT t8
   clear t8
   refine Or.inl ⟨e14, ?_⟩
   refine fk_run ?_
   go_simp
  refine And.intro (fun u W A hW hBW hd hv hr => ?_) ?_
  ·have e14 : u 14 = .bool false := hd 14 (by decide) (by kernel_rfl)
   have t5 : A.eval (.tmp 5) = .pointer (some ⟨w.heap.size, 0, none⟩) := (hv 5 (by kernel_rfl)).trans (by kernel_rfl)
   clear hd hv
   have s5 := evalT t5
   clear t5
   refine Or.inl ⟨e14, ?_⟩
   refine fk_run ?_
   go_simp
  refine And.intro (fun u W A hW hBW hd hv hr => ?_) ?_
  ·have e14 : u 14 = .bool false := hd 14 (by decide) (by kernel_rfl)
   have e16 : u 16 = .pointer (some ⟨w.heap.size, 2, none⟩) := hd 16 (by decide) (by kernel_rfl)
   have t31 : A.eval (.tmp 31) = .pointer (some ⟨w.heap.size, 2, none⟩) := (hv 31 (by kernel_rfl)).trans ((by kernel_rfl : slotV _ _ _ u 31 = u 16).trans e16)
   have hW1 := below_undrew hW
   have hcl : W.cell? ⟨w.heap.size, 2, none⟩ = some (.slice aop lp cp) := by rw [hW1.cell (p := ⟨w.heap.size, 2, none⟩) (by show w.heap.size < w1.heap.size; omega)]; exact C2.out
   clear hd hv
   have s31 := evalT t31
   clear t31
   refine Or.inl ⟨e14, ?_⟩
   refine fk_run ?_
   go_simp
  refine And.intro (fun u W A hW hBW hd hv hr => ?_) ?_
  ·have e14 : u 14 = .bool false := hd 14 (by decide) (by kernel_rfl)
   have e15 : u 15 = .func (.func 105) #[] #[] := hd 15 (by decide) (by kernel_rfl)
   have e17 : u 17 = .slice aop lp cp := hd 17 (by decide) (by kernel_rfl)
   have t30 : A.eval (.tmp 30) = .func (.func 105) #[] #[] := (hv 30 (by kernel_rfl)).trans ((by kernel_rfl : slotV _ _ _ u 30 = u 15).trans e15)
   have t32 : A.eval (.tmp 32) = .slice aop lp cp := (hv 32 (by kernel_rfl)).trans ((by kernel_rfl : slotV _ _ _ u 32 = u 17).trans e17)
   have hW1 := below_undrew hW
   clear hd hv
   have s30 := evalT t30
   have s32 := evalT t32
   clear t30 t32
   refine Or.inl ⟨e14, ?_⟩
   refine fk_enter (f := 105) (args := #[.slice aop lp cp]) (by go_simp) (fk_val ?_)
   have hod := sodd_calls _ path W (HPT1.out.on hW1) HSP.out
   rw [HD.out] at hod
   exact hod
  refine And.intro (fun u W A hW hBW hd hv hr => ?_) ?_
  ·have e14 : u 14 = .bool false := hd 14 (by decide) (by kernel_rfl)
   have e18 : u 18 = .bool true := hd 18 (by decide) (by kernel_rfl)
   have t29 : A.eval (.tmp 29) = .bool false := (hv 29 (by kernel_rfl)).trans ((by kernel_rfl : slotV _ _ _ u 29 = u 14).trans e14)
   have t33 : A.eval (.tmp 33) = .bool true := (hv 33 (by kernel_rfl)).trans ((by kernel_rfl : slotV _ _ _ u 33 = u 18).trans e18)
   clear hd hv
   have s29 := evalT t29
   have s33 := evalT t33
   clear t29 t33
   refine fk_run ?_
   go_simp
  refine And.intro (fun u W A hW hBW hd hv hr => ?_) ?_
  ·have e19 : u 19 = .bool true := hd 19 (by decide) (by kernel_rfl)
   have t34 : A.eval (.tmp 34) = .bool true := (hv 34 (by kernel_rfl)).trans ((by kernel_rfl : slotV _ _ _ u 34 = u 19).trans e19)
   clear hd hv
   have s34 := evalT t34
   clear t34
   refine fk_run ?_
   go_simp
  refine And.intro (fun u W A hW hBW hd hv hr => ?_) ?_
  ·have e20 : u 20 = .bool true := hd 20 (by decide) (by kernel_rfl)
   exact Or.inr ⟨e20, rfl, fun _ h => h⟩
  refine And.intro (fun u W A hW hBW hd hv hr => ?_) ?_
  ·have e20 : u 20 = .bool true := hd 20 (by decide) (by kernel_rfl)
   have e21 : u 21 = undef := hd 21 (by decide) (by kernel_rfl)
   exact Or.inr ⟨e20, rfl, fun _ h => h⟩
  refine And.intro (fun u W A hW hBW hd hv hr => ?_) ?_
  ·have e20 : u 20 = .bool true := hd 20 (by decide) (by kernel_rfl)
   have e22 : u 22 = undef := hd 22 (by decide) (by kernel_rfl)
   exact Or.inr ⟨e20, rfl, fun _ h => h⟩
  refine And.intro (fun u W A hW hBW hd hv hr => ?_) ?_
  ·have e20 : u 20 = .bool true := hd 20 (by decide) (by kernel_rfl)
   have e23 : u 23 = undef := hd 23 (by decide) (by kernel_rfl)
   have t35 : A.eval (.tmp 35) = .bool true := (hv 35 (by kernel_rfl)).trans ((by kernel_rfl : slotV _ _ _ u 35 = u 20).trans e20)
   have t38 : A.eval (.tmp 38) = undef := (hv 38 (by kernel_rfl)).trans ((by kernel_rfl : slotV _ _ _ u 38 = u 23).trans e23)
   clear hd hv
   have s35 := evalT t35
   have s38 := evalT t38
   clear t35 t38
   refine fk_run ?_
   go_simp
  refine And.intro (fun u W A hW hBW hd hv hr => ?_) ?_
  ·have e24 : u 24 = .bool true := hd 24 (by decide) (by kernel_rfl)
   have t39 : A.eval (.tmp 39) = .bool true := (hv 39 (by kernel_rfl)).trans ((by kernel_rfl : slotV _ _ _ u 39 = u 24).trans e24)
   clear hd hv
   have s39 := evalT t39
   clear t39
   refine fk_run ?_
   go_simp
  refine And.intro (fun u W A hW hBW hd hv hr => ?_) ?_
  ·have e25 : u 25 = .bool true := hd 25 (by decide) (by kernel_rfl)
   exact Or.inr ⟨e25, rfl, fun _ h => h⟩
  refine And.intro (fun u W A hW hBW hd hv hr => ?_) ?_
  ·have e25 : u 25 = .bool true := hd 25 (by decide) (by kernel_rfl)
   have e26 : u 26 = undef := hd 26 (by decide) (by kernel_rfl)
   exact Or.inr ⟨e25, rfl, fun _ h => h⟩
  refine And.intro (fun u W A hW hBW hd hv hr => ?_) ?_
  ·have e25 : u 25 = .bool true := hd 25 (by decide) (by kernel_rfl)
   exact Or.inr ⟨e25, rfl, fun _ h => h⟩
  refine And.intro (fun u W A hW hBW hd hv hr => ?_) ?_
  ·have e25 : u 25 = .bool true := hd 25 (by decide) (by kernel_rfl)
   have e28 : u 28 = undef := hd 28 (by decide) (by kernel_rfl)
   exact Or.inr ⟨e25, rfl, fun _ h => h⟩
  refine And.intro (fun u W A hW hBW hd hv hr => ?_) ?_
  ·have e25 : u 25 = .bool true := hd 25 (by decide) (by kernel_rfl)
   have e27 : u 27 = undef := hd 27 (by decide) (by kernel_rfl)
   have e29 : u 29 = undef := hd 29 (by decide) (by kernel_rfl)
   exact Or.inr ⟨e25, rfl, fun _ h => h⟩
  refine And.intro (fun u W A hW hBW hd hv hr => ?_) ?_
  ·have e25 : u 25 = .bool true := hd 25 (by decide) (by kernel_rfl)
   have e30 : u 30 = undef := hd 30 (by decide) (by kernel_rfl)
   have t40 : A.eval (.tmp 40) = .bool true := (hv 40 (by kernel_rfl)).trans ((by kernel_rfl : slotV _ _ _ u 40 = u 25).trans e25)
   have t45 : A.eval (.tmp 45) = undef := (hv 45 (by kernel_rfl)).trans ((by kernel_rfl : slotV _ _ _ u 45 = u 30).trans e30)
   clear hd hv
   have s40 := evalT t40
   have s45 := evalT t45
   clear t40 t45
   refine fk_run ?_
   go_simp
  exact trivial
 intro u w2 hb2 hk2 hf2
 have e31 : u 31 = .bool true := hf2 31 (by decide) (by decide)
 have H2 := Lib.hid (HB1.out.trans ((below_undrew hb2).mono HB1.out.size))
 clear hf2 hb2 hk2
 simp only [List.take, List.drop, wpList, lexPut, Nat.zero_add, Nat.reduceAdd, e31, Act.put, List.setIfInBounds_toArray, List.set_cons_succ, List.set_cons_zero]
 clear e31
 go_wp2
 go_ret
 exact ⟨rfl, H2.out⟩
set_option maxRecDepth 100000 in
set_option maxHeartbeats 2000000 in
theorem ver_no5 (pub m : ByteArray) (idx : Int) (vs vp : Value) (sig path : List ByteArray) (w : World) (hpub : pub.size ≤ 1099511627776) (hm : m.size ≤ 1099511627776) (hs : IsStrC w vs sig) (hp : IsStrC w vp path) (hss : ∀ s ∈ sig, s.size ≤ 1099511627776) (hps : ∀ s ∈ path, s.size ≤ 1099511627776) (hT : Tabs w) (hA : sig.length = 18) (hB : path.length ≤ 8) (hC : sig.all isS = true) (hD : path.all isS = true) (hE : idx < 0) :
  Calls Tryz.prog 78 #[.string pub, .string m, .agg #[.int .i64 idx, vs, vp]] w fun e w' => e = .returned (.bool (false)) ∧ Below w.heap.size w w' := by
 have HT := Lib.hid hT
 have HSS := Lib.hid hss
 have HSP := Lib.hid hps
 obtain ⟨aos, cs, rfl⟩ := strc_form hs
 obtain ⟨aop, cp, rfl⟩ := strc_form hp
 have HSG := Lib.hid hs
 have HPT := Lib.hid hp
 clear hT hss hps hs hp
 rw [hA] at HSG
 rw [hA]
 have HLS := Lib.hid hA
 clear hA
 have hpm : path.length ≤ 9223372036854775807 := by obtain ⟨ao, c, e, h1, h2, _⟩ := HPT.out; have : c ≤ 9223372036854775807 := h2; omega
 obtain ⟨lp, hlp⟩ : ∃ lp, lp = path.length := ⟨_, rfl⟩
 rw [← hlp] at hpm hB
 rw [← hlp] at HPT
 rw [← hlp]
 have HLP := Lib.hid hlp
 clear hlp
 have hdB : decide ((8 : Int) < (lp : Int)) = false := decide_eq_false (by omega)
 have HC : Hid ((!(sig.all isS)) = false) := Lib.hid (by rw [hC]; rfl)
 clear hC
 have HD : Hid ((!(path.all isS)) = false) := Lib.hid (by rw [hD]; rfl)
 clear hD
 have hdE : decide (idx < 0) = true := decide_eq_true hE
 clear hE
 obtain ⟨hbx, hB1, hz⟩ := box_one w #[.int .i64 idx, .slice aos 18 cs, .slice aop lp cp] 25
 have C0 : Hid ((w.alloc (.cells #[.int .i64 idx, .slice aos 18 cs, .slice aop lp cp] 25)).cell? ⟨w.heap.size, 0, none⟩ = some (.int .i64 idx)) := Lib.hid (by rw [cell_of_row _ _ 0 _ _ _ hbx]; rfl)
 have C1 : Hid ((w.alloc (.cells #[.int .i64 idx, .slice aos 18 cs, .slice aop lp cp] 25)).cell? ⟨w.heap.size, 1, none⟩ = some (.slice aos 18 cs)) := Lib.hid (by rw [cell_of_row _ _ 1 _ _ _ hbx]; rfl)
 have C2 : Hid ((w.alloc (.cells #[.int .i64 idx, .slice aos 18 cs, .slice aop lp cp] 25)).cell? ⟨w.heap.size, 2, none⟩ = some (.slice aop lp cp)) := Lib.hid (by rw [cell_of_row _ _ 2 _ _ _ hbx]; rfl)
 have HB1 := Lib.hid hB1
 have HSG1 := Lib.hid (HSG.out.on hB1)
 have HPT1 := Lib.hid (HPT.out.on hB1)
 have hz1 : w.heap.size < (w.alloc (.cells #[.int .i64 idx, .slice aos 18 cs, .slice aop lp cp] 25)).heap.size := by omega
 clear hbx hB1 hz
 go_enter Tryz.func78, Tryz.ntmps78
 go_wp2_with fail
 generalize hgw : w.alloc (.cells #[.int .i64 idx, .slice aos 18 cs, .slice aop lp cp] 25) = w1 at *
 clear hgw
 refine wp_region_res 32 (w1.heap.size) (fun ii u => [valF (.pointer (some ⟨w.heap.size, 1, none⟩)), valF (.slice aos 18 cs), valF (.int .i64 18), valF (.bool false), valF (.bool false), valF (.int .i64 (lp : Int)), valF (.bool false), valF (.bool false), valF (.bool false), valF (.func (.func 105) #[] #[]), valF (.pointer (some ⟨w.heap.size, 1, none⟩)), valF (.slice aos 18 cs), valF (.bool false), valF (.bool false), valF (.bool false), valF (.func (.func 105) #[] #[]), valF (.pointer (some ⟨w.heap.size, 2, none⟩)), valF (.slice aop lp cp), valF (.bool false), valF (.bool false), valF (.bool false), valF (.pointer (some ⟨w.heap.size, 0, none⟩)), valF (.int .i64 idx), valF (.bool true), valF (.bool true), valF (.bool true), valF undef, valF undef, valF undef, valF undef, valF undef, valF (.bool true)].getD ii anyF) (fun jj ii => false) (fun jj bb => False) (by kernel_rfl) (by kernel_rfl) (by kernel_rfl) (by kernel_rfl) (by kernel_rfl) (Nat.le_refl _) ?_ ?_ ?_ ?_ ?_
 ·intro ii u hii
  refine AllKStable.at ?_ ii
  exact ⟨.inl (valF_stable _ _), .inl (valF_stable _ _), .inl (valF_stable _ _), .inl (valF_stable _ _), .inl (valF_stable _ _), .inl (valF_stable _ _), .inl (valF_stable _ _), .inl (valF_stable _ _), .inl (valF_stable _ _), .inl (valF_stable _ _), .inl (valF_stable _ _), .inl (valF_stable _ _), .inl (valF_stable _ _), .inl (valF_stable _ _), .inl (valF_stable _ _), .inl (valF_stable _ _), .inl (valF_stable _ _), .inl (valF_stable _ _), .inl (valF_stable _ _), .inl (valF_stable _ _), .inl (valF_stable _ _), .inl (valF_stable _ _), .inl (valF_stable _ _), .inl (valF_stable _ _), .inl (valF_stable _ _), .inl (valF_stable _ _), .inl (valF_stable _ _), .inl (valF_stable _ _), .inl (valF_stable _ _), .inl (valF_stable _ _), .inl (valF_stable _ _), .inl (valF_stable _ _), trivial⟩
 ·exact fun _ _ _ _ _ => rfl
 ·exact ⟨fun _ _ _ h => h.elim, fun _ _ _ _ _ h => h.elim⟩
 ·refine And.intro (fun u W A hW hBW hd hv hr => ?_) ?_
  ·have t5 : A.eval (.tmp 5) = .pointer (some ⟨w.heap.size, 0, none⟩) := (hv 5 (by kernel_rfl)).trans (by kernel_rfl)
   clear hd hv
   have s5 := evalT t5
   clear t5
   refine fk_run ?_
   go_simp
  refine And.intro (fun u W A hW hBW hd hv hr => ?_) ?_
  ·have e0 : u 0 = .pointer (some ⟨w.heap.size, 1, none⟩) := hd 0 (by decide) (by kernel_rfl)
   have t15 : A.eval (.tmp 15) = .pointer (some ⟨w.heap.size, 1, none⟩) := (hv 15 (by kernel_rfl)).trans ((by kernel_rfl : slotV _ _ _ u 15 = u 0).trans e0)
   have hW1 := below_undrew hW
   have hcl : W.cell? ⟨w.heap.size, 1, none⟩ = some (.slice aos 18 cs) := by rw [hW1.cell (p := ⟨w.heap.size, 1, none⟩) (by show w.heap.size < w1.heap.size; omega)]; exact C1.out
   clear hd hv
   have s15 := evalT t15
   clear t15
   refine fk_run ?_
   go_simp
  refine And.intro (fun u W A hW hBW hd hv hr => ?_) ?_
  ·have e1 : u 1 = .slice aos 18 cs := hd 1 (by decide) (by kernel_rfl)
   have t16 : A.eval (.tmp 16) = .slice aos 18 cs := (hv 16 (by kernel_rfl)).trans ((by kernel_rfl : slotV _ _ _ u 16 = u 1).trans e1)
   clear hd hv
   have s16 := evalT t16
   clear t16
   refine fk_run ?_
   go_simp
  refine And.intro (fun u W A hW hBW hd hv hr => ?_) ?_
  ·have e2 : u 2 = .int .i64 18 := hd 2 (by decide) (by kernel_rfl)
   have t17 : A.eval (.tmp 17) = .int .i64 18 := (hv 17 (by kernel_rfl)).trans ((by kernel_rfl : slotV _ _ _ u 17 = u 2).trans e2)
   clear hd hv
   have s17 := evalT t17
   clear t17
   refine fk_run ?_
   go_simp
  refine And.intro (fun u W A hW hBW hd hv hr => ?_) ?_
  ·have e3 : u 3 = .bool false := hd 3 (by decide) (by kernel_rfl)
   have t18 : A.eval (.tmp 18) = .bool false := (hv 18 (by kernel_rfl)).trans ((by kernel_rfl : slotV _ _ _ u 18 = u 3).trans e3)
   clear hd hv
   have s18 := evalT t18
   clear t18
   refine fk_run ?_
   go_simp
  refine And.intro (fun u W A hW hBW hd hv hr => ?_) ?_
  ·have e4 : u 4 = .bool false := hd 4 (by decide) (by kernel_rfl)
   have t7 : A.eval (.tmp 7) = .int .i64 (lp : Int) := (hv 7 (by kernel_rfl)).trans (by kernel_rfl)
   clear hd hv
   have s7 := evalT t7
   clear t7
   refine Or.inl ⟨e4, ?_⟩
   refine fk_run ?_
   go_simp
  refine And.intro (fun u W A hW hBW hd hv hr => ?_) ?_
  ·have e4 : u 4 = .bool false := hd 4 (by decide) (by kernel_rfl)
   have e5 : u 5 = .int .i64 (lp : Int) := hd 5 (by decide) (by kernel_rfl)
   have t20 : A.eval (.tmp 20) = .int .i64 (lp : Int) := (hv 20 (by kernel_rfl)).trans ((by kernel_rfl : slotV _ _ _ u 20 = u 5).trans e5)
   clear hd hv
   have s20 := evalT t20
   clear t20
   refine Or.inl ⟨e4, ?_⟩
   refine fk_run ?_
   go_simp
  refine And.intro (fun u W A hW hBW hd hv hr => ?_) ?_
  ·have e4 : u 4 = .bool false := hd 4 (by decide) (by kernel_rfl)
   have e6 : u 6 = .bool false := hd 6 (by decide) (by kernel_rfl)
   have t19 : A.eval (.tmp 19) = .bool false := (hv 19 (by kernel_rfl)).trans ((by kernel_rfl : slotV _ _ _ u 19 = u 4).trans e4)
   have t21 : A.eval (.tmp 21) = .bool false := (hv 21 (by kernel_rfl)).trans ((by kernel_rfl : slotV _ _ _ u 21 = u 6).trans e6)
   clear hd hv
   have s19 := evalT t19
   have s21 := evalT t21
   clear t19 t21
   refine fk_run ?_
   go_simp
  refine And.intro (fun u W A hW hBW hd hv hr => ?_) ?_
  ·have e7 : u 7 = .bool false := hd 7 (by decide) (by kernel_rfl)
   have t22 : A.eval (.tmp 22) = .bool false := (hv 22 (by kernel_rfl)).trans ((by kernel_rfl : slotV _ _ _ u 22 = u 7).trans e7)
   clear hd hv
   have s22 := evalT t22
   clear t22
   refine fk_run ?_
   go_simp
  refine And.intro (fun u W A hW hBW hd hv hr => ?_) ?_
  ·have e8 : u 8 = .bool false := hd 8 (by decide) (by kernel_rfl)
   have t8 : A.eval (.tmp 8) = .func (.func 105) #[] #[] := (hv 8 (by kernel_rfl)).trans (by kernel_rfl)
   clear hd hv
   have s8 := evalT t8
   clear t8
   refine Or.inl ⟨e8, ?_⟩
   refine fk_run ?_
   go_simp
  refine And.intro (fun u W A hW hBW hd hv hr => ?_) ?_
  ·have e8 : u 8 = .bool false := hd 8 (by decide) (by kernel_rfl)
   have t5 : A.eval (.tmp 5) = .pointer (some ⟨w.heap.size, 0, none⟩) := (hv 5 (by kernel_rfl)).trans (by kernel_rfl)
   clear hd hv
   have s5 := evalT t5
   clear t5
   refine Or.inl ⟨e8, ?_⟩
   refine fk_run ?_
   go_simp
  refine And.intro (fun u W A hW hBW hd hv hr => ?_) ?_
  ·have e8 : u 8 = .bool false := hd 8 (by decide) (by kernel_rfl)
   have e10 : u 10 = .pointer (some ⟨w.heap.size, 1, none⟩) := hd 10 (by decide) (by kernel_rfl)
   have t25 : A.eval (.tmp 25) = .pointer (some ⟨w.heap.size, 1, none⟩) := (hv 25 (by kernel_rfl)).trans ((by kernel_rfl : slotV _ _ _ u 25 = u 10).trans e10)
   have hW1 := below_undrew hW
   have hcl : W.cell? ⟨w.heap.size, 1, none⟩ = some (.slice aos 18 cs) := by rw [hW1.cell (p := ⟨w.heap.size, 1, none⟩) (by show w.heap.size < w1.heap.size; omega)]; exact C1.out
   clear hd hv
   have s25 := evalT t25
   clear t25
   refine Or.inl ⟨e8, ?_⟩
   refine fk_run ?_
   go_simp
  refine And.intro (fun u W A hW hBW hd hv hr => ?_) ?_
  ·have e8 : u 8 = .bool false := hd 8 (by decide) (by kernel_rfl)
   have e9 : u 9 = .func (.func 105) #[] #[] := hd 9 (by decide) (by kernel_rfl)
   have e11 : u 11 = .slice aos 18 cs := hd 11 (by decide) (by kernel_rfl)
   have t24 : A.eval (.tmp 24) = .func (.func 105) #[] #[] := (hv 24 (by kernel_rfl)).trans ((by kernel_rfl : slotV _ _ _ u 24 = u 9).trans e9)
   have t26 : A.eval (.tmp 26) = .slice aos 18 cs := (hv 26 (by kernel_rfl)).trans ((by kernel_rfl : slotV _ _ _ u 26 = u 11).trans e11)
   have hW1 := below_undrew hW
   clear hd hv
   have s24 := evalT t24
   have s26 := evalT t26
   clear t24 t26
   refine Or.inl ⟨e8, ?_⟩
   refine fk_enter (f := 105) (args := #[.slice aos 18 cs]) (by go_simp) (fk_val ?_)
   have hod := sodd_calls _ sig W (HSG1.out.on hW1) HSS.out
   rw [HC.out] at hod
   exact hod
  refine And.intro (fun u W A hW hBW hd hv hr => ?_) ?_
  ·have e8 : u 8 = .bool false := hd 8 (by decide) (by kernel_rfl)
   have e12 : u 12 = .bool false := hd 12 (by decide) (by kernel_rfl)
   have t23 : A.eval (.tmp 23) = .bool false := (hv 23 (by kernel_rfl)).trans ((by kernel_rfl : slotV _ _ _ u 23 = u 8).trans e8)
   have t27 : A.eval (.tmp 27) = .bool false := (hv 27 (by kernel_rfl)).trans ((by kernel_rfl : slotV _ _ _ u 27 = u 12).trans e12)
   clear hd hv
   have s23 := evalT t23
   have s27 := evalT t27
   clear t23 t27
   refine fk_run ?_
   go_simp
  refine And.intro (fun u W A hW hBW hd hv hr => ?_) ?_
  ·have e13 : u 13 = .bool false := hd 13 (by decide) (by kernel_rfl)
   have t28 : A.eval (.tmp 28) = .bool false := (hv 28 (by kernel_rfl)).trans ((by kernel_rfl : slotV _ _ _ u 28 = u 13).trans e13)
   clear hd hv
   have s28 := evalT t28
   clear t28
   refine fk_run ?_
   go_simp
  refine And.intro (fun u W A hW hBW hd hv hr => ?_) ?_
  ·have e14 : u 14 = .bool false := hd 14 (by decide) (by kernel_rfl)
   have t8 : A.eval (.tmp 8) = .func (.func 105) #[] #[] := (hv 8 (by kernel_rfl)).trans (by kernel_rfl)
   clear hd hv
   have s8 := evalT t8
   clear t8
   refine Or.inl ⟨e14, ?_⟩
   refine fk_run ?_
   go_simp
  refine And.intro (fun u W A hW hBW hd hv hr => ?_) ?_
  ·have e14 : u 14 = .bool false := hd 14 (by decide) (by kernel_rfl)
   have t5 : A.eval (.tmp 5) = .pointer (some ⟨w.heap.size, 0, none⟩) := (hv 5 (by kernel_rfl)).trans (by kernel_rfl)
   clear hd hv
   have s5 := evalT t5
   clear t5
   refine Or.inl ⟨e14, ?_⟩
   refine fk_run ?_
   go_simp
  refine And.intro (fun u W A hW hBW hd hv hr => ?_) ?_
  ·have e14 : u 14 = .bool false := hd 14 (by decide) (by kernel_rfl)
   have e16 : u 16 = .pointer (some ⟨w.heap.size, 2, none⟩) := hd 16 (by decide) (by kernel_rfl)
   have t31 : A.eval (.tmp 31) = .pointer (some ⟨w.heap.size, 2, none⟩) := (hv 31 (by kernel_rfl)).trans ((by kernel_rfl : slotV _ _ _ u 31 = u 16).trans e16)
   have hW1 := below_undrew hW
   have hcl : W.cell? ⟨w.heap.size, 2, none⟩ = some (.slice aop lp cp) := by rw [hW1.cell (p := ⟨w.heap.size, 2, none⟩) (by show w.heap.size < w1.heap.size; omega)]; exact C2.out
   clear hd hv
   have s31 := evalT t31
   clear t31
   refine Or.inl ⟨e14, ?_⟩
   refine fk_run ?_
   go_simp
  refine And.intro (fun u W A hW hBW hd hv hr => ?_) ?_
  ·have e14 : u 14 = .bool false := hd 14 (by decide) (by kernel_rfl)
   have e15 : u 15 = .func (.func 105) #[] #[] := hd 15 (by decide) (by kernel_rfl)
   have e17 : u 17 = .slice aop lp cp := hd 17 (by decide) (by kernel_rfl)
   have t30 : A.eval (.tmp 30) = .func (.func 105) #[] #[] := (hv 30 (by kernel_rfl)).trans ((by kernel_rfl : slotV _ _ _ u 30 = u 15).trans e15)
   have t32 : A.eval (.tmp 32) = .slice aop lp cp := (hv 32 (by kernel_rfl)).trans ((by kernel_rfl : slotV _ _ _ u 32 = u 17).trans e17)
   have hW1 := below_undrew hW
   clear hd hv
   have s30 := evalT t30
   have s32 := evalT t32
   clear t30 t32
   refine Or.inl ⟨e14, ?_⟩
   refine fk_enter (f := 105) (args := #[.slice aop lp cp]) (by go_simp) (fk_val ?_)
   have hod := sodd_calls _ path W (HPT1.out.on hW1) HSP.out
   rw [HD.out] at hod
   exact hod
  refine And.intro (fun u W A hW hBW hd hv hr => ?_) ?_
  ·have e14 : u 14 = .bool false := hd 14 (by decide) (by kernel_rfl)
   have e18 : u 18 = .bool false := hd 18 (by decide) (by kernel_rfl)
   have t29 : A.eval (.tmp 29) = .bool false := (hv 29 (by kernel_rfl)).trans ((by kernel_rfl : slotV _ _ _ u 29 = u 14).trans e14)
   have t33 : A.eval (.tmp 33) = .bool false := (hv 33 (by kernel_rfl)).trans ((by kernel_rfl : slotV _ _ _ u 33 = u 18).trans e18)
   clear hd hv
   have s29 := evalT t29
   have s33 := evalT t33
   clear t29 t33
   refine fk_run ?_
   go_simp
  refine And.intro (fun u W A hW hBW hd hv hr => ?_) ?_
  ·have e19 : u 19 = .bool false := hd 19 (by decide) (by kernel_rfl)
   have t34 : A.eval (.tmp 34) = .bool false := (hv 34 (by kernel_rfl)).trans ((by kernel_rfl : slotV _ _ _ u 34 = u 19).trans e19)
   clear hd hv
   have s34 := evalT t34
   clear t34
   refine fk_run ?_
   go_simp
  refine And.intro (fun u W A hW hBW hd hv hr => ?_) ?_
  ·have e20 : u 20 = .bool false := hd 20 (by decide) (by kernel_rfl)
   have t5 : A.eval (.tmp 5) = .pointer (some ⟨w.heap.size, 0, none⟩) := (hv 5 (by kernel_rfl)).trans (by kernel_rfl)
   clear hd hv
   have s5 := evalT t5
   clear t5
   refine Or.inl ⟨e20, ?_⟩
   refine fk_run ?_
   go_simp
  refine And.intro (fun u W A hW hBW hd hv hr => ?_) ?_
  ·have e20 : u 20 = .bool false := hd 20 (by decide) (by kernel_rfl)
   have e21 : u 21 = .pointer (some ⟨w.heap.size, 0, none⟩) := hd 21 (by decide) (by kernel_rfl)
   have t36 : A.eval (.tmp 36) = .pointer (some ⟨w.heap.size, 0, none⟩) := (hv 36 (by kernel_rfl)).trans ((by kernel_rfl : slotV _ _ _ u 36 = u 21).trans e21)
   have hW1 := below_undrew hW
   have hcl : W.cell? ⟨w.heap.size, 0, none⟩ = some (.int .i64 idx) := by rw [hW1.cell (p := ⟨w.heap.size, 0, none⟩) (by show w.heap.size < w1.heap.size; omega)]; exact C0.out
   clear hd hv
   have s36 := evalT t36
   clear t36
   refine Or.inl ⟨e20, ?_⟩
   refine fk_run ?_
   go_simp
  refine And.intro (fun u W A hW hBW hd hv hr => ?_) ?_
  ·have e20 : u 20 = .bool false := hd 20 (by decide) (by kernel_rfl)
   have e22 : u 22 = .int .i64 idx := hd 22 (by decide) (by kernel_rfl)
   have t37 : A.eval (.tmp 37) = .int .i64 idx := (hv 37 (by kernel_rfl)).trans ((by kernel_rfl : slotV _ _ _ u 37 = u 22).trans e22)
   clear hd hv
   have s37 := evalT t37
   clear t37
   refine Or.inl ⟨e20, ?_⟩
   refine fk_run ?_
   go_simp
  refine And.intro (fun u W A hW hBW hd hv hr => ?_) ?_
  ·have e20 : u 20 = .bool false := hd 20 (by decide) (by kernel_rfl)
   have e23 : u 23 = .bool true := hd 23 (by decide) (by kernel_rfl)
   have t35 : A.eval (.tmp 35) = .bool false := (hv 35 (by kernel_rfl)).trans ((by kernel_rfl : slotV _ _ _ u 35 = u 20).trans e20)
   have t38 : A.eval (.tmp 38) = .bool true := (hv 38 (by kernel_rfl)).trans ((by kernel_rfl : slotV _ _ _ u 38 = u 23).trans e23)
   clear hd hv
   have s35 := evalT t35
   have s38 := evalT t38
   clear t35 t38
   refine fk_run ?_
   go_simp
  refine And.intro (fun u W A hW hBW hd hv hr => ?_) ?_
  ·have e24 : u 24 = .bool true := hd 24 (by decide) (by kernel_rfl)
   have t39 : A.eval (.tmp 39) = .bool true := (hv 39 (by kernel_rfl)).trans ((by kernel_rfl : slotV _ _ _ u 39 = u 24).trans e24)
   clear hd hv
   have s39 := evalT t39
   clear t39
   refine fk_run ?_
   go_simp
  refine And.intro (fun u W A hW hBW hd hv hr => ?_) ?_
  ·have e25 : u 25 = .bool true := hd 25 (by decide) (by kernel_rfl)
   exact Or.inr ⟨e25, rfl, fun _ h => h⟩
  refine And.intro (fun u W A hW hBW hd hv hr => ?_) ?_
  ·have e25 : u 25 = .bool true := hd 25 (by decide) (by kernel_rfl)
   have e26 : u 26 = undef := hd 26 (by decide) (by kernel_rfl)
   exact Or.inr ⟨e25, rfl, fun _ h => h⟩
  refine And.intro (fun u W A hW hBW hd hv hr => ?_) ?_
  ·have e25 : u 25 = .bool true := hd 25 (by decide) (by kernel_rfl)
   exact Or.inr ⟨e25, rfl, fun _ h => h⟩
  refine And.intro (fun u W A hW hBW hd hv hr => ?_) ?_
  ·have e25 : u 25 = .bool true := hd 25 (by decide) (by kernel_rfl)
   have e28 : u 28 = undef := hd 28 (by decide) (by kernel_rfl)
   exact Or.inr ⟨e25, rfl, fun _ h => h⟩
  refine And.intro (fun u W A hW hBW hd hv hr => ?_) ?_
  ·have e25 : u 25 = .bool true := hd 25 (by decide) (by kernel_rfl)
   have e27 : u 27 = undef := hd 27 (by decide) (by kernel_rfl)
   have e29 : u 29 = undef := hd 29 (by decide) (by kernel_rfl)
   exact Or.inr ⟨e25, rfl, fun _ h => h⟩
  refine And.intro (fun u W A hW hBW hd hv hr => ?_) ?_
  ·have e25 : u 25 = .bool true := hd 25 (by decide) (by kernel_rfl)
   have e30 : u 30 = undef := hd 30 (by decide) (by kernel_rfl)
   have t40 : A.eval (.tmp 40) = .bool true := (hv 40 (by kernel_rfl)).trans ((by kernel_rfl : slotV _ _ _ u 40 = u 25).trans e25)
   have t45 : A.eval (.tmp 45) = undef := (hv 45 (by kernel_rfl)).trans ((by kernel_rfl : slotV _ _ _ u 45 = u 30).trans e30)
   clear hd hv
   have s40 := evalT t40
   have s45 := evalT t45
   clear t40 t45
   refine fk_run ?_
   go_simp
  exact trivial
 intro u w2 hb2 hk2 hf2
 have e31 : u 31 = .bool true := hf2 31 (by decide) (by decide)
 have H2 := Lib.hid (HB1.out.trans ((below_undrew hb2).mono HB1.out.size))
 clear hf2 hb2 hk2
 simp only [List.take, List.drop, wpList, lexPut, Nat.zero_add, Nat.reduceAdd, e31, Act.put, List.setIfInBounds_toArray, List.set_cons_succ, List.set_cons_zero]
 clear e31
 go_wp2
 go_ret
 exact ⟨rfl, H2.out⟩
set_option maxRecDepth 100000 in
set_option maxHeartbeats 2000000 in
theorem ver_no6 (pub m : ByteArray) (idx : Int) (vs vp : Value) (sig path : List ByteArray) (w : World) (hpub : pub.size ≤ 1099511627776) (hm : m.size ≤ 1099511627776) (hs : IsStrC w vs sig) (hp : IsStrC w vp path) (hss : ∀ s ∈ sig, s.size ≤ 1099511627776) (hps : ∀ s ∈ path, s.size ≤ 1099511627776) (hT : Tabs w) (hA : sig.length = 18) (hB : path.length ≤ 8) (hC : sig.all isS = true) (hD : path.all isS = true) (hE : ¬ idx < 0) (hF : ((2 ^ path.length : Nat) : Int) ≤ idx) :
  Calls Tryz.prog 78 #[.string pub, .string m, .agg #[.int .i64 idx, vs, vp]] w fun e w' => e = .returned (.bool (false)) ∧ Below w.heap.size w w' := by
 have HT := Lib.hid hT
 have HSS := Lib.hid hss
 have HSP := Lib.hid hps
 obtain ⟨aos, cs, rfl⟩ := strc_form hs
 obtain ⟨aop, cp, rfl⟩ := strc_form hp
 have HSG := Lib.hid hs
 have HPT := Lib.hid hp
 clear hT hss hps hs hp
 rw [hA] at HSG
 rw [hA]
 have HLS := Lib.hid hA
 clear hA
 have hpm : path.length ≤ 9223372036854775807 := by obtain ⟨ao, c, e, h1, h2, _⟩ := HPT.out; have : c ≤ 9223372036854775807 := h2; omega
 obtain ⟨lp, hlp⟩ : ∃ lp, lp = path.length := ⟨_, rfl⟩
 rw [← hlp] at hpm hB hF
 rw [← hlp] at HPT
 rw [← hlp]
 have HLP := Lib.hid hlp
 clear hlp
 have hdB : decide ((8 : Int) < (lp : Int)) = false := decide_eq_false (by omega)
 have HC : Hid ((!(sig.all isS)) = false) := Lib.hid (by rw [hC]; rfl)
 clear hC
 have HD : Hid ((!(path.all isS)) = false) := Lib.hid (by rw [hD]; rfl)
 clear hD
 have hdE : decide (idx < 0) = false := decide_eq_false hE
 have hwp := wrap_pow lp (by omega)
 have hdF : decide (((2 ^ lp : Nat) : Int) ≤ idx) = true := decide_eq_true hF
 have hdF' : decide (((2 : Int) ^ lp) ≤ idx) = true := by
  have e : ((2 ^ lp : Nat) : Int) = (2 : Int) ^ lp := by simp
  rw [← e]; exact hdF
 clear hF
 obtain ⟨hbx, hB1, hz⟩ := box_one w #[.int .i64 idx, .slice aos 18 cs, .slice aop lp cp] 25
 have C0 : Hid ((w.alloc (.cells #[.int .i64 idx, .slice aos 18 cs, .slice aop lp cp] 25)).cell? ⟨w.heap.size, 0, none⟩ = some (.int .i64 idx)) := Lib.hid (by rw [cell_of_row _ _ 0 _ _ _ hbx]; rfl)
 have C1 : Hid ((w.alloc (.cells #[.int .i64 idx, .slice aos 18 cs, .slice aop lp cp] 25)).cell? ⟨w.heap.size, 1, none⟩ = some (.slice aos 18 cs)) := Lib.hid (by rw [cell_of_row _ _ 1 _ _ _ hbx]; rfl)
 have C2 : Hid ((w.alloc (.cells #[.int .i64 idx, .slice aos 18 cs, .slice aop lp cp] 25)).cell? ⟨w.heap.size, 2, none⟩ = some (.slice aop lp cp)) := Lib.hid (by rw [cell_of_row _ _ 2 _ _ _ hbx]; rfl)
 have HB1 := Lib.hid hB1
 have HSG1 := Lib.hid (HSG.out.on hB1)
 have HPT1 := Lib.hid (HPT.out.on hB1)
 have hz1 : w.heap.size < (w.alloc (.cells #[.int .i64 idx, .slice aos 18 cs, .slice aop lp cp] 25)).heap.size := by omega
 clear hbx hB1 hz
 go_enter Tryz.func78, Tryz.ntmps78
 go_wp2_with fail
 generalize hgw : w.alloc (.cells #[.int .i64 idx, .slice aos 18 cs, .slice aop lp cp] 25) = w1 at *
 clear hgw
 refine wp_region_res 32 (w1.heap.size) (fun ii u => [valF (.pointer (some ⟨w.heap.size, 1, none⟩)), valF (.slice aos 18 cs), valF (.int .i64 18), valF (.bool false), valF (.bool false), valF (.int .i64 (lp : Int)), valF (.bool false), valF (.bool false), valF (.bool false), valF (.func (.func 105) #[] #[]), valF (.pointer (some ⟨w.heap.size, 1, none⟩)), valF (.slice aos 18 cs), valF (.bool false), valF (.bool false), valF (.bool false), valF (.func (.func 105) #[] #[]), valF (.pointer (some ⟨w.heap.size, 2, none⟩)), valF (.slice aop lp cp), valF (.bool false), valF (.bool false), valF (.bool false), valF (.pointer (some ⟨w.heap.size, 0, none⟩)), valF (.int .i64 idx), valF (.bool false), valF (.bool false), valF (.bool false), valF (.pointer (some ⟨w.heap.size, 0, none⟩)), valF (.int .i64 idx), valF (.int .i64 (lp : Int)), valF (.int .i64 ((2 ^ lp : Nat) : Int)), valF (.bool true), valF (.bool true)].getD ii anyF) (fun jj ii => false) (fun jj bb => False) (by kernel_rfl) (by kernel_rfl) (by kernel_rfl) (by kernel_rfl) (by kernel_rfl) (Nat.le_refl _) ?_ ?_ ?_ ?_ ?_
 ·intro ii u hii
  refine AllKStable.at ?_ ii
  exact ⟨.inl (valF_stable _ _), .inl (valF_stable _ _), .inl (valF_stable _ _), .inl (valF_stable _ _), .inl (valF_stable _ _), .inl (valF_stable _ _), .inl (valF_stable _ _), .inl (valF_stable _ _), .inl (valF_stable _ _), .inl (valF_stable _ _), .inl (valF_stable _ _), .inl (valF_stable _ _), .inl (valF_stable _ _), .inl (valF_stable _ _), .inl (valF_stable _ _), .inl (valF_stable _ _), .inl (valF_stable _ _), .inl (valF_stable _ _), .inl (valF_stable _ _), .inl (valF_stable _ _), .inl (valF_stable _ _), .inl (valF_stable _ _), .inl (valF_stable _ _), .inl (valF_stable _ _), .inl (valF_stable _ _), .inl (valF_stable _ _), .inl (valF_stable _ _), .inl (valF_stable _ _), .inl (valF_stable _ _), .inl (valF_stable _ _), .inl (valF_stable _ _), .inl (valF_stable _ _), trivial⟩
 ·exact fun _ _ _ _ _ => rfl
 ·exact ⟨fun _ _ _ h => h.elim, fun _ _ _ _ _ h => h.elim⟩
 ·refine And.intro (fun u W A hW hBW hd hv hr => ?_) ?_
  ·have t5 : A.eval (.tmp 5) = .pointer (some ⟨w.heap.size, 0, none⟩) := (hv 5 (by kernel_rfl)).trans (by kernel_rfl)
   clear hd hv
   have s5 := evalT t5
   clear t5
   refine fk_run ?_
   go_simp
  refine And.intro (fun u W A hW hBW hd hv hr => ?_) ?_
  ·have e0 : u 0 = .pointer (some ⟨w.heap.size, 1, none⟩) := hd 0 (by decide) (by kernel_rfl)
   have t15 : A.eval (.tmp 15) = .pointer (some ⟨w.heap.size, 1, none⟩) := (hv 15 (by kernel_rfl)).trans ((by kernel_rfl : slotV _ _ _ u 15 = u 0).trans e0)
   have hW1 := below_undrew hW
   have hcl : W.cell? ⟨w.heap.size, 1, none⟩ = some (.slice aos 18 cs) := by rw [hW1.cell (p := ⟨w.heap.size, 1, none⟩) (by show w.heap.size < w1.heap.size; omega)]; exact C1.out
   clear hd hv
   have s15 := evalT t15
   clear t15
   refine fk_run ?_
   go_simp
  refine And.intro (fun u W A hW hBW hd hv hr => ?_) ?_
  ·have e1 : u 1 = .slice aos 18 cs := hd 1 (by decide) (by kernel_rfl)
   have t16 : A.eval (.tmp 16) = .slice aos 18 cs := (hv 16 (by kernel_rfl)).trans ((by kernel_rfl : slotV _ _ _ u 16 = u 1).trans e1)
   clear hd hv
   have s16 := evalT t16
   clear t16
   refine fk_run ?_
   go_simp
  refine And.intro (fun u W A hW hBW hd hv hr => ?_) ?_
  ·have e2 : u 2 = .int .i64 18 := hd 2 (by decide) (by kernel_rfl)
   have t17 : A.eval (.tmp 17) = .int .i64 18 := (hv 17 (by kernel_rfl)).trans ((by kernel_rfl : slotV _ _ _ u 17 = u 2).trans e2)
   clear hd hv
   have s17 := evalT t17
   clear t17
   refine fk_run ?_
   go_simp
  refine And.intro (fun u W A hW hBW hd hv hr => ?_) ?_
  ·have e3 : u 3 = .bool false := hd 3 (by decide) (by kernel_rfl)
   have t18 : A.eval (.tmp 18) = .bool false := (hv 18 (by kernel_rfl)).trans ((by kernel_rfl : slotV _ _ _ u 18 = u 3).trans e3)
   clear hd hv
   have s18 := evalT t18
   clear t18
   refine fk_run ?_
   go_simp
  refine And.intro (fun u W A hW hBW hd hv hr => ?_) ?_
  ·have e4 : u 4 = .bool false := hd 4 (by decide) (by kernel_rfl)
   have t7 : A.eval (.tmp 7) = .int .i64 (lp : Int) := (hv 7 (by kernel_rfl)).trans (by kernel_rfl)
   clear hd hv
   have s7 := evalT t7
   clear t7
   refine Or.inl ⟨e4, ?_⟩
   refine fk_run ?_
   go_simp
  refine And.intro (fun u W A hW hBW hd hv hr => ?_) ?_
  ·have e4 : u 4 = .bool false := hd 4 (by decide) (by kernel_rfl)
   have e5 : u 5 = .int .i64 (lp : Int) := hd 5 (by decide) (by kernel_rfl)
   have t20 : A.eval (.tmp 20) = .int .i64 (lp : Int) := (hv 20 (by kernel_rfl)).trans ((by kernel_rfl : slotV _ _ _ u 20 = u 5).trans e5)
   clear hd hv
   have s20 := evalT t20
   clear t20
   refine Or.inl ⟨e4, ?_⟩
   refine fk_run ?_
   go_simp
  refine And.intro (fun u W A hW hBW hd hv hr => ?_) ?_
  ·have e4 : u 4 = .bool false := hd 4 (by decide) (by kernel_rfl)
   have e6 : u 6 = .bool false := hd 6 (by decide) (by kernel_rfl)
   have t19 : A.eval (.tmp 19) = .bool false := (hv 19 (by kernel_rfl)).trans ((by kernel_rfl : slotV _ _ _ u 19 = u 4).trans e4)
   have t21 : A.eval (.tmp 21) = .bool false := (hv 21 (by kernel_rfl)).trans ((by kernel_rfl : slotV _ _ _ u 21 = u 6).trans e6)
   clear hd hv
   have s19 := evalT t19
   have s21 := evalT t21
   clear t19 t21
   refine fk_run ?_
   go_simp
  refine And.intro (fun u W A hW hBW hd hv hr => ?_) ?_
  ·have e7 : u 7 = .bool false := hd 7 (by decide) (by kernel_rfl)
   have t22 : A.eval (.tmp 22) = .bool false := (hv 22 (by kernel_rfl)).trans ((by kernel_rfl : slotV _ _ _ u 22 = u 7).trans e7)
   clear hd hv
   have s22 := evalT t22
   clear t22
   refine fk_run ?_
   go_simp
  refine And.intro (fun u W A hW hBW hd hv hr => ?_) ?_
  ·have e8 : u 8 = .bool false := hd 8 (by decide) (by kernel_rfl)
   have t8 : A.eval (.tmp 8) = .func (.func 105) #[] #[] := (hv 8 (by kernel_rfl)).trans (by kernel_rfl)
   clear hd hv
   have s8 := evalT t8
   clear t8
   refine Or.inl ⟨e8, ?_⟩
   refine fk_run ?_
   go_simp
  refine And.intro (fun u W A hW hBW hd hv hr => ?_) ?_
  ·have e8 : u 8 = .bool false := hd 8 (by decide) (by kernel_rfl)
   have t5 : A.eval (.tmp 5) = .pointer (some ⟨w.heap.size, 0, none⟩) := (hv 5 (by kernel_rfl)).trans (by kernel_rfl)
   clear hd hv
   have s5 := evalT t5
   clear t5
   refine Or.inl ⟨e8, ?_⟩
   refine fk_run ?_
   go_simp
  refine And.intro (fun u W A hW hBW hd hv hr => ?_) ?_
  ·have e8 : u 8 = .bool false := hd 8 (by decide) (by kernel_rfl)
   have e10 : u 10 = .pointer (some ⟨w.heap.size, 1, none⟩) := hd 10 (by decide) (by kernel_rfl)
   have t25 : A.eval (.tmp 25) = .pointer (some ⟨w.heap.size, 1, none⟩) := (hv 25 (by kernel_rfl)).trans ((by kernel_rfl : slotV _ _ _ u 25 = u 10).trans e10)
   have hW1 := below_undrew hW
   have hcl : W.cell? ⟨w.heap.size, 1, none⟩ = some (.slice aos 18 cs) := by rw [hW1.cell (p := ⟨w.heap.size, 1, none⟩) (by show w.heap.size < w1.heap.size; omega)]; exact C1.out
   clear hd hv
   have s25 := evalT t25
   clear t25
   refine Or.inl ⟨e8, ?_⟩
   refine fk_run ?_
   go_simp
  refine And.intro (fun u W A hW hBW hd hv hr => ?_) ?_
  ·have e8 : u 8 = .bool false := hd 8 (by decide) (by kernel_rfl)
   have e9 : u 9 = .func (.func 105) #[] #[] := hd 9 (by decide) (by kernel_rfl)
   have e11 : u 11 = .slice aos 18 cs := hd 11 (by decide) (by kernel_rfl)
   have t24 : A.eval (.tmp 24) = .func (.func 105) #[] #[] := (hv 24 (by kernel_rfl)).trans ((by kernel_rfl : slotV _ _ _ u 24 = u 9).trans e9)
   have t26 : A.eval (.tmp 26) = .slice aos 18 cs := (hv 26 (by kernel_rfl)).trans ((by kernel_rfl : slotV _ _ _ u 26 = u 11).trans e11)
   have hW1 := below_undrew hW
   clear hd hv
   have s24 := evalT t24
   have s26 := evalT t26
   clear t24 t26
   refine Or.inl ⟨e8, ?_⟩
   refine fk_enter (f := 105) (args := #[.slice aos 18 cs]) (by go_simp) (fk_val ?_)
   have hod := sodd_calls _ sig W (HSG1.out.on hW1) HSS.out
   rw [HC.out] at hod
   exact hod
  refine And.intro (fun u W A hW hBW hd hv hr => ?_) ?_
  ·have e8 : u 8 = .bool false := hd 8 (by decide) (by kernel_rfl)
   have e12 : u 12 = .bool false := hd 12 (by decide) (by kernel_rfl)
   have t23 : A.eval (.tmp 23) = .bool false := (hv 23 (by kernel_rfl)).trans ((by kernel_rfl : slotV _ _ _ u 23 = u 8).trans e8)
   have t27 : A.eval (.tmp 27) = .bool false := (hv 27 (by kernel_rfl)).trans ((by kernel_rfl : slotV _ _ _ u 27 = u 12).trans e12)
   clear hd hv
   have s23 := evalT t23
   have s27 := evalT t27
   clear t23 t27
   refine fk_run ?_
   go_simp
  refine And.intro (fun u W A hW hBW hd hv hr => ?_) ?_
  ·have e13 : u 13 = .bool false := hd 13 (by decide) (by kernel_rfl)
   have t28 : A.eval (.tmp 28) = .bool false := (hv 28 (by kernel_rfl)).trans ((by kernel_rfl : slotV _ _ _ u 28 = u 13).trans e13)
   clear hd hv
   have s28 := evalT t28
   clear t28
   refine fk_run ?_
   go_simp
  refine And.intro (fun u W A hW hBW hd hv hr => ?_) ?_
  ·have e14 : u 14 = .bool false := hd 14 (by decide) (by kernel_rfl)
   have t8 : A.eval (.tmp 8) = .func (.func 105) #[] #[] := (hv 8 (by kernel_rfl)).trans (by kernel_rfl)
   clear hd hv
   have s8 := evalT t8
   clear t8
   refine Or.inl ⟨e14, ?_⟩
   refine fk_run ?_
   go_simp
  refine And.intro (fun u W A hW hBW hd hv hr => ?_) ?_
  ·have e14 : u 14 = .bool false := hd 14 (by decide) (by kernel_rfl)
   have t5 : A.eval (.tmp 5) = .pointer (some ⟨w.heap.size, 0, none⟩) := (hv 5 (by kernel_rfl)).trans (by kernel_rfl)
   clear hd hv
   have s5 := evalT t5
   clear t5
   refine Or.inl ⟨e14, ?_⟩
   refine fk_run ?_
   go_simp
  refine And.intro (fun u W A hW hBW hd hv hr => ?_) ?_
  ·have e14 : u 14 = .bool false := hd 14 (by decide) (by kernel_rfl)
   have e16 : u 16 = .pointer (some ⟨w.heap.size, 2, none⟩) := hd 16 (by decide) (by kernel_rfl)
   have t31 : A.eval (.tmp 31) = .pointer (some ⟨w.heap.size, 2, none⟩) := (hv 31 (by kernel_rfl)).trans ((by kernel_rfl : slotV _ _ _ u 31 = u 16).trans e16)
   have hW1 := below_undrew hW
   have hcl : W.cell? ⟨w.heap.size, 2, none⟩ = some (.slice aop lp cp) := by rw [hW1.cell (p := ⟨w.heap.size, 2, none⟩) (by show w.heap.size < w1.heap.size; omega)]; exact C2.out
   clear hd hv
   have s31 := evalT t31
   clear t31
   refine Or.inl ⟨e14, ?_⟩
   refine fk_run ?_
   go_simp
  refine And.intro (fun u W A hW hBW hd hv hr => ?_) ?_
  ·have e14 : u 14 = .bool false := hd 14 (by decide) (by kernel_rfl)
   have e15 : u 15 = .func (.func 105) #[] #[] := hd 15 (by decide) (by kernel_rfl)
   have e17 : u 17 = .slice aop lp cp := hd 17 (by decide) (by kernel_rfl)
   have t30 : A.eval (.tmp 30) = .func (.func 105) #[] #[] := (hv 30 (by kernel_rfl)).trans ((by kernel_rfl : slotV _ _ _ u 30 = u 15).trans e15)
   have t32 : A.eval (.tmp 32) = .slice aop lp cp := (hv 32 (by kernel_rfl)).trans ((by kernel_rfl : slotV _ _ _ u 32 = u 17).trans e17)
   have hW1 := below_undrew hW
   clear hd hv
   have s30 := evalT t30
   have s32 := evalT t32
   clear t30 t32
   refine Or.inl ⟨e14, ?_⟩
   refine fk_enter (f := 105) (args := #[.slice aop lp cp]) (by go_simp) (fk_val ?_)
   have hod := sodd_calls _ path W (HPT1.out.on hW1) HSP.out
   rw [HD.out] at hod
   exact hod
  refine And.intro (fun u W A hW hBW hd hv hr => ?_) ?_
  ·have e14 : u 14 = .bool false := hd 14 (by decide) (by kernel_rfl)
   have e18 : u 18 = .bool false := hd 18 (by decide) (by kernel_rfl)
   have t29 : A.eval (.tmp 29) = .bool false := (hv 29 (by kernel_rfl)).trans ((by kernel_rfl : slotV _ _ _ u 29 = u 14).trans e14)
   have t33 : A.eval (.tmp 33) = .bool false := (hv 33 (by kernel_rfl)).trans ((by kernel_rfl : slotV _ _ _ u 33 = u 18).trans e18)
   clear hd hv
   have s29 := evalT t29
   have s33 := evalT t33
   clear t29 t33
   refine fk_run ?_
   go_simp
  refine And.intro (fun u W A hW hBW hd hv hr => ?_) ?_
  ·have e19 : u 19 = .bool false := hd 19 (by decide) (by kernel_rfl)
   have t34 : A.eval (.tmp 34) = .bool false := (hv 34 (by kernel_rfl)).trans ((by kernel_rfl : slotV _ _ _ u 34 = u 19).trans e19)
   clear hd hv
   have s34 := evalT t34
   clear t34
   refine fk_run ?_
   go_simp
  refine And.intro (fun u W A hW hBW hd hv hr => ?_) ?_
  ·have e20 : u 20 = .bool false := hd 20 (by decide) (by kernel_rfl)
   have t5 : A.eval (.tmp 5) = .pointer (some ⟨w.heap.size, 0, none⟩) := (hv 5 (by kernel_rfl)).trans (by kernel_rfl)
   clear hd hv
   have s5 := evalT t5
   clear t5
   refine Or.inl ⟨e20, ?_⟩
   refine fk_run ?_
   go_simp
  refine And.intro (fun u W A hW hBW hd hv hr => ?_) ?_
  ·have e20 : u 20 = .bool false := hd 20 (by decide) (by kernel_rfl)
   have e21 : u 21 = .pointer (some ⟨w.heap.size, 0, none⟩) := hd 21 (by decide) (by kernel_rfl)
   have t36 : A.eval (.tmp 36) = .pointer (some ⟨w.heap.size, 0, none⟩) := (hv 36 (by kernel_rfl)).trans ((by kernel_rfl : slotV _ _ _ u 36 = u 21).trans e21)
   have hW1 := below_undrew hW
   have hcl : W.cell? ⟨w.heap.size, 0, none⟩ = some (.int .i64 idx) := by rw [hW1.cell (p := ⟨w.heap.size, 0, none⟩) (by show w.heap.size < w1.heap.size; omega)]; exact C0.out
   clear hd hv
   have s36 := evalT t36
   clear t36
   refine Or.inl ⟨e20, ?_⟩
   refine fk_run ?_
   go_simp
  refine And.intro (fun u W A hW hBW hd hv hr => ?_) ?_
  ·have e20 : u 20 = .bool false := hd 20 (by decide) (by kernel_rfl)
   have e22 : u 22 = .int .i64 idx := hd 22 (by decide) (by kernel_rfl)
   have t37 : A.eval (.tmp 37) = .int .i64 idx := (hv 37 (by kernel_rfl)).trans ((by kernel_rfl : slotV _ _ _ u 37 = u 22).trans e22)
   clear hd hv
   have s37 := evalT t37
   clear t37
   refine Or.inl ⟨e20, ?_⟩
   refine fk_run ?_
   go_simp
  refine And.intro (fun u W A hW hBW hd hv hr => ?_) ?_
  ·have e20 : u 20 = .bool false := hd 20 (by decide) (by kernel_rfl)
   have e23 : u 23 = .bool false := hd 23 (by decide) (by kernel_rfl)
   have t35 : A.eval (.tmp 35) = .bool false := (hv 35 (by kernel_rfl)).trans ((by kernel_rfl : slotV _ _ _ u 35 = u 20).trans e20)
   have t38 : A.eval (.tmp 38) = .bool false := (hv 38 (by kernel_rfl)).trans ((by kernel_rfl : slotV _ _ _ u 38 = u 23).trans e23)
   clear hd hv
   have s35 := evalT t35
   have s38 := evalT t38
   clear t35 t38
   refine fk_run ?_
   go_simp
  refine And.intro (fun u W A hW hBW hd hv hr => ?_) ?_
  ·have e24 : u 24 = .bool false := hd 24 (by decide) (by kernel_rfl)
   have t39 : A.eval (.tmp 39) = .bool false := (hv 39 (by kernel_rfl)).trans ((by kernel_rfl : slotV _ _ _ u 39 = u 24).trans e24)
   clear hd hv
   have s39 := evalT t39
   clear t39
   refine fk_run ?_
   go_simp
  refine And.intro (fun u W A hW hBW hd hv hr => ?_) ?_
  ·have e25 : u 25 = .bool false := hd 25 (by decide) (by kernel_rfl)
   have t5 : A.eval (.tmp 5) = .pointer (some ⟨w.heap.size, 0, none⟩) := (hv 5 (by kernel_rfl)).trans (by kernel_rfl)
   clear hd hv
   have s5 := evalT t5
   clear t5
   refine Or.inl ⟨e25, ?_⟩
   refine fk_run ?_
   go_simp
  refine And.intro (fun u W A hW hBW hd hv hr => ?_) ?_
  ·have e25 : u 25 = .bool false := hd 25 (by decide) (by kernel_rfl)
   have e26 : u 26 = .pointer (some ⟨w.heap.size, 0, none⟩) := hd 26 (by decide) (by kernel_rfl)
   have t41 : A.eval (.tmp 41) = .pointer (some ⟨w.heap.size, 0, none⟩) := (hv 41 (by kernel_rfl)).trans ((by kernel_rfl : slotV _ _ _ u 41 = u 26).trans e26)
   have hW1 := below_undrew hW
   have hcl : W.cell? ⟨w.heap.size, 0, none⟩ = some (.int .i64 idx) := by rw [hW1.cell (p := ⟨w.heap.size, 0, none⟩) (by show w.heap.size < w1.heap.size; omega)]; exact C0.out
   clear hd hv
   have s41 := evalT t41
   clear t41
   refine Or.inl ⟨e25, ?_⟩
   refine fk_run ?_
   go_simp
  refine And.intro (fun u W A hW hBW hd hv hr => ?_) ?_
  ·have e25 : u 25 = .bool false := hd 25 (by decide) (by kernel_rfl)
   have t7 : A.eval (.tmp 7) = .int .i64 (lp : Int) := (hv 7 (by kernel_rfl)).trans (by kernel_rfl)
   clear hd hv
   have s7 := evalT t7
   clear t7
   refine Or.inl ⟨e25, ?_⟩
   refine fk_run ?_
   go_simp
  refine And.intro (fun u W A hW hBW hd hv hr => ?_) ?_
  ·have e25 : u 25 = .bool false := hd 25 (by decide) (by kernel_rfl)
   have e28 : u 28 = .int .i64 (lp : Int) := hd 28 (by decide) (by kernel_rfl)
   have t43 : A.eval (.tmp 43) = .int .i64 (lp : Int) := (hv 43 (by kernel_rfl)).trans ((by kernel_rfl : slotV _ _ _ u 43 = u 28).trans e28)
   clear hd hv
   have s43 := evalT t43
   clear t43
   refine Or.inl ⟨e25, ?_⟩
   refine fk_run ?_
   go_simp
   exact wrap_powI lp (by omega)
  refine And.intro (fun u W A hW hBW hd hv hr => ?_) ?_
  ·have e25 : u 25 = .bool false := hd 25 (by decide) (by kernel_rfl)
   have e27 : u 27 = .int .i64 idx := hd 27 (by decide) (by kernel_rfl)
   have e29 : u 29 = .int .i64 ((2 ^ lp : Nat) : Int) := hd 29 (by decide) (by kernel_rfl)
   have t42 : A.eval (.tmp 42) = .int .i64 idx := (hv 42 (by kernel_rfl)).trans ((by kernel_rfl : slotV _ _ _ u 42 = u 27).trans e27)
   have t44 : A.eval (.tmp 44) = .int .i64 ((2 ^ lp : Nat) : Int) := (hv 44 (by kernel_rfl)).trans ((by kernel_rfl : slotV _ _ _ u 44 = u 29).trans e29)
   clear hd hv
   have s42 := evalT t42
   have s44 := evalT t44
   clear t42 t44
   refine Or.inl ⟨e25, ?_⟩
   refine fk_run ?_
   go_simp
  refine And.intro (fun u W A hW hBW hd hv hr => ?_) ?_
  ·have e25 : u 25 = .bool false := hd 25 (by decide) (by kernel_rfl)
   have e30 : u 30 = .bool true := hd 30 (by decide) (by kernel_rfl)
   have t40 : A.eval (.tmp 40) = .bool false := (hv 40 (by kernel_rfl)).trans ((by kernel_rfl : slotV _ _ _ u 40 = u 25).trans e25)
   have t45 : A.eval (.tmp 45) = .bool true := (hv 45 (by kernel_rfl)).trans ((by kernel_rfl : slotV _ _ _ u 45 = u 30).trans e30)
   clear hd hv
   have s40 := evalT t40
   have s45 := evalT t45
   clear t40 t45
   refine fk_run ?_
   go_simp
  exact trivial
 intro u w2 hb2 hk2 hf2
 have e31 : u 31 = .bool true := hf2 31 (by decide) (by decide)
 have H2 := Lib.hid (HB1.out.trans ((below_undrew hb2).mono HB1.out.size))
 clear hf2 hb2 hk2
 simp only [List.take, List.drop, wpList, lexPut, Nat.zero_add, Nat.reduceAdd, e31, Act.put, List.setIfInBounds_toArray, List.set_cons_succ, List.set_cons_zero]
 clear e31
 go_wp2
 go_ret
 exact ⟨rfl, H2.out⟩
end Go.Proofs.YtnkepmfgmfeabaaGreatDoor

namespace Go.Proofs.YtnkepmfgmfeabaaGreatDoor
open Go Go.RowKit Go.Shelf
attribute [local go_sem] Oper.semAt_some

/-- the ends under way -/
def EndAt (ob : Nat) (T : TypeId) (W1 : World) (l : List ByteArray) (W : World) : Prop :=
 ∃ v, W.heap[ob]? = some (.cells #[v] T (0, 0)) ∧ Own (ob + 1) W v l ∧ Below ob W1 W
theorem endAt_from {β : Type} {ob : Nat} {T : TypeId} {W1 : World} (f : β → List ByteArray) {B : Nat} (hB : ob + 1 ≤ B) (hob : ob ≤ W1.heap.size) : OwnFrom B (fun s W => EndAt ob T W1 (f s) W) := by
 rintro s W W' row ⟨v, h1, h2, h3⟩ hg hr
 have hk : ∀ k cs t fr, W.heap[k]? = some (Obj.cells cs t fr) → W'.heap[k]? = W.heap[k]? := fun k cs t fr hk => hg.block k (Array.getElem?_eq_some_iff.1 hk).1 (fun e => by
  obtain ⟨_, o, ho, hc⟩ := hr k e.symm
  rw [hk] at ho; cases ho; cases hc)
 have hlt : ob < W.heap.size := (Array.getElem?_eq_some_iff.1 h1).1
 have hb : Below (ob + 1) W W' := ⟨hg.os, hg.tape, hg.output, hg.size, fun k hk2 => hg.block k (by omega) (fun e => by have := (hr k e.symm).1; omega)⟩
 refine ⟨v, (hk _ _ _ _ h1).trans h1, ?_, h3.trans (hb.mono (by omega))⟩
 exact ownF_st (ob + 1) (ob + 1) (f s) W W' v hb (fun b hb2 => by
  obtain ⟨cs, t, fr, he⟩ := own_cells h2 hb2
  exact hk b cs t fr he) h2
theorem ends_map (m : ByteArray) (sig : List ByteArray) : (digP 18).map (fun x => chainS (sig.getD x.val ByteArray.empty) (15 - digA m x.val)) = sealEnds m sig := digP_map (fun k => chainS (sig.getD k ByteArray.empty) (15 - (digsT m).getD k 0))
theorem chain16 {s : ByteArray} (h : s.size = 16) (n : Nat) : (chainS s n).size = 16 := by
 cases n with
 | zero => exact h
 | succ n => exact sumS_size _
theorem ends16 (m : ByteArray) {sig : List ByteArray} (h : sig.all isS = true) (hl : sig.length = 18) : ∀ s ∈ sealEnds m sig, s.size = 16 := by
 intro s hs
 unfold sealEnds at hs
 obtain ⟨k, hk, rfl⟩ := List.mem_map.1 hs
 have hk := List.mem_range.1 hk
 refine chain16 (isS_size (List.all_eq_true.1 h _ ?_)) _
 have hk2 : k < sig.length := by omega
 rw [show sig.getD k ByteArray.empty = sig[k] by simp [List.getD, hk2]]
 exact List.getElem_mem hk2
theorem heap_two (w : World) (d e : Obj) :
  ((w.alloc d).alloc e).heap.size = w.heap.size + 2 ∧ ((w.alloc d).alloc e).heap[w.heap.size]? = some d ∧ ((w.alloc d).alloc e).heap[w.heap.size + 1]? = some e ∧ Below w.heap.size w ((w.alloc d).alloc e) := by
 refine ⟨by rw [World.size_alloc, World.size_alloc], ?_, ?_, ((Below.refl _ w).alloc (Nat.le_refl _) d).alloc (by simp) e⟩
 ·show ((w.heap.push d).push e)[w.heap.size]? = _
  rw [push_old _ _ _ (by simp), push_at _ _ _ rfl]
 ·show ((w.heap.push d).push e)[w.heap.size + 1]? = _
  rw [push_at _ _ _ (by simp)]
set_option maxRecDepth 100000 in
set_option maxHeartbeats 2000000 in
theorem ver_ok (pub m : ByteArray) (idx : Int) (vs vp : Value) (sig path : List ByteArray) (w : World) (hpub : pub.size ≤ 1099511627776) (hm : m.size ≤ 1099511627776) (hs : IsStrC w vs sig) (hp : IsStrC w vp path) (hss : ∀ s ∈ sig, s.size ≤ 1099511627776) (hps : ∀ s ∈ path, s.size ≤ 1099511627776) (hT : Tabs w) (hA : sig.length = 18) (hB : path.length ≤ 8) (hC : sig.all isS = true) (hD : path.all isS = true) (hE : ¬ idx < 0) (hF : ¬ ((2 ^ path.length : Nat) : Int) ≤ idx) :
  Calls Tryz.prog 78 #[.string pub, .string m, .agg #[.int .i64 idx, vs, vp]] w fun e w' => e = .returned (.bool (verT pub m idx sig path)) ∧ Below w.heap.size w w' := by
 have HT := Lib.hid hT
 have HSS := Lib.hid hss
 have HSP := Lib.hid hps
 obtain ⟨aos, cs, rfl⟩ := strc_form hs
 obtain ⟨aop, cp, rfl⟩ := strc_form hp
 have HSG := Lib.hid hs
 have HPT := Lib.hid hp
 clear hT hss hps hs hp
 rw [ver_yes hA hB hC hD (by omega) (by omega)]
 have HEN := Lib.hid (ends16 m hC hA)
 have HS16 : Hid (∀ k, (hk : k < 18) → (sig.getD k ByteArray.empty).size = 16) := Lib.hid (fun k hk => isS_size (List.all_eq_true.1 hC _ (by
  have hk2 : k < sig.length := by omega
  rw [show sig.getD k ByteArray.empty = sig[k] by simp [List.getD, hk2]]
  exact List.getElem_mem hk2)))
 have HLEN : Hid ((sealEnds m sig).length = 18) := Lib.hid (by simp [sealEnds])
 have HLS0 := Lib.hid hA
 have hlp8 : path.length ≤ 8 := hB
 have HPATHB := Lib.hid hB
 rw [hA] at HSG
 rw [hA]
 have HLS := Lib.hid hA
 clear hA
 have hpm : path.length ≤ 9223372036854775807 := by obtain ⟨ao, c, e, h1, h2, _⟩ := HPT.out; have : c ≤ 9223372036854775807 := h2; omega
 obtain ⟨lp, hlp⟩ : ∃ lp, lp = path.length := ⟨_, rfl⟩
 rw [← hlp] at hpm hB hF hlp8
 rw [← hlp] at HPT
 rw [← hlp]
 have HLP := Lib.hid hlp
 clear hlp
 have hdB : decide ((8 : Int) < (lp : Int)) = false := decide_eq_false (by omega)
 have HC : Hid ((!(sig.all isS)) = false) := Lib.hid (by rw [hC]; rfl)
 clear hC
 have HD : Hid ((!(path.all isS)) = false) := Lib.hid (by rw [hD]; rfl)
 clear hD
 have hdE : decide (idx < 0) = false := decide_eq_false hE
 have hwp := wrap_pow lp (by omega)
 have hdF : decide (((2 ^ lp : Nat) : Int) ≤ idx) = false := decide_eq_false hF
 have hdF' : decide (((2 : Int) ^ lp) ≤ idx) = false := by
  have e : ((2 ^ lp : Nat) : Int) = (2 : Int) ^ lp := by simp
  rw [← e]; exact hdF
 obtain ⟨hbx, hB1, hz⟩ := box_one w #[.int .i64 idx, .slice aos 18 cs, .slice aop lp cp] 25
 have C0 : Hid ((w.alloc (.cells #[.int .i64 idx, .slice aos 18 cs, .slice aop lp cp] 25)).cell? ⟨w.heap.size, 0, none⟩ = some (.int .i64 idx)) := Lib.hid (by rw [cell_of_row _ _ 0 _ _ _ hbx]; rfl)
 have C1 : Hid ((w.alloc (.cells #[.int .i64 idx, .slice aos 18 cs, .slice aop lp cp] 25)).cell? ⟨w.heap.size, 1, none⟩ = some (.slice aos 18 cs)) := Lib.hid (by rw [cell_of_row _ _ 1 _ _ _ hbx]; rfl)
 have C2 : Hid ((w.alloc (.cells #[.int .i64 idx, .slice aos 18 cs, .slice aop lp cp] 25)).cell? ⟨w.heap.size, 2, none⟩ = some (.slice aop lp cp)) := Lib.hid (by rw [cell_of_row _ _ 2 _ _ _ hbx]; rfl)
 have HB1 := Lib.hid hB1
 have HSG1 := Lib.hid (HSG.out.on hB1)
 have HPT1 := Lib.hid (HPT.out.on hB1)
 have hz1 : w.heap.size < (w.alloc (.cells #[.int .i64 idx, .slice aos 18 cs, .slice aop lp cp] 25)).heap.size := by omega
 clear hbx hB1 hz
 refine calls_of_wp_marks (n := 5) Tryz.func78 rfl ?_
 simp only [Tryz.ntmps78, List.size_toArray, List.length_cons, List.length_nil, Nat.reduceAdd, Nat.reduceSub, Array.replicate_succ, Array.replicate_zero, List.push_toArray, List.append_toArray, List.nil_append, List.cons_append]
 go_wp2_with fail
 have HX1 : Hid ((w.alloc (.cells #[.int .i64 idx, .slice aos 18 cs, .slice aop lp cp] 25)).heap[w.heap.size]? = some (.cells #[.int .i64 idx, .slice aos 18 cs, .slice aop lp cp] 25 (0, 0))) := Lib.hid (by rw [World.alloc_heap_new])
 generalize hgw : w.alloc (.cells #[.int .i64 idx, .slice aos 18 cs, .slice aop lp cp] 25) = w1 at *
 clear hgw
 refine wp_normal ?_
 refine wp_region_res 32 (w1.heap.size) (fun ii u => [valF (.pointer (some ⟨w.heap.size, 1, none⟩)), valF (.slice aos 18 cs), valF (.int .i64 18), valF (.bool false), valF (.bool false), valF (.int .i64 (lp : Int)), valF (.bool false), valF (.bool false), valF (.bool false), valF (.func (.func 105) #[] #[]), valF (.pointer (some ⟨w.heap.size, 1, none⟩)), valF (.slice aos 18 cs), valF (.bool false), valF (.bool false), valF (.bool false), valF (.func (.func 105) #[] #[]), valF (.pointer (some ⟨w.heap.size, 2, none⟩)), valF (.slice aop lp cp), valF (.bool false), valF (.bool false), valF (.bool false), valF (.pointer (some ⟨w.heap.size, 0, none⟩)), valF (.int .i64 idx), valF (.bool false), valF (.bool false), valF (.bool false), valF (.pointer (some ⟨w.heap.size, 0, none⟩)), valF (.int .i64 idx), valF (.int .i64 (lp : Int)), valF (.int .i64 ((2 ^ lp : Nat) : Int)), valF (.bool false), valF (.bool false)].getD ii anyF) (fun jj ii => false) (fun jj bb => False) (by kernel_rfl) (by kernel_rfl) (by kernel_rfl) (by kernel_rfl) (by kernel_rfl) (Nat.le_refl _) ?_ ?_ ?_ ?_ ?_
 ·intro ii u hii
  refine AllKStable.at ?_ ii
  exact ⟨.inl (valF_stable _ _), .inl (valF_stable _ _), .inl (valF_stable _ _), .inl (valF_stable _ _), .inl (valF_stable _ _), .inl (valF_stable _ _), .inl (valF_stable _ _), .inl (valF_stable _ _), .inl (valF_stable _ _), .inl (valF_stable _ _), .inl (valF_stable _ _), .inl (valF_stable _ _), .inl (valF_stable _ _), .inl (valF_stable _ _), .inl (valF_stable _ _), .inl (valF_stable _ _), .inl (valF_stable _ _), .inl (valF_stable _ _), .inl (valF_stable _ _), .inl (valF_stable _ _), .inl (valF_stable _ _), .inl (valF_stable _ _), .inl (valF_stable _ _), .inl (valF_stable _ _), .inl (valF_stable _ _), .inl (valF_stable _ _), .inl (valF_stable _ _), .inl (valF_stable _ _), .inl (valF_stable _ _), .inl (valF_stable _ _), .inl (valF_stable _ _), .inl (valF_stable _ _), trivial⟩
 ·exact fun _ _ _ _ _ => rfl
 ·exact ⟨fun _ _ _ h => h.elim, fun _ _ _ _ _ h => h.elim⟩
 ·refine And.intro (fun u W A hW hBW hd hv hr => ?_) ?_
  ·have t5 : A.eval (.tmp 5) = .pointer (some ⟨w.heap.size, 0, none⟩) := (hv 5 (by kernel_rfl)).trans (by kernel_rfl)
   clear hd hv
   have s5 := evalT t5
   clear t5
   refine fk_run ?_
   go_simp
  refine And.intro (fun u W A hW hBW hd hv hr => ?_) ?_
  ·have e0 : u 0 = .pointer (some ⟨w.heap.size, 1, none⟩) := hd 0 (by decide) (by kernel_rfl)
   have t15 : A.eval (.tmp 15) = .pointer (some ⟨w.heap.size, 1, none⟩) := (hv 15 (by kernel_rfl)).trans ((by kernel_rfl : slotV _ _ _ u 15 = u 0).trans e0)
   have hW1 := below_undrew hW
   have hcl : W.cell? ⟨w.heap.size, 1, none⟩ = some (.slice aos 18 cs) := by rw [hW1.cell (p := ⟨w.heap.size, 1, none⟩) (by show w.heap.size < w1.heap.size; omega)]; exact C1.out
   clear hd hv
   have s15 := evalT t15
   clear t15
   refine fk_run ?_
   go_simp
  refine And.intro (fun u W A hW hBW hd hv hr => ?_) ?_
  ·have e1 : u 1 = .slice aos 18 cs := hd 1 (by decide) (by kernel_rfl)
   have t16 : A.eval (.tmp 16) = .slice aos 18 cs := (hv 16 (by kernel_rfl)).trans ((by kernel_rfl : slotV _ _ _ u 16 = u 1).trans e1)
   clear hd hv
   have s16 := evalT t16
   clear t16
   refine fk_run ?_
   go_simp
  refine And.intro (fun u W A hW hBW hd hv hr => ?_) ?_
  ·have e2 : u 2 = .int .i64 18 := hd 2 (by decide) (by kernel_rfl)
   have t17 : A.eval (.tmp 17) = .int .i64 18 := (hv 17 (by kernel_rfl)).trans ((by kernel_rfl : slotV _ _ _ u 17 = u 2).trans e2)
   clear hd hv
   have s17 := evalT t17
   clear t17
   refine fk_run ?_
   go_simp
  refine And.intro (fun u W A hW hBW hd hv hr => ?_) ?_
  ·have e3 : u 3 = .bool false := hd 3 (by decide) (by kernel_rfl)
   have t18 : A.eval (.tmp 18) = .bool false := (hv 18 (by kernel_rfl)).trans ((by kernel_rfl : slotV _ _ _ u 18 = u 3).trans e3)
   clear hd hv
   have s18 := evalT t18
   clear t18
   refine fk_run ?_
   go_simp
  refine And.intro (fun u W A hW hBW hd hv hr => ?_) ?_
  ·have e4 : u 4 = .bool false := hd 4 (by decide) (by kernel_rfl)
   have t7 : A.eval (.tmp 7) = .int .i64 (lp : Int) := (hv 7 (by kernel_rfl)).trans (by kernel_rfl)
   clear hd hv
   have s7 := evalT t7
   clear t7
   refine Or.inl ⟨e4, ?_⟩
   refine fk_run ?_
   go_simp
  refine And.intro (fun u W A hW hBW hd hv hr => ?_) ?_
  ·have e4 : u 4 = .bool false := hd 4 (by decide) (by kernel_rfl)
   have e5 : u 5 = .int .i64 (lp : Int) := hd 5 (by decide) (by kernel_rfl)
   have t20 : A.eval (.tmp 20) = .int .i64 (lp : Int) := (hv 20 (by kernel_rfl)).trans ((by kernel_rfl : slotV _ _ _ u 20 = u 5).trans e5)
   clear hd hv
   have s20 := evalT t20
   clear t20
   refine Or.inl ⟨e4, ?_⟩
   refine fk_run ?_
   go_simp
  refine And.intro (fun u W A hW hBW hd hv hr => ?_) ?_
  ·have e4 : u 4 = .bool false := hd 4 (by decide) (by kernel_rfl)
   have e6 : u 6 = .bool false := hd 6 (by decide) (by kernel_rfl)
   have t19 : A.eval (.tmp 19) = .bool false := (hv 19 (by kernel_rfl)).trans ((by kernel_rfl : slotV _ _ _ u 19 = u 4).trans e4)
   have t21 : A.eval (.tmp 21) = .bool false := (hv 21 (by kernel_rfl)).trans ((by kernel_rfl : slotV _ _ _ u 21 = u 6).trans e6)
   clear hd hv
   have s19 := evalT t19
   have s21 := evalT t21
   clear t19 t21
   refine fk_run ?_
   go_simp
  refine And.intro (fun u W A hW hBW hd hv hr => ?_) ?_
  ·have e7 : u 7 = .bool false := hd 7 (by decide) (by kernel_rfl)
   have t22 : A.eval (.tmp 22) = .bool false := (hv 22 (by kernel_rfl)).trans ((by kernel_rfl : slotV _ _ _ u 22 = u 7).trans e7)
   clear hd hv
   have s22 := evalT t22
   clear t22
   refine fk_run ?_
   go_simp
  refine And.intro (fun u W A hW hBW hd hv hr => ?_) ?_
  ·have e8 : u 8 = .bool false := hd 8 (by decide) (by kernel_rfl)
   have t8 : A.eval (.tmp 8) = .func (.func 105) #[] #[] := (hv 8 (by kernel_rfl)).trans (by kernel_rfl)
   clear hd hv
   have s8 := evalT t8
   clear t8
   refine Or.inl ⟨e8, ?_⟩
   refine fk_run ?_
   go_simp
  refine And.intro (fun u W A hW hBW hd hv hr => ?_) ?_
  ·have e8 : u 8 = .bool false := hd 8 (by decide) (by kernel_rfl)
   have t5 : A.eval (.tmp 5) = .pointer (some ⟨w.heap.size, 0, none⟩) := (hv 5 (by kernel_rfl)).trans (by kernel_rfl)
   clear hd hv
   have s5 := evalT t5
   clear t5
   refine Or.inl ⟨e8, ?_⟩
   refine fk_run ?_
   go_simp
  refine And.intro (fun u W A hW hBW hd hv hr => ?_) ?_
  ·have e8 : u 8 = .bool false := hd 8 (by decide) (by kernel_rfl)
   have e10 : u 10 = .pointer (some ⟨w.heap.size, 1, none⟩) := hd 10 (by decide) (by kernel_rfl)
   have t25 : A.eval (.tmp 25) = .pointer (some ⟨w.heap.size, 1, none⟩) := (hv 25 (by kernel_rfl)).trans ((by kernel_rfl : slotV _ _ _ u 25 = u 10).trans e10)
   have hW1 := below_undrew hW
   have hcl : W.cell? ⟨w.heap.size, 1, none⟩ = some (.slice aos 18 cs) := by rw [hW1.cell (p := ⟨w.heap.size, 1, none⟩) (by show w.heap.size < w1.heap.size; omega)]; exact C1.out
   clear hd hv
   have s25 := evalT t25
   clear t25
   refine Or.inl ⟨e8, ?_⟩
   refine fk_run ?_
   go_simp
  refine And.intro (fun u W A hW hBW hd hv hr => ?_) ?_
  ·have e8 : u 8 = .bool false := hd 8 (by decide) (by kernel_rfl)
   have e9 : u 9 = .func (.func 105) #[] #[] := hd 9 (by decide) (by kernel_rfl)
   have e11 : u 11 = .slice aos 18 cs := hd 11 (by decide) (by kernel_rfl)
   have t24 : A.eval (.tmp 24) = .func (.func 105) #[] #[] := (hv 24 (by kernel_rfl)).trans ((by kernel_rfl : slotV _ _ _ u 24 = u 9).trans e9)
   have t26 : A.eval (.tmp 26) = .slice aos 18 cs := (hv 26 (by kernel_rfl)).trans ((by kernel_rfl : slotV _ _ _ u 26 = u 11).trans e11)
   have hW1 := below_undrew hW
   clear hd hv
   have s24 := evalT t24
   have s26 := evalT t26
   clear t24 t26
   refine Or.inl ⟨e8, ?_⟩
   refine fk_enter (f := 105) (args := #[.slice aos 18 cs]) (by go_simp) (fk_val ?_)
   have hod := sodd_calls _ sig W (HSG1.out.on hW1) HSS.out
   rw [HC.out] at hod
   exact hod
  refine And.intro (fun u W A hW hBW hd hv hr => ?_) ?_
  ·have e8 : u 8 = .bool false := hd 8 (by decide) (by kernel_rfl)
   have e12 : u 12 = .bool false := hd 12 (by decide) (by kernel_rfl)
   have t23 : A.eval (.tmp 23) = .bool false := (hv 23 (by kernel_rfl)).trans ((by kernel_rfl : slotV _ _ _ u 23 = u 8).trans e8)
   have t27 : A.eval (.tmp 27) = .bool false := (hv 27 (by kernel_rfl)).trans ((by kernel_rfl : slotV _ _ _ u 27 = u 12).trans e12)
   clear hd hv
   have s23 := evalT t23
   have s27 := evalT t27
   clear t23 t27
   refine fk_run ?_
   go_simp
  refine And.intro (fun u W A hW hBW hd hv hr => ?_) ?_
  ·have e13 : u 13 = .bool false := hd 13 (by decide) (by kernel_rfl)
   have t28 : A.eval (.tmp 28) = .bool false := (hv 28 (by kernel_rfl)).trans ((by kernel_rfl : slotV _ _ _ u 28 = u 13).trans e13)
   clear hd hv
   have s28 := evalT t28
   clear t28
   refine fk_run ?_
   go_simp
  refine And.intro (fun u W A hW hBW hd hv hr => ?_) ?_
  ·have e14 : u 14 = .bool false := hd 14 (by decide) (by kernel_rfl)
   have t8 : A.eval (.tmp 8) = .func (.func 105) #[] #[] := (hv 8 (by kernel_rfl)).trans (by kernel_rfl)
   clear hd hv
   have s8 := evalT t8
   clear t8
   refine Or.inl ⟨e14, ?_⟩
   refine fk_run ?_
   go_simp
  refine And.intro (fun u W A hW hBW hd hv hr => ?_) ?_
  ·have e14 : u 14 = .bool false := hd 14 (by decide) (by kernel_rfl)
   have t5 : A.eval (.tmp 5) = .pointer (some ⟨w.heap.size, 0, none⟩) := (hv 5 (by kernel_rfl)).trans (by kernel_rfl)
   clear hd hv
   have s5 := evalT t5
   clear t5
   refine Or.inl ⟨e14, ?_⟩
   refine fk_run ?_
   go_simp
  refine And.intro (fun u W A hW hBW hd hv hr => ?_) ?_
  ·have e14 : u 14 = .bool false := hd 14 (by decide) (by kernel_rfl)
   have e16 : u 16 = .pointer (some ⟨w.heap.size, 2, none⟩) := hd 16 (by decide) (by kernel_rfl)
   have t31 : A.eval (.tmp 31) = .pointer (some ⟨w.heap.size, 2, none⟩) := (hv 31 (by kernel_rfl)).trans ((by kernel_rfl : slotV _ _ _ u 31 = u 16).trans e16)
   have hW1 := below_undrew hW
   have hcl : W.cell? ⟨w.heap.size, 2, none⟩ = some (.slice aop lp cp) := by rw [hW1.cell (p := ⟨w.heap.size, 2, none⟩) (by show w.heap.size < w1.heap.size; omega)]; exact C2.out
   clear hd hv
   have s31 := evalT t31
   clear t31
   refine Or.inl ⟨e14, ?_⟩
   refine fk_run ?_
   go_simp
  refine And.intro (fun u W A hW hBW hd hv hr => ?_) ?_
  ·have e14 : u 14 = .bool false := hd 14 (by decide) (by kernel_rfl)
   have e15 : u 15 = .func (.func 105) #[] #[] := hd 15 (by decide) (by kernel_rfl)
   have e17 : u 17 = .slice aop lp cp := hd 17 (by decide) (by kernel_rfl)
   have t30 : A.eval (.tmp 30) = .func (.func 105) #[] #[] := (hv 30 (by kernel_rfl)).trans ((by kernel_rfl : slotV _ _ _ u 30 = u 15).trans e15)
   have t32 : A.eval (.tmp 32) = .slice aop lp cp := (hv 32 (by kernel_rfl)).trans ((by kernel_rfl : slotV _ _ _ u 32 = u 17).trans e17)
   have hW1 := below_undrew hW
   clear hd hv
   have s30 := evalT t30
   have s32 := evalT t32
   clear t30 t32
   refine Or.inl ⟨e14, ?_⟩
   refine fk_enter (f := 105) (args := #[.slice aop lp cp]) (by go_simp) (fk_val ?_)
   have hod := sodd_calls _ path W (HPT1.out.on hW1) HSP.out
   rw [HD.out] at hod
   exact hod
  refine And.intro (fun u W A hW hBW hd hv hr => ?_) ?_
  ·have e14 : u 14 = .bool false := hd 14 (by decide) (by kernel_rfl)
   have e18 : u 18 = .bool false := hd 18 (by decide) (by kernel_rfl)
   have t29 : A.eval (.tmp 29) = .bool false := (hv 29 (by kernel_rfl)).trans ((by kernel_rfl : slotV _ _ _ u 29 = u 14).trans e14)
   have t33 : A.eval (.tmp 33) = .bool false := (hv 33 (by kernel_rfl)).trans ((by kernel_rfl : slotV _ _ _ u 33 = u 18).trans e18)
   clear hd hv
   have s29 := evalT t29
   have s33 := evalT t33
   clear t29 t33
   refine fk_run ?_
   go_simp
  refine And.intro (fun u W A hW hBW hd hv hr => ?_) ?_
  ·have e19 : u 19 = .bool false := hd 19 (by decide) (by kernel_rfl)
   have t34 : A.eval (.tmp 34) = .bool false := (hv 34 (by kernel_rfl)).trans ((by kernel_rfl : slotV _ _ _ u 34 = u 19).trans e19)
   clear hd hv
   have s34 := evalT t34
   clear t34
   refine fk_run ?_
   go_simp
  refine And.intro (fun u W A hW hBW hd hv hr => ?_) ?_
  ·have e20 : u 20 = .bool false := hd 20 (by decide) (by kernel_rfl)
   have t5 : A.eval (.tmp 5) = .pointer (some ⟨w.heap.size, 0, none⟩) := (hv 5 (by kernel_rfl)).trans (by kernel_rfl)
   clear hd hv
   have s5 := evalT t5
   clear t5
   refine Or.inl ⟨e20, ?_⟩
   refine fk_run ?_
   go_simp
  refine And.intro (fun u W A hW hBW hd hv hr => ?_) ?_
  ·have e20 : u 20 = .bool false := hd 20 (by decide) (by kernel_rfl)
   have e21 : u 21 = .pointer (some ⟨w.heap.size, 0, none⟩) := hd 21 (by decide) (by kernel_rfl)
   have t36 : A.eval (.tmp 36) = .pointer (some ⟨w.heap.size, 0, none⟩) := (hv 36 (by kernel_rfl)).trans ((by kernel_rfl : slotV _ _ _ u 36 = u 21).trans e21)
   have hW1 := below_undrew hW
   have hcl : W.cell? ⟨w.heap.size, 0, none⟩ = some (.int .i64 idx) := by rw [hW1.cell (p := ⟨w.heap.size, 0, none⟩) (by show w.heap.size < w1.heap.size; omega)]; exact C0.out
   clear hd hv
   have s36 := evalT t36
   clear t36
   refine Or.inl ⟨e20, ?_⟩
   refine fk_run ?_
   go_simp
  refine And.intro (fun u W A hW hBW hd hv hr => ?_) ?_
  ·have e20 : u 20 = .bool false := hd 20 (by decide) (by kernel_rfl)
   have e22 : u 22 = .int .i64 idx := hd 22 (by decide) (by kernel_rfl)
   have t37 : A.eval (.tmp 37) = .int .i64 idx := (hv 37 (by kernel_rfl)).trans ((by kernel_rfl : slotV _ _ _ u 37 = u 22).trans e22)
   clear hd hv
   have s37 := evalT t37
   clear t37
   refine Or.inl ⟨e20, ?_⟩
   refine fk_run ?_
   go_simp
  refine And.intro (fun u W A hW hBW hd hv hr => ?_) ?_
  ·have e20 : u 20 = .bool false := hd 20 (by decide) (by kernel_rfl)
   have e23 : u 23 = .bool false := hd 23 (by decide) (by kernel_rfl)
   have t35 : A.eval (.tmp 35) = .bool false := (hv 35 (by kernel_rfl)).trans ((by kernel_rfl : slotV _ _ _ u 35 = u 20).trans e20)
   have t38 : A.eval (.tmp 38) = .bool false := (hv 38 (by kernel_rfl)).trans ((by kernel_rfl : slotV _ _ _ u 38 = u 23).trans e23)
   clear hd hv
   have s35 := evalT t35
   have s38 := evalT t38
   clear t35 t38
   refine fk_run ?_
   go_simp
  refine And.intro (fun u W A hW hBW hd hv hr => ?_) ?_
  ·have e24 : u 24 = .bool false := hd 24 (by decide) (by kernel_rfl)
   have t39 : A.eval (.tmp 39) = .bool false := (hv 39 (by kernel_rfl)).trans ((by kernel_rfl : slotV _ _ _ u 39 = u 24).trans e24)
   clear hd hv
   have s39 := evalT t39
   clear t39
   refine fk_run ?_
   go_simp
  refine And.intro (fun u W A hW hBW hd hv hr => ?_) ?_
  ·have e25 : u 25 = .bool false := hd 25 (by decide) (by kernel_rfl)
   have t5 : A.eval (.tmp 5) = .pointer (some ⟨w.heap.size, 0, none⟩) := (hv 5 (by kernel_rfl)).trans (by kernel_rfl)
   clear hd hv
   have s5 := evalT t5
   clear t5
   refine Or.inl ⟨e25, ?_⟩
   refine fk_run ?_
   go_simp
  refine And.intro (fun u W A hW hBW hd hv hr => ?_) ?_
  ·have e25 : u 25 = .bool false := hd 25 (by decide) (by kernel_rfl)
   have e26 : u 26 = .pointer (some ⟨w.heap.size, 0, none⟩) := hd 26 (by decide) (by kernel_rfl)
   have t41 : A.eval (.tmp 41) = .pointer (some ⟨w.heap.size, 0, none⟩) := (hv 41 (by kernel_rfl)).trans ((by kernel_rfl : slotV _ _ _ u 41 = u 26).trans e26)
   have hW1 := below_undrew hW
   have hcl : W.cell? ⟨w.heap.size, 0, none⟩ = some (.int .i64 idx) := by rw [hW1.cell (p := ⟨w.heap.size, 0, none⟩) (by show w.heap.size < w1.heap.size; omega)]; exact C0.out
   clear hd hv
   have s41 := evalT t41
   clear t41
   refine Or.inl ⟨e25, ?_⟩
   refine fk_run ?_
   go_simp
  refine And.intro (fun u W A hW hBW hd hv hr => ?_) ?_
  ·have e25 : u 25 = .bool false := hd 25 (by decide) (by kernel_rfl)
   have t7 : A.eval (.tmp 7) = .int .i64 (lp : Int) := (hv 7 (by kernel_rfl)).trans (by kernel_rfl)
   clear hd hv
   have s7 := evalT t7
   clear t7
   refine Or.inl ⟨e25, ?_⟩
   refine fk_run ?_
   go_simp
  refine And.intro (fun u W A hW hBW hd hv hr => ?_) ?_
  ·have e25 : u 25 = .bool false := hd 25 (by decide) (by kernel_rfl)
   have e28 : u 28 = .int .i64 (lp : Int) := hd 28 (by decide) (by kernel_rfl)
   have t43 : A.eval (.tmp 43) = .int .i64 (lp : Int) := (hv 43 (by kernel_rfl)).trans ((by kernel_rfl : slotV _ _ _ u 43 = u 28).trans e28)
   clear hd hv
   have s43 := evalT t43
   clear t43
   refine Or.inl ⟨e25, ?_⟩
   refine fk_run ?_
   go_simp
   exact wrap_powI lp (by omega)
  refine And.intro (fun u W A hW hBW hd hv hr => ?_) ?_
  ·have e25 : u 25 = .bool false := hd 25 (by decide) (by kernel_rfl)
   have e27 : u 27 = .int .i64 idx := hd 27 (by decide) (by kernel_rfl)
   have e29 : u 29 = .int .i64 ((2 ^ lp : Nat) : Int) := hd 29 (by decide) (by kernel_rfl)
   have t42 : A.eval (.tmp 42) = .int .i64 idx := (hv 42 (by kernel_rfl)).trans ((by kernel_rfl : slotV _ _ _ u 42 = u 27).trans e27)
   have t44 : A.eval (.tmp 44) = .int .i64 ((2 ^ lp : Nat) : Int) := (hv 44 (by kernel_rfl)).trans ((by kernel_rfl : slotV _ _ _ u 44 = u 29).trans e29)
   clear hd hv
   have s42 := evalT t42
   have s44 := evalT t44
   clear t42 t44
   refine Or.inl ⟨e25, ?_⟩
   refine fk_run ?_
   go_simp
  refine And.intro (fun u W A hW hBW hd hv hr => ?_) ?_
  ·have e25 : u 25 = .bool false := hd 25 (by decide) (by kernel_rfl)
   have e30 : u 30 = .bool false := hd 30 (by decide) (by kernel_rfl)
   have t40 : A.eval (.tmp 40) = .bool false := (hv 40 (by kernel_rfl)).trans ((by kernel_rfl : slotV _ _ _ u 40 = u 25).trans e25)
   have t45 : A.eval (.tmp 45) = .bool false := (hv 45 (by kernel_rfl)).trans ((by kernel_rfl : slotV _ _ _ u 45 = u 30).trans e30)
   clear hd hv
   have s40 := evalT t40
   have s45 := evalT t45
   clear t40 t45
   refine fk_run ?_
   go_simp
  exact trivial
 intro u w2 hb2 hk2 hf2
 have e31 : u 31 = .bool false := hf2 31 (by decide) (by decide)
 have hb2' := below_undrew hb2
 have H2 := Lib.hid (HB1.out.trans (hb2'.mono HB1.out.size))
 have HX2 : Hid (w2.heap[w.heap.size]? = some (.cells #[.int .i64 idx, .slice aos 18 cs, .slice aop lp cp] 25 (0, 0))) := Lib.hid ((hb2'.block _ hz1).trans HX1.out)
 have hz2 : w.heap.size < w2.heap.size := Nat.lt_of_lt_of_le hz1 hb2'.size
 clear hf2 hb2 hk2 hb2' C0 C1 C2 HX1 HSG1 HPT1 HB1 hz1
 simp only [List.take, List.drop, wpList, lexPut, Nat.zero_add, Nat.reduceAdd, e31, Act.put, List.setIfInBounds_toArray, List.set_cons_succ, List.set_cons_zero]
 clear e31
 go_wp2_with fail
 refine (sdigits_calls m _).mono ?_
 rintro e w' ⟨rfl, rfl⟩
 go_wp2_with fail
 obtain ⟨hz3, hE3, hM3, hb3⟩ := heap_two w2 (.cells #[.slice none 0 0] 22) (.cells #[.string m] 9)
 try simp only [World.size_alloc]
 obtain ⟨eb, heb⟩ : ∃ eb, eb = w2.heap.size := ⟨_, rfl⟩
 rw [← heb] at hE3 hM3
 rw [← heb]
 have heb1 : w.heap.size < eb := by omega
 have hlo1 : eb + 2 ≤ ((w2.alloc (.cells #[.slice none 0 0] 22)).alloc (.cells #[.string m] 9)).heap.size := by omega
 have HBW1 : Hid (Below w.heap.size w ((w2.alloc (.cells #[.slice none 0 0] 22)).alloc (.cells #[.string m] 9))) := Lib.hid (H2.out.trans (hb3.mono (by omega)))
 have HXW : Hid (((w2.alloc (.cells #[.slice none 0 0] 22)).alloc (.cells #[.string m] 9)).heap[w.heap.size]? = some (.cells #[.int .i64 idx, .slice aos 18 cs, .slice aop lp cp] 25 (0, 0))) := Lib.hid ((hb3.block _ hz2).trans HX2.out)
 generalize hgW : (w2.alloc (.cells #[.slice none 0 0] 22)).alloc (.cells #[.string m] 9) = W1 at *
 have HM3 := Lib.hid hM3
 have h0 : EndAt eb 22 W1 [] W1 := ⟨_, hE3, Own.nil _ _, Below.refl _ _⟩
 clear hgW hz3 hE3 hM3 hb3 heb hz2 H2 HX2
 have HT1 := Lib.hid (HT.out.on HBW1.out)
 have hseq := digits_stops 4 (by omega) (eb + 1) eb m hm W1 (by omega) (by rw [cell_of_row _ _ 0 _ _ _ HM3.out]; rfl) (by omega) HT1.out
 have hfrom := endAt_from (T := 22) (W1 := W1) (ob := eb) (B := W1.heap.size) (fun pre : List (Fin 18) => pre.map fun x => chainS (sig.getD x.val ByteArray.empty) (15 - digA m x.val)) (by omega) (by omega)
 have hKb : ∀ (W : World) (l : Nat) (o o' : Obj), W1.heap.size ≤ l → W.heap[l]? = some o → o.isCells = false → o.isWalk = false → Below eb W (W.putObj l o') := belowK_b (by omega)
 refine (wpIn_wide (n := 5)).1 ?_
 refine' wpIn_rangeFunc_ownF (F := Fence.wide) (n := 5) rfl (by omega) (gf := 109) (lb := #[.pointer (some ⟨eb + 1, 0, none⟩)]) rfl trivial (enters_of Tryz.func109 (by kernel_rfl) rfl)
  hseq ?hkt ?hkb ?hb0 ?hps (fun pre W => EndAt eb 22 W1 (pre.map fun x => chainS (sig.getD x.val ByteArray.empty) (15 - digA m x.val)) W)
  (fun c pre W => False) ?hI ?hIx ?h00 _ ?assign ?body ?done ?stop
 case hkt => exact belowK_t
 case hkb => exact hKb
 case hb0 => exact Below.refl _ _
 case hps => exact fun _ => rfl
 case hI => exact hfrom
 case hIx => exact fun c _ _ _ _ h _ _ => h.elim
 case h00 => exact h0
 case assign =>
  intro l x W K hK
  gi_wp2
  exact hK
 case stop =>
  rintro D c pre W hD ⟨k, hk, rfl⟩ hx hK
  exact hx.elim
 case body =>
  rintro l pre x WB ⟨v, hv1, hv2, hv3⟩ hlen
  obtain ⟨k, hk⟩ := x
  have hkk : k ≤ 18 := by omega
  have hobW : eb < WB.heap.size := (Array.getElem?_eq_some_iff.1 hv1).1
  have hacc : (pre.map fun x : Fin 18 => chainS (sig.getD x.val ByteArray.empty) (15 - digA m x.val)).length ≤ 18 := by rw [List.length_map]; omega
  have hdle : digA m k ≤ 15 := dig_le m k
  have hs16 := HS16.out k hk
  have HV1 := Lib.hid hv1
  have HV2 := Lib.hid hv2
  have HV3 := Lib.hid hv3
  have HMP : Hid ((pre ++ [(⟨k, hk⟩ : Fin 18)]).map (fun x => chainS (sig.getD x.val ByteArray.empty) (15 - digA m x.val)) = pre.map (fun x : Fin 18 => chainS (sig.getD x.val ByteArray.empty) (15 - digA m x.val)) ++ [chainS (sig.getD k ByteArray.empty) (15 - digA m k)]) := Lib.hid (by simp)
  have HBW : Hid (Below w.heap.size w WB) := Lib.hid (HBW1.out.trans (hv3.mono (by omega)))
  have HXB : Hid (WB.heap[w.heap.size]? = some (.cells #[.int .i64 idx, .slice aos 18 cs, .slice aop lp cp] 25 (0, 0))) := Lib.hid ((hv3.block _ heb1).trans HXW.out)
  obtain ⟨ao', c', he', hlc', hmx', hcells'⟩ := HSG.out
  have hle' := HLS0.out
  obtain ⟨b, o, rfl, hblt, hcb⟩ := hcells' k (by omega)
  simp only [Value.slice.injEq] at he'
  obtain ⟨hao, h18, hcc⟩ := he'
  clear h18 hcc
  have HCB : Hid (WB.cell? ⟨b, o + k, none⟩ = some (.string (sig.getD k ByteArray.empty))) := Lib.hid (by rw [HBW.out.cell (p := ⟨b, o + k, none⟩) hblt]; exact hcb)
  have hbw : b < WB.heap.size := Nat.lt_of_lt_of_le hblt HBW.out.size
  have hbeb : b < eb := by omega
  clear hv1 hv2 hv3 hlc' hmx' hcells' hcb hle'
  subst hao
  generalize sig.getD k ByteArray.empty = s at *
  generalize pre.map (fun x : Fin 18 => chainS (sig.getD x.val ByteArray.empty) (15 - digA m x.val)) = acc at *
  generalize digA m k = d at *
  have hk18 : (k : Int) < 18 := by omega
  gi_wp2_with fail
  refine wpIn_region_res 12 (eb) (fun ii u => [OwnF (eb + 1) (acc), valF (.pointer (some ⟨w.heap.size, 1, none⟩)), valF (.slice (some ⟨b, o, none⟩) 18 cs), valF (.int .i64 (k : Int)), valF (.pointer (some ⟨b, o + k, none⟩)), valF (.string s), valF (.int .i64 (d : Int)), valF (.int .i64 (15 - (d : Int))), valF (.string (chainS s (15 - d))), OwnF (eb + 1) ([chainS s (15 - d)]), OwnF (eb + 1) (acc ++ [chainS s (15 - d)]), MemK eb (.cells #[u 10] 22 (0, 0))].getD ii anyF) (fun jj ii => (jj == 10 && ii == 0)) (fun jj bb => (jj = 0 ∧ v.ownBlock = some bb) ∨ (jj = 11 ∧ bb = eb)) (by kernel_rfl) (by kernel_rfl) (fun ⟨_, _, h⟩ => h) (by kernel_rfl) (by kernel_rfl) (by kernel_rfl) (by kernel_rfl) (Nat.le_of_lt hobW) ?_ ?_ ?_ ?_ ?_
  ·intro ii u hii
   refine AllKStable.at ?_ ii
   exact ⟨.inl (ownF_st _ _ _), .inl (valF_stable _ _), .inl (valF_stable _ _), .inl (valF_stable _ _), .inl (valF_stable _ _), .inl (valF_stable _ _), .inl (valF_stable _ _), .inl (valF_stable _ _), .inl (valF_stable _ _), .inl (ownF_st _ _ _), .inl (ownF_st _ _ _), .inl (memK_st _ _ _), trivial⟩
  ·intro ii u u2 hii hx
   match ii, hii, hx with
   | 0, _, _ => rfl
   | 1, _, _ => rfl
   | 2, _, _ => rfl
   | 3, _, _ => rfl
   | 4, _, _ => rfl
   | 5, _, _ => rfl
   | 6, _, _ => rfl
   | 7, _, _ => rfl
   | 8, _, _ => rfl
   | 9, _, _ => rfl
   | 10, _, _ => rfl
   | 11, _, hx =>
    have h10 := hx 10 (by decide) (by kernel_rfl)
    show MemK eb (.cells #[u 10] 22 (0, 0)) = MemK eb (.cells #[u2 10] 22 (0, 0))
    rw [h10]
   | m + 12, hm, _ => exact absurd hm (by omega)
  ·refine ⟨fun j b _ h => ?_, fun j j2 b _ _ h h2 => ?_⟩
   ·rcases h with ⟨_, h⟩ | ⟨_, h⟩
    ·have := own_block HV2.out b h; omega
    ·omega
   ·rcases h with ⟨_, h⟩ | ⟨_, h⟩ <;> rcases h2 with ⟨_, h2⟩ | ⟨_, h2⟩
    ·omega
    ·have := own_block HV2.out b h; omega
    ·have := own_block HV2.out b h2; omega
    ·omega
  ·refine And.intro (fun u W A hW hBW hd hv hr => ?_) ?_
   ·have t9 : A.eval (.tmp 9) = .pointer (some ⟨eb, 0, none⟩) := (hv 9 (by kernel_rfl)).trans (by kernel_rfl)
    have hW1 := below_undrew hW
    have hsz : WB.heap.size ≤ W.heap.size := hW1.size
    have ho : Own (eb + 1) W v acc := ownF_st (eb + 1) eb acc _ W v hW1 (fun b hb => hr 0 b (by decide) (.inl rfl) (.inl ⟨rfl, hb⟩)) HV2.out
    have hcl : W.cell? ⟨eb, 0, none⟩ = some v := by rw [cell_of_row W eb 0 _ _ _ ((hr 11 eb (by decide) (.inr (by kernel_rfl)) (.inr ⟨rfl, rfl⟩)).trans HV1.out)]; rfl
    clear hd hv
    have s9 := evalT t9
    clear t9
    exact fk_load_own (v := v) (by go_simp) ho (fun b hb => .inr (.inl ⟨rfl, hb⟩))
   refine And.intro (fun u W A hW hBW hd hv hr => ?_) ?_
   ·have t5 : A.eval (.tmp 5) = .pointer (some ⟨w.heap.size, 0, none⟩) := (hv 5 (by kernel_rfl)).trans (by kernel_rfl)
    clear hd hv
    have s5 := evalT t5
    clear t5
    refine fk_run ?_
    go_simp
   refine And.intro (fun u W A hW hBW hd hv hr => ?_) ?_
   ·have e1 : u 1 = .pointer (some ⟨w.heap.size, 1, none⟩) := hd 1 (by decide) (by kernel_rfl)
    have t52 : A.eval (.tmp 52) = .pointer (some ⟨w.heap.size, 1, none⟩) := (hv 52 (by kernel_rfl)).trans ((by kernel_rfl : slotV _ _ _ u 52 = u 1).trans e1)
    have hW1 := below_undrew hW
    have hsz : WB.heap.size ≤ W.heap.size := hW1.size
    have hcl : W.cell? ⟨w.heap.size, 1, none⟩ = some (.slice (some ⟨b, o, none⟩) 18 cs) := by rw [hW1.cell (p := ⟨w.heap.size, 1, none⟩) (by show w.heap.size < eb; omega), cell_of_row _ _ 1 _ _ _ HXB.out]; rfl
    clear hd hv
    have s52 := evalT t52
    clear t52
    refine fk_run ?_
    go_simp
   refine And.intro (fun u W A hW hBW hd hv hr => ?_) ?_
   ·have t10 : A.eval (.tmp 10) = .int .i64 (k : Int) := (hv 10 (by kernel_rfl)).trans (by kernel_rfl)
    clear hd hv
    have s10 := evalT t10
    clear t10
    refine fk_run ?_
    go_simp
   refine And.intro (fun u W A hW hBW hd hv hr => ?_) ?_
   ·have e2 : u 2 = .slice (some ⟨b, o, none⟩) 18 cs := hd 2 (by decide) (by kernel_rfl)
    have e3 : u 3 = .int .i64 (k : Int) := hd 3 (by decide) (by kernel_rfl)
    have t53 : A.eval (.tmp 53) = .slice (some ⟨b, o, none⟩) 18 cs := (hv 53 (by kernel_rfl)).trans ((by kernel_rfl : slotV _ _ _ u 53 = u 2).trans e2)
    have t54 : A.eval (.tmp 54) = .int .i64 (k : Int) := (hv 54 (by kernel_rfl)).trans ((by kernel_rfl : slotV _ _ _ u 54 = u 3).trans e3)
    clear hd hv
    have s53 := evalT t53
    have s54 := evalT t54
    clear t53 t54
    refine fk_run ?_
    go_simp
   refine And.intro (fun u W A hW hBW hd hv hr => ?_) ?_
   ·have e4 : u 4 = .pointer (some ⟨b, o + k, none⟩) := hd 4 (by decide) (by kernel_rfl)
    have t55 : A.eval (.tmp 55) = .pointer (some ⟨b, o + k, none⟩) := (hv 55 (by kernel_rfl)).trans ((by kernel_rfl : slotV _ _ _ u 55 = u 4).trans e4)
    have hW1 := below_undrew hW
    have hsz : WB.heap.size ≤ W.heap.size := hW1.size
    have hcl : W.cell? ⟨b, o + k, none⟩ = some (.string s) := by rw [hW1.cell (p := ⟨b, o + k, none⟩) hbeb]; exact HCB.out
    clear hd hv
    have s55 := evalT t55
    clear t55
    refine fk_run ?_
    go_simp
   refine And.intro (fun u W A hW hBW hd hv hr => ?_) ?_
   ·have t11 : A.eval (.tmp 11) = .int .i64 (d : Int) := (hv 11 (by kernel_rfl)).trans (by kernel_rfl)
    clear hd hv
    have s11 := evalT t11
    clear t11
    refine fk_run ?_
    go_simp
   refine And.intro (fun u W A hW hBW hd hv hr => ?_) ?_
   ·have e6 : u 6 = .int .i64 (d : Int) := hd 6 (by decide) (by kernel_rfl)
    have t57 : A.eval (.tmp 57) = .int .i64 (d : Int) := (hv 57 (by kernel_rfl)).trans ((by kernel_rfl : slotV _ _ _ u 57 = u 6).trans e6)
    clear hd hv
    have s57 := evalT t57
    clear t57
    refine fk_run ?_
    go_simp
    exact IntWalk.i64_in _ (by omega)
   refine And.intro (fun u W A hW hBW hd hv hr => ?_) ?_
   ·have e5 : u 5 = .string s := hd 5 (by decide) (by kernel_rfl)
    have e7 : u 7 = .int .i64 (15 - (d : Int)) := hd 7 (by decide) (by kernel_rfl)
    have t56 : A.eval (.tmp 56) = .string s := (hv 56 (by kernel_rfl)).trans ((by kernel_rfl : slotV _ _ _ u 56 = u 5).trans e5)
    have t58 : A.eval (.tmp 58) = .int .i64 (15 - (d : Int)) := (hv 58 (by kernel_rfl)).trans ((by kernel_rfl : slotV _ _ _ u 58 = u 7).trans e7)
    have hW1 := below_undrew hW
    have hsz : WB.heap.size ≤ W.heap.size := hW1.size
    clear hd hv
    have s56 := evalT t56
    have s58 := evalT t58
    clear t56 t58
    refine fk_enter (f := 80) (args := #[.string s, .int .i64 (15 - (d : Int))]) (by go_simp) (fk_val ?_)
    have hch := chain_calls s (by omega) (15 - (d : Int)) W (HT.out.on (HBW.out.trans (hW1.mono (by omega))))
    rw [show (15 - (d : Int)) = ((15 - d : Nat) : Int) by omega, chainN_nat (15 - d) (by omega)] at hch
    rw [show (15 - (d : Int)) = ((15 - d : Nat) : Int) by omega]
    exact hch
   refine And.intro (fun u W A hW hBW hd hv hr => ?_) ?_
   ·have e8 : u 8 = .string (chainS s (15 - d)) := hd 8 (by decide) (by kernel_rfl)
    have t59 : A.eval (.tmp 59) = .string (chainS s (15 - d)) := (hv 59 (by kernel_rfl)).trans ((by kernel_rfl : slotV _ _ _ u 59 = u 8).trans e8)
    have hW1 := below_undrew hW
    have hsz : WB.heap.size ≤ W.heap.size := hW1.size
    clear hd hv
    have s59 := evalT t59
    clear t59
    exact fk_step (v := .slice (some ⟨W.heap.size, 0, none⟩) 1 1) (w' := W.alloc (.cells #[.string (chainS s (15 - d))] 9)) (by go_simp) (fk_own_of (by omega) (own_lit W [chainS s (15 - d)] (show 1 ≤ maxLen by decide)) ((Below.refl _ _).alloc (Nat.le_refl _) _))
   refine And.intro (fun u W A hW hBW hd hv hr => ?_) ?_
   ·have e0 : Own (eb + 1) W (u 0) (acc) := hd 0 (by decide) (by kernel_rfl)
    have e9 : Own (eb + 1) W (u 9) ([chainS s (15 - d)]) := hd 9 (by decide) (by kernel_rfl)
    have t51 : A.eval (.tmp 51) = u 0 := (hv 51 (by kernel_rfl)).trans (by kernel_rfl)
    have t60 : A.eval (.tmp 60) = u 9 := (hv 60 (by kernel_rfl)).trans (by kernel_rfl)
    have hW1 := below_undrew hW
    have hsz : WB.heap.size ≤ W.heap.size := hW1.size
    clear hd hv
    exact fk_append (.tmp 51) (.tmp 60) rfl t51 t60 e0 e9.strc (by omega) (by simp; omega) (fun c hc => .inl ⟨0, by decide, by decide, hc⟩)
   refine And.intro (fun u W A hW hBW hd hv hr => ?_) ?_
   ·have e10 : Own (eb + 1) W (u 10) (acc ++ [chainS s (15 - d)]) := hd 10 (by decide) (by kernel_rfl)
    have t61 : A.eval (.tmp 61) = u 10 := (hv 61 (by kernel_rfl)).trans (by kernel_rfl)
    have t9 : A.eval (.tmp 9) = .pointer (some ⟨eb, 0, none⟩) := (hv 9 (by kernel_rfl)).trans (by kernel_rfl)
    have hW1 := below_undrew hW
    have hsz : WB.heap.size ≤ W.heap.size := hW1.size
    have hob5 := (hr 11 eb (by decide) (.inl rfl) (.inr ⟨rfl, rfl⟩)).trans HV1.out
    clear hd hv
    have s61 := evalT t61
    have s9 := evalT t9
    clear t61 t9
    have hcl : W.cell? ⟨eb, 0, none⟩ = some v := by rw [cell_of_row W eb 0 _ _ _ hob5]; rfl
    have hfz : W.frozen? ⟨eb, 0, none⟩ = false := by simp [World.frozen?, hob5]
    obtain ⟨ao9, n9, c9, hv9⟩ := own_form e10
    change fkindAt _ _ _ _ _ _ (MemK eb (.cells #[u 10] 22 (0, 0)))
    rw [hv9] at s61 ⊢
    refine fk_store (b := eb) (i := 0) (v := .slice ao9 n9 c9) (by go_simp) (by omega) (.inr (.inr ⟨rfl, rfl⟩)) ?_
    rw [heap_set_same W eb 0 _ _ _ _ hob5]; rfl
   exact trivial
  intro u W' hb' hk' hf'
  have e10 : Own (eb + 1) W' (u 10) (acc ++ [chainS s (15 - d)]) := hf' 10 (by decide) (by decide)
  have e11 : W'.heap[eb]? = some (.cells #[u 10] 22 (0, 0)) := hf' 11 (by decide) (by decide)
  have hb1 := below_undrew hb'
  clear hf' hb'
  simp only [List.drop, wpList]
  refine ⟨keeps_of hb1.size (S := fun b => v.ownBlock = some b ∨ b = eb) (fun b hb hS => hk' b hb (fun j _ h => ?_)) (fun b hS => ?_), hb1, u 10, e11, by rw [HMP.out]; exact e10, HV3.out.trans hb1⟩
  ·rcases h with ⟨_, h⟩ | ⟨_, h⟩
   ·exact hS (.inl h)
   ·exact hS (.inr h)
  ·rcases hS with h | h
   ·exact own_cells HV2.out h
   ·exact ⟨_, _, _, by rw [h]; exact HV1.out⟩
 case done =>
  rintro D xs WD hD rfl ⟨v, hv1, hv2, hv3⟩ hK
  rw [ends_map] at hv2
  obtain ⟨aov, nv, cv, rfl⟩ := own_form hv2
  have hobW : eb < WD.heap.size := (Array.getElem?_eq_some_iff.1 hv1).1
  have HV2 := Lib.hid hv2.strc
  have HKD := Lib.hid hK
  have HBW : Hid (Below w.heap.size w WD) := Lib.hid (HBW1.out.trans (hv3.mono (by omega)))
  have HXD : Hid (WD.heap[w.heap.size]? = some (.cells #[.int .i64 idx, .slice aos 18 cs, .slice aop lp cp] 25 (0, 0))) := Lib.hid ((hv3.block _ heb1).trans HXW.out)
  have C0 : Hid (WD.cell? ⟨w.heap.size, 0, none⟩ = some (.int .i64 idx)) := Lib.hid (by rw [cell_of_row _ _ 0 _ _ _ HXD.out]; rfl)
  have C1 : Hid (WD.cell? ⟨w.heap.size, 1, none⟩ = some (.slice aos 18 cs)) := Lib.hid (by rw [cell_of_row _ _ 1 _ _ _ HXD.out]; rfl)
  have C2 : Hid (WD.cell? ⟨w.heap.size, 2, none⟩ = some (.slice aop lp cp)) := Lib.hid (by rw [cell_of_row _ _ 2 _ _ _ HXD.out]; rfl)
  have C9 : Hid (WD.cell? ⟨eb, 0, none⟩ = some (.slice aov nv cv)) := Lib.hid (by rw [cell_of_row _ _ 0 _ _ _ hv1]; rfl)
  have hzD : w.heap.size < WD.heap.size := by omega
  clear hv1 hv2 hv3 hK
  go_wp2_with fail
  refine wp_normal ?_
  refine wp_region_res 11 (WD.heap.size) (fun ii u => [valF (.string pub), valF (.int .i64 (lp : Int)), valF (.int .i64 ((2 ^ lp : Nat) : Int)), valF (.pointer (some ⟨w.heap.size, 0, none⟩)), valF (.int .i64 idx), valF (.slice aov nv cv), valF (.string (dg (sealEnds m sig))), valF (.pointer (some ⟨w.heap.size, 2, none⟩)), valF (.slice aop lp cp), valF (.bool (checkT pub ((2 ^ lp : Nat) : Int) idx (dg (sealEnds m sig)) path)), valF (.bool (checkT pub ((2 ^ lp : Nat) : Int) idx (dg (sealEnds m sig)) path))].getD ii anyF) (fun jj ii => false) (fun jj bb => False) (by kernel_rfl) (by kernel_rfl) (by kernel_rfl) (by kernel_rfl) (by kernel_rfl) (Nat.le_refl _) ?_ ?_ ?_ ?_ ?_
  ·intro ii u hii
   refine AllKStable.at ?_ ii
   exact ⟨.inl (valF_stable _ _), .inl (valF_stable _ _), .inl (valF_stable _ _), .inl (valF_stable _ _), .inl (valF_stable _ _), .inl (valF_stable _ _), .inl (valF_stable _ _), .inl (valF_stable _ _), .inl (valF_stable _ _), .inl (valF_stable _ _), .inl (valF_stable _ _), trivial⟩
  ·exact fun _ _ _ _ _ => rfl
  ·exact ⟨fun _ _ _ h => h.elim, fun _ _ _ _ _ h => h.elim⟩
  ·refine And.intro (fun u W A hW hBW hd hv hr => ?_) ?_
   ·have t0 : A.eval (.tmp 0) = .string pub := (hv 0 (by kernel_rfl)).trans (by kernel_rfl)
    clear hd hv
    have s0 := evalT t0
    clear t0
    refine fk_run ?_
    go_simp
   refine And.intro (fun u W A hW hBW hd hv hr => ?_) ?_
   ·have t7 : A.eval (.tmp 7) = .int .i64 (lp : Int) := (hv 7 (by kernel_rfl)).trans (by kernel_rfl)
    clear hd hv
    have s7 := evalT t7
    clear t7
    refine fk_run ?_
    go_simp
   refine And.intro (fun u W A hW hBW hd hv hr => ?_) ?_
   ·have e1 : u 1 = .int .i64 (lp : Int) := hd 1 (by decide) (by kernel_rfl)
    have t63 : A.eval (.tmp 63) = .int .i64 (lp : Int) := (hv 63 (by kernel_rfl)).trans ((by kernel_rfl : slotV _ _ _ u 63 = u 1).trans e1)
    clear hd hv
    have s63 := evalT t63
    clear t63
    refine fk_run ?_
    go_simp
    exact wrap_powI lp (by omega)
   refine And.intro (fun u W A hW hBW hd hv hr => ?_) ?_
   ·have t5 : A.eval (.tmp 5) = .pointer (some ⟨w.heap.size, 0, none⟩) := (hv 5 (by kernel_rfl)).trans (by kernel_rfl)
    clear hd hv
    have s5 := evalT t5
    clear t5
    refine fk_run ?_
    go_simp
   refine And.intro (fun u W A hW hBW hd hv hr => ?_) ?_
   ·have e3 : u 3 = .pointer (some ⟨w.heap.size, 0, none⟩) := hd 3 (by decide) (by kernel_rfl)
    have t65 : A.eval (.tmp 65) = .pointer (some ⟨w.heap.size, 0, none⟩) := (hv 65 (by kernel_rfl)).trans ((by kernel_rfl : slotV _ _ _ u 65 = u 3).trans e3)
    have hW1 := below_undrew hW
    have hcl : W.cell? ⟨w.heap.size, 0, none⟩ = some (.int .i64 idx) := by rw [hW1.cell (p := ⟨w.heap.size, 0, none⟩) (by show w.heap.size < WD.heap.size; omega)]; exact C0.out
    clear hd hv
    have s65 := evalT t65
    clear t65
    refine fk_run ?_
    go_simp
   refine And.intro (fun u W A hW hBW hd hv hr => ?_) ?_
   ·have t9 : A.eval (.tmp 9) = .pointer (some ⟨eb, 0, none⟩) := (hv 9 (by kernel_rfl)).trans (by kernel_rfl)
    have hW1 := below_undrew hW
    have hcl : W.cell? ⟨eb, 0, none⟩ = some (.slice aov nv cv) := by rw [hW1.cell (p := ⟨eb, 0, none⟩) (by show eb < WD.heap.size; omega)]; exact C9.out
    clear hd hv
    have s9 := evalT t9
    clear t9
    refine fk_run ?_
    go_simp
   refine And.intro (fun u W A hW hBW hd hv hr => ?_) ?_
   ·have e5 : u 5 = .slice aov nv cv := hd 5 (by decide) (by kernel_rfl)
    have t67 : A.eval (.tmp 67) = .slice aov nv cv := (hv 67 (by kernel_rfl)).trans ((by kernel_rfl : slotV _ _ _ u 67 = u 5).trans e5)
    have hW1 := below_undrew hW
    clear hd hv
    have s67 := evalT t67
    clear t67
    refine fk_enter (f := 108) (args := #[.slice aov nv cv]) (by go_simp) (fk_val ?_)
    exact of_calls _ (sealEnds m sig) W (HV2.out.on hW1) (by have := join_le 16 (sealEnds m sig) (fun s hs => by rw [HEN.out s hs]; omega) (by decide); have := HLEN.out; omega) (HT.out.on (HBW.out.trans (hW1.mono (by omega))))
   refine And.intro (fun u W A hW hBW hd hv hr => ?_) ?_
   ·have t5 : A.eval (.tmp 5) = .pointer (some ⟨w.heap.size, 0, none⟩) := (hv 5 (by kernel_rfl)).trans (by kernel_rfl)
    clear hd hv
    have s5 := evalT t5
    clear t5
    refine fk_run ?_
    go_simp
   refine And.intro (fun u W A hW hBW hd hv hr => ?_) ?_
   ·have e7 : u 7 = .pointer (some ⟨w.heap.size, 2, none⟩) := hd 7 (by decide) (by kernel_rfl)
    have t69 : A.eval (.tmp 69) = .pointer (some ⟨w.heap.size, 2, none⟩) := (hv 69 (by kernel_rfl)).trans ((by kernel_rfl : slotV _ _ _ u 69 = u 7).trans e7)
    have hW1 := below_undrew hW
    have hcl : W.cell? ⟨w.heap.size, 2, none⟩ = some (.slice aop lp cp) := by rw [hW1.cell (p := ⟨w.heap.size, 2, none⟩) (by show w.heap.size < WD.heap.size; omega)]; exact C2.out
    clear hd hv
    have s69 := evalT t69
    clear t69
    refine fk_run ?_
    go_simp
   refine And.intro (fun u W A hW hBW hd hv hr => ?_) ?_
   ·have e0 : u 0 = .string pub := hd 0 (by decide) (by kernel_rfl)
    have e2 : u 2 = .int .i64 ((2 ^ lp : Nat) : Int) := hd 2 (by decide) (by kernel_rfl)
    have e4 : u 4 = .int .i64 idx := hd 4 (by decide) (by kernel_rfl)
    have e6 : u 6 = .string (dg (sealEnds m sig)) := hd 6 (by decide) (by kernel_rfl)
    have e8 : u 8 = .slice aop lp cp := hd 8 (by decide) (by kernel_rfl)
    have t62 : A.eval (.tmp 62) = .string pub := (hv 62 (by kernel_rfl)).trans ((by kernel_rfl : slotV _ _ _ u 62 = u 0).trans e0)
    have t64 : A.eval (.tmp 64) = .int .i64 ((2 ^ lp : Nat) : Int) := (hv 64 (by kernel_rfl)).trans ((by kernel_rfl : slotV _ _ _ u 64 = u 2).trans e2)
    have t66 : A.eval (.tmp 66) = .int .i64 idx := (hv 66 (by kernel_rfl)).trans ((by kernel_rfl : slotV _ _ _ u 66 = u 4).trans e4)
    have t68 : A.eval (.tmp 68) = .string (dg (sealEnds m sig)) := (hv 68 (by kernel_rfl)).trans ((by kernel_rfl : slotV _ _ _ u 68 = u 6).trans e6)
    have t70 : A.eval (.tmp 70) = .slice aop lp cp := (hv 70 (by kernel_rfl)).trans ((by kernel_rfl : slotV _ _ _ u 70 = u 8).trans e8)
    have hW1 := below_undrew hW
    clear hd hv
    have s62 := evalT t62
    have s64 := evalT t64
    have s66 := evalT t66
    have s68 := evalT t68
    have s70 := evalT t70
    clear t62 t64 t66 t68 t70
    refine fk_enter (f := 107) (args := #[.string pub, .int .i64 ((2 ^ lp : Nat) : Int), .int .i64 idx, .string (dg (sealEnds m sig)), .slice aop lp cp]) (by go_simp) (fk_val ?_)
    exact check_calls pub _ idx (dg (sealEnds m sig)) _ path W (HPT.out.on (HBW.out.trans (hW1.mono (by omega)))) (by have := HPATHB.out; omega) HSP.out (by rw [dg_size]; omega) (HT.out.on (HBW.out.trans (hW1.mono (by omega))))
   refine And.intro (fun u W A hW hBW hd hv hr => ?_) ?_
   ·have e9 : u 9 = .bool (checkT pub ((2 ^ lp : Nat) : Int) idx (dg (sealEnds m sig)) path) := hd 9 (by decide) (by kernel_rfl)
    have t71 : A.eval (.tmp 71) = .bool (checkT pub ((2 ^ lp : Nat) : Int) idx (dg (sealEnds m sig)) path) := (hv 71 (by kernel_rfl)).trans ((by kernel_rfl : slotV _ _ _ u 71 = u 9).trans e9)
    clear hd hv
    have s71 := evalT t71
    clear t71
    refine fk_run ?_
    go_simp
   exact trivial
  intro u W' hb' hk' hf'
  have e10 : u 10 = .bool (checkT pub ((2 ^ lp : Nat) : Int) idx (dg (sealEnds m sig)) path) := hf' 10 (by decide) (by decide)
  have hb1 := below_undrew hb'
  have HKD2 : Hid (W'.heap[D]? = some (.deferred (some []))) := Lib.hid ((hb1.block D (Array.getElem?_eq_some_iff.1 HKD.out).1).trans HKD.out)
  clear hf' hb' hk'
  simp only [List.take, List.drop, wpList, lexPut, Nat.zero_add, Nat.reduceAdd, e10, Act.put, List.setIfInBounds_toArray, List.set_cons_succ, List.set_cons_zero]
  clear e10
  go_wp2_with fail
  refine ⟨by simp, .inl ⟨_, _, rfl, run_takeDeferred HKD2.out, ?_⟩⟩
  refine ⟨.bool (checkT pub ((2 ^ lp : Nat) : Int) idx (dg (sealEnds m sig)) path), by simp [results, Tryz.f78, go_sem], rfl, ?_⟩
  have hg := grownBy_putObj' W' D (.deferred none)
  refine (HBW.out.trans (hb1.mono (by omega))).trans ⟨hg.os, hg.tape, hg.output, hg.size, fun k hk2 => hg.block k ?_ (fun e => by have := Option.some.inj e; omega)⟩
  have := hb1.size
  omega
theorem verify_calls (pub m : ByteArray) (idx : Int) (vs vp : Value) (sig path : List ByteArray) (w : World) (hpub : pub.size ≤ 1099511627776) (hm : m.size ≤ 1099511627776) (hs : IsStrC w vs sig) (hp : IsStrC w vp path) (hss : ∀ s ∈ sig, s.size ≤ 1099511627776) (hps : ∀ s ∈ path, s.size ≤ 1099511627776) (hT : Tabs w) :
  Calls Tryz.prog 78 #[.string pub, .string m, .agg #[.int .i64 idx, vs, vp]] w fun e w' => e = .returned (.bool (verT pub m idx sig path)) ∧ Below w.heap.size w w' := by
 by_cases hA : sig.length = 18
 ·by_cases hB : path.length ≤ 8
  ·cases hC : sig.all isS with
   | false => rw [ver_no (by simp [hC])]; exact ver_no3 pub m idx vs vp sig path w hpub hm hs hp hss hps hT hA hB hC
   | true =>
    cases hD : path.all isS with
    | false => rw [ver_no (by simp [hD])]; exact ver_no4 pub m idx vs vp sig path w hpub hm hs hp hss hps hT hA hB hC hD
    | true =>
     by_cases hE : idx < 0
     ·rw [ver_no (by omega)]; exact ver_no5 pub m idx vs vp sig path w hpub hm hs hp hss hps hT hA hB hC hD hE
     ·by_cases hF : ((2 ^ path.length : Nat) : Int) ≤ idx
      ·rw [ver_no (by omega)]; exact ver_no6 pub m idx vs vp sig path w hpub hm hs hp hss hps hT hA hB hC hD hE hF
      ·exact ver_ok pub m idx vs vp sig path w hpub hm hs hp hss hps hT hA hB hC hD hE hF
  ·rw [ver_no (by omega)]; exact ver_no2 pub m idx vs vp sig path w hpub hm hs hp hss hps hT hA hB
 ·rw [ver_no (by omega)]; exact ver_no1 pub m idx vs vp sig path w hpub hm hs hp hss hps hT hA
end Go.Proofs.YtnkepmfgmfeabaaGreatDoor
set_option linter.unusedVariables false
namespace Go.Proofs.YtnkepmfgmfeabaaGreatDoor
open Go Go.RowKit

def smallB (l : List ByteArray) : Bool := l.all fun s => decide (s.size ≤ 100)
def fewS (sig path : List ByteArray) : Bool := decide (sig.length ≤ 30) && (decide (path.length ≤ 30) && (smallB sig && smallB path))
theorem small_take {l : List ByteArray} {i : Nat} (h : i < l.length) : smallB (l.take (i + 1)) = (smallB (l.take i) && decide ((l.getD i ByteArray.empty).size ≤ 100)) := by
 unfold smallB
 rw [List.take_succ_eq_append_getElem h, List.all_append]
 simp [List.getD, h]
theorem small_not {l : List ByteArray} {i : Nat} (h : i < l.length) (hn : ¬ (l.getD i ByteArray.empty).size ≤ 100) : smallB l = false := by
 cases hq : smallB l with
 | false => rfl
 | true =>
  have := List.all_eq_true.1 hq (l.getD i ByteArray.empty) (by simp [List.getD, h])
  exact absurd (by simpa using this) hn
theorem few_sig {sig path : List ByteArray} (h : smallB sig = false) : fewS sig path = false := by simp [fewS, h]
theorem few_path {sig path : List ByteArray} (h : smallB path = false) : fewS sig path = false := by simp [fewS, h]
def FewPost (sig path : List ByteArray) (w : World) (e : Ending) (w' : World) : Prop := e = .returned (.bool (fewS sig path)) ∧ Below w.heap.size w w'
end Go.Proofs.YtnkepmfgmfeabaaGreatDoor

namespace Go.Proofs.YtnkepmfgmfeabaaGreatDoor
open Go Go.RowKit

set_option maxRecDepth 100000 in
set_option maxHeartbeats 2000000 in
theorem few03_calls (idx : Int) (vs vp : Value) (sig path : List ByteArray) (w : World) (hs : IsStrC w vs sig) (hp : IsStrC w vp path) (hss : ∀ s ∈ sig, s.size ≤ 9223372036854775807) (hps : ∀ s ∈ path, s.size ≤ 9223372036854775807) :
  Calls Tryz.prog 25 #[.agg #[.int .i64 idx, vs, vp]] w (FewPost sig path w) := by
 have HSS := Lib.hid hss
 have HSP := Lib.hid hps
 obtain ⟨aos, cs, rfl, hlcs, hmxs, hcells⟩ := hs
 obtain ⟨aop, cp, rfl, hlcp, hmxp, hcellp⟩ := hp
 have hmxs' : cs ≤ 9223372036854775807 := hmxs
 have hmxp' : cp ≤ 9223372036854775807 := hmxp
 have HCS := Lib.hid hcells
 have HCP := Lib.hid hcellp
 obtain ⟨hbx, hB1, hz⟩ := box_one w #[.int .i64 idx, .slice aos sig.length cs, .slice aop path.length cp] 25
 obtain ⟨ls, hls⟩ : ∃ ls, ls = sig.length := ⟨_, rfl⟩
 obtain ⟨lp, hlp⟩ : ∃ lp, lp = path.length := ⟨_, rfl⟩
 rw [← hls] at hlcs hbx hB1 hz ⊢
 rw [← hlp] at hlcp hbx hB1 hz ⊢
 have HLS := Lib.hid hls
 have HLP := Lib.hid hlp
 clear hss hps hmxs hmxp hcells hcellp hls hlp
 go_enter Tryz.func25, Tryz.ntmps25
 go_wp2_with fail
 generalize hg : w.alloc (.cells #[.int .i64 idx, .slice aos ls cs, .slice aop lp cp] 25) = w0 at *
 have c1 : w0.cell? ⟨w.heap.size, 1, none⟩ = some (.slice aos ls cs) := by rw [cell_of_row _ _ 1 _ _ _ hbx]; rfl
 have c2 : w0.cell? ⟨w.heap.size, 2, none⟩ = some (.slice aop lp cp) := by rw [cell_of_row _ _ 2 _ _ _ hbx]; rfl
 have HB1 := Lib.hid hB1
 clear hg hbx hB1
 go_loop [3] (fun vi => ∃ i : Nat, vi = .int .i64 (i : Int) ∧ i ≤ ls ∧ i ≤ 30 ∧ Hid (smallB (sig.take i) = true)) (fun vi => ls - (RowKit.intOf vi).toNat)
 case atStart => exact ⟨0, rfl, by omega, by omega, Lib.hid rfl⟩
 case round =>
  obtain ⟨i, rfl, hi, hi30, HI⟩ := hrel
  by_cases hlt : i < ls
  ·have hlt' : decide ((i : Int) < (ls : Int)) = true := decide_eq_true (by omega)
   by_cases h30 : i < 30
   ·obtain ⟨b, o, rfl, hbl, hc⟩ := HCS.out i (by rw [← HLS.out]; exact hlt)
    have hil : i < sig.length := by rw [← HLS.out]; exact hlt
    have hc0 : w0.cell? ⟨b, o + i, none⟩ = some (.string (sig.getD i ByteArray.empty)) := by rw [HB1.out.cell (p := ⟨b, o + i, none⟩) hbl]; exact hc
    have HT := Lib.hid (small_take hil)
    have HF := Lib.hid (fun h => few_sig (path := path) (small_not (i := i) hil h))
    have hsz := getD_size HSS.out i
    generalize sig.getD i ByteArray.empty = s at *
    clear hil hc
    by_cases h3 : s.size ≤ 100
    ·have HI2 : Hid (smallB (sig.take (i + 1)) = true) := Lib.hid (by rw [HT.out, HI.out, decide_eq_true h3]; rfl)
     clear HT HF HI
     go_wp2
     go_round
     case rel => exact ⟨i + 1, by go_num, by omega, by omega, HI2⟩
     case measure => simp only [RowKit.intOf]; omega
    ·have HF2 := Lib.hid (HF.out h3)
     clear HT HF HI
     go_wp2
     go_ret
     exact ⟨by rw [HF2.out]; rfl, HB1.out⟩
   ·have hE : ¬ ls ≤ 30 ∨ ls = i := by omega
    have h30' : ¬ ((i : Int) < 30) := by omega
    have HE : Hid (fewS sig path = false) := by
     have e : ¬ sig.length ≤ 30 := by rw [← HLS.out]; omega
     exact Lib.hid (by simp [fewS, e])
    clear HI
    go_wp2_with fail
    go_loop [4] (fun vi => ∃ i : Nat, vi = .int .i64 (i : Int) ∧ i ≤ lp ∧ i ≤ 30) (fun vi => lp - (RowKit.intOf vi).toNat)
    case atStart => exact ⟨0, rfl, by omega, by omega⟩
    case round =>
     obtain ⟨j, rfl, hj, hj30⟩ := hrel
     by_cases hlt2 : j < lp
     ·have hlt2' : decide ((j : Int) < (lp : Int)) = true := decide_eq_true (by omega)
      by_cases hj3 : j < 30
      ·obtain ⟨b, o, rfl, hbl, hc⟩ := HCP.out j (by rw [← HLP.out]; exact hlt2)
       have hc0 : w0.cell? ⟨b, o + j, none⟩ = some (.string (path.getD j ByteArray.empty)) := by rw [HB1.out.cell (p := ⟨b, o + j, none⟩) hbl]; exact hc
       have hsz := getD_size HSP.out j
       generalize path.getD j ByteArray.empty = s at *
       clear hc
       by_cases h3 : s.size ≤ 100
       ·go_wp2
        go_round
        case rel => exact ⟨j + 1, by go_num, by omega, by omega⟩
        case measure => simp only [RowKit.intOf]; omega
       ·go_wp2
        go_ret
        exact ⟨by rw [HE.out]; rfl, HB1.out⟩
      ·have hj3' : ¬ ((j : Int) < 30) := by omega
       have hls30 : ¬ ((ls : Int) ≤ 30) := by omega
       go_wp2
       go_ret
       exact ⟨by rw [HE.out]; rfl, HB1.out⟩
     ·have hls30 : ¬ ((ls : Int) ≤ 30) := by omega
      have hlt2' : ¬ ((j : Int) < (lp : Int)) := by omega
      go_wp2
      go_ret
      exact ⟨by rw [HE.out]; rfl, HB1.out⟩
  ·have hil : i = ls := by omega
   have HSM : Hid (smallB sig = true) := Lib.hid (by have := HI.out; rwa [List.take_of_length_le (by rw [← HLS.out]; omega)] at this)
   have hlt' : ¬ ((i : Int) < (ls : Int)) := by omega
   clear HI
   go_wp2_with fail
   go_loop [4] (fun vi => ∃ i : Nat, vi = .int .i64 (i : Int) ∧ i ≤ lp ∧ i ≤ 30 ∧ Hid (smallB (path.take i) = true)) (fun vi => lp - (RowKit.intOf vi).toNat)
   case atStart => exact ⟨0, rfl, by omega, by omega, Lib.hid rfl⟩
   case round =>
    obtain ⟨j, rfl, hj, hj30, HJ⟩ := hrel
    have hls30 : (ls : Int) ≤ 30 := by omega
    by_cases hlt2 : j < lp
    ·have hlt2' : decide ((j : Int) < (lp : Int)) = true := decide_eq_true (by omega)
     by_cases hj3 : j < 30
     ·obtain ⟨b, o, rfl, hbl, hc⟩ := HCP.out j (by rw [← HLP.out]; exact hlt2)
      have hjl : j < path.length := by rw [← HLP.out]; exact hlt2
      have hc0 : w0.cell? ⟨b, o + j, none⟩ = some (.string (path.getD j ByteArray.empty)) := by rw [HB1.out.cell (p := ⟨b, o + j, none⟩) hbl]; exact hc
      have HT := Lib.hid (small_take hjl)
      have HF := Lib.hid (fun h => few_path (sig := sig) (small_not (i := j) hjl h))
      have hsz := getD_size HSP.out j
      generalize path.getD j ByteArray.empty = s at *
      clear hc hjl
      by_cases h3 : s.size ≤ 100
      ·have HJ2 : Hid (smallB (path.take (j + 1)) = true) := Lib.hid (by rw [HT.out, HJ.out, decide_eq_true h3]; rfl)
       clear HT HF HJ
       go_wp2
       go_round
       case rel => exact ⟨j + 1, by go_num, by omega, by omega, HJ2⟩
       case measure => simp only [RowKit.intOf]; omega
      ·have HF2 := Lib.hid (HF.out h3)
       clear HT HF HJ
       go_wp2
       go_ret
       exact ⟨by rw [HF2.out]; rfl, HB1.out⟩
     ·have hj3' : ¬ ((j : Int) < 30) := by omega
      have hlp30 : ¬ ((lp : Int) ≤ 30) := by omega
      have HE : Hid (fewS sig path = false) := by
       have e : ¬ path.length ≤ 30 := by rw [← HLP.out]; omega
       exact Lib.hid (by simp [fewS, e])
      clear HJ
      go_wp2
      go_ret
      exact ⟨by rw [HE.out]; rfl, HB1.out⟩
    ·have hjl : j = lp := by omega
     have HSN : Hid (smallB path = true) := Lib.hid (by have := HJ.out; rwa [List.take_of_length_le (by rw [← HLP.out]; omega)] at this)
     have hlt2' : ¬ ((j : Int) < (lp : Int)) := by omega
     have hlp30 : (lp : Int) ≤ 30 := by omega
     have HE : Hid (fewS sig path = true) := by
      have e1 : sig.length ≤ 30 := by rw [← HLS.out]; omega
      have e2 : path.length ≤ 30 := by rw [← HLP.out]; omega
      exact Lib.hid (by simp [fewS, e1, e2, HSM.out, HSN.out])
     clear HJ
     go_wp2
     go_ret
     exact ⟨by rw [HE.out]; rfl, HB1.out⟩
end Go.Proofs.YtnkepmfgmfeabaaGreatDoor
set_option linter.unusedVariables false
namespace Go.Proofs.YtnkepmfgmfeabaaGreatDoor
open Go Go.RowKit

theorem pathT_sizes (l : List ByteArray) (i : Nat) : ∀ s ∈ pathT l i, s.size ≤ 1099511627776 := fun s hs => by
 have := isS_size (List.all_eq_true.1 (path_isS l i) s hs); omega
theorem sigT_sizes (secret : ByteArray) (i : Nat) (m : ByteArray) : ∀ s ∈ sigT secret i m, s.size ≤ 1099511627776 := fun s hs => by
 unfold sigT at hs
 obtain ⟨k, _, rfl⟩ := List.mem_map.1 hs
 rw [chain16 (startT_size _ _ _)]; omega
end Go.Proofs.YtnkepmfgmfeabaaGreatDoor
set_option linter.unusedVariables false
namespace Go.Proofs.YtnkepmfgmfeabaaGreatDoor
open Go Go.RowKit

/-- a slice of inputs, read alone -/
def IsInp (w : World) (v : Value) (l : List (ByteArray × Int)) : Prop :=
 ∃ (ao : Option Addr) (cap : Nat), v = .slice ao l.length cap ∧ l.length ≤ cap ∧ cap ≤ maxLen ∧ ∀ i, i < l.length → ∃ b o, ao = some ⟨b, o, none⟩ ∧ b < w.heap.size ∧ w.cell? ⟨b, o + i * 2, none⟩ = some (.string (l.getD i nilInp).1) ∧ w.cell? ⟨b, o + i * 2 + 1, none⟩ = some (.int .i64 (l.getD i nilInp).2)
theorem IsInp.on {w w' : World} {v : Value} {l : List (ByteArray × Int)} (h : IsInp w v l) (hb : Below w.heap.size w w') : IsInp w' v l := by
 obtain ⟨ao, cap, h1, h2, h3, h4⟩ := h
 refine ⟨ao, cap, h1, h2, h3, fun i hi => ?_⟩
 obtain ⟨b, o, e, hlt, hc, hd⟩ := h4 i hi
 exact ⟨b, o, e, Nat.lt_of_lt_of_le hlt hb.size, by rw [hb.cell (p := ⟨b, o + i * 2, none⟩) hlt]; exact hc, by rw [hb.cell (p := ⟨b, o + i * 2 + 1, none⟩) hlt]; exact hd⟩
theorem IsInp.form {w : World} {v : Value} {l : List (ByteArray × Int)} (h : IsInp w v l) : ∃ ao cap, v = .slice ao l.length cap := by
 obtain ⟨ao, cap, e, _⟩ := h
 exact ⟨ao, cap, e⟩
theorem IsInp.len {w : World} {v : Value} {l : List (ByteArray × Int)} (h : IsInp w v l) : l.length ≤ 9223372036854775807 := by
 obtain ⟨ao, cap, _, h1, h2, _⟩ := h
 exact Nat.le_trans h1 h2
theorem IsInp.at {w : World} {v : Value} {l : List (ByteArray × Int)} (h : IsInp w v l) (i : Nat) (hi : i < l.length) : ∃ b o cap, v = .slice (some ⟨b, o, none⟩) l.length cap ∧ b < w.heap.size ∧ w.cell? ⟨b, o + i * 2, none⟩ = some (.string (l.getD i nilInp).1) ∧ w.cell? ⟨b, o + i * 2 + 1, none⟩ = some (.int .i64 (l.getD i nilInp).2) := by
 obtain ⟨ao, cap, e, _, _, h4⟩ := h
 obtain ⟨b, o, rfl, hlt, hc, hd⟩ := h4 i hi
 exact ⟨b, o, cap, e, hlt, hc, hd⟩
theorem strc_len {w : World} {v : Value} {l : List ByteArray} (h : IsStrC w v l) : l.length ≤ 9223372036854775807 := by
 obtain ⟨ao, c, e, h1, h2, _⟩ := h
 exact Nat.le_trans h1 h2
/-- the sizes of a statement's texts -/
structure Stm.Sized (s : Stm) (M : Nat) : Prop where
 id : s.id.size ≤ M
 prod : s.prod.size ≤ M
 holder : s.holder.size ≤ M
 uses : ∀ t ∈ s.uses, t.size ≤ M
 inputs : ∀ x ∈ s.inputs, x.1.size ≤ M
 sig : ∀ t ∈ s.sig, t.size ≤ M
 path : ∀ t ∈ s.path, t.size ≤ M
/-- a statement's value: nine cells, four slices -/
def stmCells (s : Stm) (vu vi vs vp : Value) : Array Value := #[.string s.id, .string s.prod, .int .i64 s.q, .string s.holder, vu, vi, .int .i64 s.idx, vs, vp]
structure StmAt (w : World) (s : Stm) (vu vi vs vp : Value) : Prop where
 uses : IsStrC w vu s.uses
 inputs : IsInp w vi s.inputs
 sig : IsStrC w vs s.sig
 path : IsStrC w vp s.path
theorem StmAt.on {w w' : World} {s : Stm} {vu vi vs vp : Value} (h : StmAt w s vu vi vs vp) (hb : Below w.heap.size w w') : StmAt w' s vu vi vs vp := ⟨h.uses.on hb, h.inputs.on hb, h.sig.on hb, h.path.on hb⟩
theorem inp_le {l : List (ByteArray × Int)} {M : Nat} (h : ∀ x ∈ l, x.1.size ≤ M) (i : Nat) : (l.getD i nilInp).1.size ≤ M := by
 by_cases hi : i < l.length
 ·rw [show l.getD i nilInp = l[i] by simp [List.getD, hi]]; exact h _ (List.getElem_mem hi)
 ·rw [show l.getD i nilInp = nilInp by simp [List.getD, Nat.le_of_not_lt hi]]; exact Nat.zero_le _
/-- a moderate size -/
def shortS (s : Stm) : Bool :=
 decide (s.id.size ≤ 60) && decide (s.prod.size ≤ 60) && decide (s.holder.size ≤ 60) && decide (s.uses.length ≤ 14) && decide (s.inputs.length ≤ 14) && fewS s.sig s.path && s.uses.all (fun t => decide (t.size ≤ 60)) && s.inputs.all (fun x => decide (x.1.size ≤ 60))
end Go.Proofs.YtnkepmfgmfeabaaGreatDoor
set_option linter.unusedVariables false
namespace Go.Proofs.YtnkepmfgmfeabaaGreatDoor
open Go Go.RowKit

/-! the strings that are digested for a statement's message -/
def sStatement : ByteArray := { data := #[115, 116, 97, 116, 101, 109, 101, 110, 116] }
def decI (n : Int) : ByteArray := decS n.toNat
def pairsT (l : List (ByteArray × Int)) : List ByteArray := l.flatMap fun x => [x.1, decI x.2]
def fieldsT (s : Stm) : List ByteArray := [sStatement, s.id, s.prod, decI s.q, s.holder, decS s.uses.length] ++ s.uses ++ pairsT s.inputs
def messT (s : Stm) : ByteArray := dg (fieldsT s)
end Go.Proofs.YtnkepmfgmfeabaaGreatDoor
set_option linter.unusedVariables false
namespace Go.Proofs.YtnkepmfgmfeabaaGreatDoor
open Go Go.RowKit

end Go.Proofs.YtnkepmfgmfeabaaGreatDoor
set_option linter.unusedVariables false
set_option linter.unusedSimpArgs false
namespace Go.Proofs.YtnkepmfgmfeabaaGreatDoor
open Go Go.RowKit
namespace Av
theorem kinds_si {xs : List Value} (h : kindsL [.str, .int .i64] xs = true) : ∃ a n, xs = [.string a, .int .i64 n] := by
 match xs, h with
 | [], h => simp [kindsL] at h
 | [x], h => simp [kindsL] at h
 | x :: y :: z :: r, h => simp [kindsL] at h
 | [x, y], h =>
  simp only [kindsL, Bool.and_eq_true, Bool.and_true] at h
  cases x <;> simp [kindV] at h
  cases y <;> simp [kindV] at h
  obtain rfl := h
  exact ⟨_, _, rfl⟩
theorem flat92 : FlatOk Tryz.prog 92 [.str, .int .i64] := by
 have u3 := Tryz.underlying3
 have a3 := Tryz.isAgg3
 have z3 := Tryz.sizeOf3
 have u9 := Tryz.underlying9
 have a9 := Tryz.isAgg9
 have z9 := Tryz.sizeOf9
 have hS : Tryz.prog.underlying 92 = some (.struct (Tryz.prog.fieldsOf 92)) := by kernel_rfl
 have hp : Tryz.prog.stoodInHeld 92 = false := by kernel_rfl
 refine ⟨by kernel_rfl, fun xs ys w hx hy => ?_⟩
 obtain ⟨a, p, rfl⟩ := kinds_si hx
 obtain ⟨b, q, rfl⟩ := kinds_si hy
 refine ⟨?_, fun e => ?_⟩
 ·show (Op.equalIn (9999 + 1) 92 (.agg #[.string a, .int .i64 p]) (.agg #[.string b, .int .i64 q])).run Tryz.prog w = _
  rw [run_equalIn_agg w 9999 92 _ _ hS hp]
  simp only [Program.fieldsOf, Tryz.underlying92]
  go_simp
  have e1 : ((IntKind.i64 == IntKind.i64) && decide (p = q)) = decide (p = q) := by simp
  simp only [eqL, eqV, e1]
  by_cases h1 : a = b
  ·subst h1
   by_cases h2 : p = q <;> simp [h2]
  ·have h3 : ¬ a.toList = b.toList := fun e => by
    have := strne h1
    rw [e] at this
    simp at this
   by_cases h2 : p = q <;> simp [h1, h2, h3]
 ·show (Instr.checkKey e (9999 + 1) 92 (.agg #[.string a, .int .i64 p])).run Tryz.prog w = _
  unfold Instr.checkKey
  simp only [Program.fieldsOf, Tryz.underlying92]
  go_simp
  rw [MapKept.run_checkKey u9 (k := .string a) trivial e 9998, Result.andThen_ok, MapKept.run_checkKey u3 (k := .int .i64 p) (by first | rfl | trivial) e 9998]
theorem flat52 : FlatOk Tryz.prog 52 [.str, .int .i64] := by
 have u3 := Tryz.underlying3
 have a3 := Tryz.isAgg3
 have z3 := Tryz.sizeOf3
 have u9 := Tryz.underlying9
 have a9 := Tryz.isAgg9
 have z9 := Tryz.sizeOf9
 have hS : Tryz.prog.underlying 52 = some (.struct (Tryz.prog.fieldsOf 52)) := by kernel_rfl
 have hp : Tryz.prog.stoodInHeld 52 = false := by kernel_rfl
 refine ⟨by kernel_rfl, fun xs ys w hx hy => ?_⟩
 obtain ⟨a, p, rfl⟩ := kinds_si hx
 obtain ⟨b, q, rfl⟩ := kinds_si hy
 refine ⟨?_, fun e => ?_⟩
 ·show (Op.equalIn (9999 + 1) 52 (.agg #[.string a, .int .i64 p]) (.agg #[.string b, .int .i64 q])).run Tryz.prog w = _
  rw [run_equalIn_agg w 9999 52 _ _ hS hp]
  simp only [Program.fieldsOf, Tryz.underlying52]
  go_simp
  have e1 : ((IntKind.i64 == IntKind.i64) && decide (p = q)) = decide (p = q) := by simp
  simp only [eqL, eqV, e1]
  by_cases h1 : a = b
  ·subst h1
   by_cases h2 : p = q <;> simp [h2]
  ·have h3 : ¬ a.toList = b.toList := fun e => by
    have := strne h1
    rw [e] at this
    simp at this
   by_cases h2 : p = q <;> simp [h1, h2, h3]
 ·show (Instr.checkKey e (9999 + 1) 52 (.agg #[.string a, .int .i64 p])).run Tryz.prog w = _
  unfold Instr.checkKey
  simp only [Program.fieldsOf, Tryz.underlying52]
  go_simp
  rw [MapKept.run_checkKey u9 (k := .string a) trivial e 9998, Result.andThen_ok, MapKept.run_checkKey u3 (k := .int .i64 p) (by first | rfl | trivial) e 9998]
end Av
end Go.Proofs.YtnkepmfgmfeabaaGreatDoor
set_option linter.unusedVariables false
namespace Go.Proofs.YtnkepmfgmfeabaaGreatDoor
open Go Go.RowKit
namespace Av

/-! The types of this program, az far az they are needed. -/
def ti3 : TI := { size := 1, bytes := 8, kind := .int .i64, zero := [.int .i64 0] }
theorem ok3 : TTok Tryz.prog 3 ti3 := ttok_mk Tryz.type3 (by kernel_rfl) (by kernel_rfl) (by kernel_rfl) (fun _ h => nomatch h)
def ti4 : TI := { size := 1, bytes := 1, kind := .bool, zero := [.bool false] }
theorem ok4 : TTok Tryz.prog 4 ti4 := ttok_mk Tryz.type4 (by kernel_rfl) (by kernel_rfl) (by kernel_rfl) (fun _ h => nomatch h)
def ti5 : TI := { size := 1, bytes := 1, kind := .int .u8, zero := [.int .u8 0] }
theorem ok5 : TTok Tryz.prog 5 ti5 := ttok_mk Tryz.type5 (by kernel_rfl) (by kernel_rfl) (by kernel_rfl) (fun _ h => nomatch h)
def ti9 : TI := { size := 1, bytes := 16, kind := .str, zero := [.string ⟨#[]⟩] }
theorem ok9 : TTok Tryz.prog 9 ti9 := ttok_mk Tryz.type9 (by kernel_rfl) (by kernel_rfl) (by kernel_rfl) (fun _ h => nomatch h)
def ti22 : TI := { size := 1, bytes := 24, kind := .slice 9, zero := [.slice none 0 0] }
theorem ok22 : TTok Tryz.prog 22 ti22 := ttok_mk Tryz.type22 (by kernel_rfl) (by kernel_rfl) (by kernel_rfl) (fun _ h => nomatch h)
def ti23 : TI := { size := 1, bytes := 24, kind := .slice 52, zero := [.slice none 0 0] }
theorem ok23 : TTok Tryz.prog 23 ti23 := ttok_mk Tryz.type23 (by kernel_rfl) (by kernel_rfl) (by kernel_rfl) (fun _ h => nomatch h)
def ti25 : TI := { size := 3, bytes := 56, kind := .struct [(0, 3), (1, 22), (2, 22)], zero := [.int .i64 0, .slice none 0 0, .slice none 0 0] }
theorem ok25 : TTok Tryz.prog 25 ti25 := ttok_mk Tryz.type25 (by kernel_rfl) (by kernel_rfl) (by kernel_rfl) (fun _ h => nomatch h)
def ti27 : TI := { size := 9, bytes := 160, kind := .struct [(0, 9), (1, 9), (2, 3), (3, 9), (4, 22), (5, 23), (6, 25)], zero := [.string ⟨#[]⟩, .string ⟨#[]⟩, .int .i64 0, .string ⟨#[]⟩, .slice none 0 0, .slice none 0 0, .int .i64 0, .slice none 0 0, .slice none 0 0] }
theorem ok27 : TTok Tryz.prog 27 ti27 := ttok_mk Tryz.type27 (by kernel_rfl) (by kernel_rfl) (by kernel_rfl) (fun _ h => nomatch h)
def ti35 : TI := { size := 1, bytes := 24, kind := .slice 48, zero := [.slice none 0 0] }
theorem ok35 : TTok Tryz.prog 35 ti35 := ttok_mk Tryz.type35 (by kernel_rfl) (by kernel_rfl) (by kernel_rfl) (fun _ h => nomatch h)
def ti37 : TI := { size := 1, bytes := 8, kind := .ptr 76, zero := [.pointer none] }
theorem ok37 : TTok Tryz.prog 37 ti37 := ttok_mk Tryz.type37 (by kernel_rfl) (by kernel_rfl) (by kernel_rfl) (fun _ h => nomatch h)
def ti38 : TI := { size := 1, bytes := 8, kind := .int .i64, zero := [.int .i64 0] }
theorem ok38 : TTok Tryz.prog 38 ti38 := ttok_mk Tryz.type38 (by kernel_rfl) (by kernel_rfl) (by kernel_rfl) (fun _ h => nomatch h)
def ti41 : TI := { size := 1, bytes := 24, kind := .slice 27, zero := [.slice none 0 0] }
theorem ok41 : TTok Tryz.prog 41 ti41 := ttok_mk Tryz.type41 (by kernel_rfl) (by kernel_rfl) (by kernel_rfl) (fun _ h => nomatch h)
def ti43 : TI := { size := 1, bytes := 24, kind := .slice 3, zero := [.slice none 0 0] }
theorem ok43 : TTok Tryz.prog 43 ti43 := ttok_mk Tryz.type43 (by kernel_rfl) (by kernel_rfl) (by kernel_rfl) (fun _ h => nomatch h)
def ti48 : TI := { size := 11, bytes := 184, kind := .struct [(0, 3), (1, 27), (10, 9)], zero := [.int .i64 0, .string ⟨#[]⟩, .string ⟨#[]⟩, .int .i64 0, .string ⟨#[]⟩, .slice none 0 0, .slice none 0 0, .int .i64 0, .slice none 0 0, .slice none 0 0, .string ⟨#[]⟩] }
theorem ok48 : TTok Tryz.prog 48 ti48 := ttok_mk Tryz.type48 (by kernel_rfl) (by kernel_rfl) (by kernel_rfl) (fun _ h => nomatch h)
def ti49 : TI := { size := 1, bytes := 24, kind := .slice 4, zero := [.slice none 0 0] }
theorem ok49 : TTok Tryz.prog 49 ti49 := ttok_mk Tryz.type49 (by kernel_rfl) (by kernel_rfl) (by kernel_rfl) (fun _ h => nomatch h)
def ti52 : TI := { size := 2, bytes := 24, kind := .struct [(0, 9), (1, 3)], zero := [.string ⟨#[]⟩, .int .i64 0], flat := some [.str, .int .i64] }
theorem ok52 : TTok Tryz.prog 52 ti52 := ttok_mk Tryz.type52 (by kernel_rfl) (by kernel_rfl) (by kernel_rfl) (fun ks h => by cases h; exact flat52)
def ti61 : TI := { size := 1, bytes := 8, kind := .func, zero := [.nilFunc] }
theorem ok61 : TTok Tryz.prog 61 ti61 := ttok_mk Tryz.type61 (by kernel_rfl) (by kernel_rfl) (by kernel_rfl) (fun _ h => nomatch h)
def ti67 : TI := { size := 1, bytes := 8, kind := .int .u64, zero := [.int .u64 0] }
theorem ok67 : TTok Tryz.prog 67 ti67 := ttok_mk Tryz.type67 (by kernel_rfl) (by kernel_rfl) (by kernel_rfl) (fun _ h => nomatch h)
def ti72 : TI := { size := 1, bytes := 8, kind := .map 9 77, zero := [.map none] }
theorem ok72 : TTok Tryz.prog 72 ti72 := ttok_mk Tryz.type72 (by kernel_rfl) (by kernel_rfl) (by kernel_rfl) (fun _ h => nomatch h)
def ti73 : TI := { size := 1, bytes := 8, kind := .map 92 4, zero := [.map none] }
theorem ok73 : TTok Tryz.prog 73 ti73 := ttok_mk Tryz.type73 (by kernel_rfl) (by kernel_rfl) (by kernel_rfl) (fun _ h => nomatch h)
def ti74 : TI := { size := 1, bytes := 24, kind := .slice 77, zero := [.slice none 0 0] }
theorem ok74 : TTok Tryz.prog 74 ti74 := ttok_mk Tryz.type74 (by kernel_rfl) (by kernel_rfl) (by kernel_rfl) (fun _ h => nomatch h)
def ti76 : TI := { size := 4, bytes := 56, kind := .struct [(0, 9), (1, 74), (2, 72), (3, 73)], zero := [.string ⟨#[]⟩, .slice none 0 0, .map none, .map none] }
theorem ok76 : TTok Tryz.prog 76 ti76 := ttok_mk Tryz.type76 (by kernel_rfl) (by kernel_rfl) (by kernel_rfl) (fun _ h => nomatch h)
def ti77 : TI := { size := 1, bytes := 8, kind := .ptr 79, zero := [.pointer none] }
theorem ok77 : TTok Tryz.prog 77 ti77 := ttok_mk Tryz.type77 (by kernel_rfl) (by kernel_rfl) (by kernel_rfl) (fun _ h => nomatch h)
def ti79 : TI := { size := 13, bytes := 216, kind := .struct [(0, 27), (9, 3), (10, 9), (11, 4), (12, 74)], zero := [.string ⟨#[]⟩, .string ⟨#[]⟩, .int .i64 0, .string ⟨#[]⟩, .slice none 0 0, .slice none 0 0, .int .i64 0, .slice none 0 0, .slice none 0 0, .int .i64 0, .string ⟨#[]⟩, .bool false, .slice none 0 0] }
theorem ok79 : TTok Tryz.prog 79 ti79 := ttok_mk Tryz.type79 (by kernel_rfl) (by kernel_rfl) (by kernel_rfl) (fun _ h => nomatch h)
def ti85 : TI := { size := 1, bytes := 8, kind := .ptr 87, zero := [.pointer none] }
theorem ok85 : TTok Tryz.prog 85 ti85 := ttok_mk Tryz.type85 (by kernel_rfl) (by kernel_rfl) (by kernel_rfl) (fun _ h => nomatch h)
def ti87 : TI := { size := 11, bytes := 192, kind := .struct [(0, 37), (1, 27), (10, 74)], zero := [.pointer none, .string ⟨#[]⟩, .string ⟨#[]⟩, .int .i64 0, .string ⟨#[]⟩, .slice none 0 0, .slice none 0 0, .int .i64 0, .slice none 0 0, .slice none 0 0, .slice none 0 0] }
theorem ok87 : TTok Tryz.prog 87 ti87 := ttok_mk Tryz.type87 (by kernel_rfl) (by kernel_rfl) (by kernel_rfl) (fun _ h => nomatch h)
def ti88 : TI := { size := 1, bytes := 8, kind := .func, zero := [.nilFunc] }
theorem ok88 : TTok Tryz.prog 88 ti88 := ttok_mk Tryz.type88 (by kernel_rfl) (by kernel_rfl) (by kernel_rfl) (fun _ h => nomatch h)
def ti89 : TI := { size := 1, bytes := 24, kind := .slice 88, zero := [.slice none 0 0] }
theorem ok89 : TTok Tryz.prog 89 ti89 := ttok_mk Tryz.type89 (by kernel_rfl) (by kernel_rfl) (by kernel_rfl) (fun _ h => nomatch h)
def ti92 : TI := { size := 2, bytes := 24, kind := .struct [(0, 9), (1, 3)], zero := [.string ⟨#[]⟩, .int .i64 0], flat := some [.str, .int .i64] }
theorem ok92 : TTok Tryz.prog 92 ti92 := ttok_mk Tryz.type92 (by kernel_rfl) (by kernel_rfl) (by kernel_rfl) (fun ks h => by cases h; exact flat92)
def ti95 : TI := { size := 1, bytes := 8, kind := .func, zero := [.nilFunc] }
theorem ok95 : TTok Tryz.prog 95 ti95 := ttok_mk Tryz.type95 (by kernel_rfl) (by kernel_rfl) (by kernel_rfl) (fun _ h => nomatch h)
def ti118 : TI := { size := 1, bytes := 8, kind := .func, zero := [.nilFunc] }
theorem ok118 : TTok Tryz.prog 118 ti118 := ttok_mk Tryz.type118 (by kernel_rfl) (by kernel_rfl) (by kernel_rfl) (fun _ h => nomatch h)
def tt : TTab := fun t => match t with
 | 3 => some ti3
 | 4 => some ti4
 | 5 => some ti5
 | 9 => some ti9
 | 22 => some ti22
 | 23 => some ti23
 | 25 => some ti25
 | 27 => some ti27
 | 35 => some ti35
 | 37 => some ti37
 | 38 => some ti38
 | 41 => some ti41
 | 43 => some ti43
 | 48 => some ti48
 | 49 => some ti49
 | 52 => some ti52
 | 61 => some ti61
 | 67 => some ti67
 | 72 => some ti72
 | 73 => some ti73
 | 74 => some ti74
 | 76 => some ti76
 | 77 => some ti77
 | 79 => some ti79
 | 85 => some ti85
 | 87 => some ti87
 | 88 => some ti88
 | 89 => some ti89
 | 92 => some ti92
 | 95 => some ti95
 | 118 => some ti118
 | _ => none
theorem ttOk : TabOk Tryz.prog tt := by
 intro t ti h
 unfold tt at h
 split at h <;> first | (cases h; done) | (simp only [Option.some.injEq] at h; subst h)
 ·exact ok3
 ·exact ok4
 ·exact ok5
 ·exact ok9
 ·exact ok22
 ·exact ok23
 ·exact ok25
 ·exact ok27
 ·exact ok35
 ·exact ok37
 ·exact ok38
 ·exact ok41
 ·exact ok43
 ·exact ok48
 ·exact ok49
 ·exact ok52
 ·exact ok61
 ·exact ok67
 ·exact ok72
 ·exact ok73
 ·exact ok74
 ·exact ok76
 ·exact ok77
 ·exact ok79
 ·exact ok85
 ·exact ok87
 ·exact ok88
 ·exact ok89
 ·exact ok92
 ·exact ok95
 ·exact ok118
theorem tts : (tt 3 = some { size := 1, bytes := 8, kind := .int .i64, zero := [.int .i64 0], flat := none }) ∧ (tt 4 = some { size := 1, bytes := 1, kind := .bool, zero := [.bool false], flat := none }) ∧ (tt 5 = some { size := 1, bytes := 1, kind := .int .u8, zero := [.int .u8 0], flat := none }) ∧ (tt 9 = some { size := 1, bytes := 16, kind := .str, zero := [.string ⟨#[]⟩], flat := none }) ∧ (tt 22 = some { size := 1, bytes := 24, kind := .slice 9, zero := [.slice none 0 0], flat := none }) ∧ (tt 23 = some { size := 1, bytes := 24, kind := .slice 52, zero := [.slice none 0 0], flat := none }) ∧ (tt 25 = some { size := 3, bytes := 56, kind := .struct [(0, 3), (1, 22), (2, 22)], zero := [.int .i64 0, .slice none 0 0, .slice none 0 0], flat := none }) ∧ (tt 27 = some { size := 9, bytes := 160, kind := .struct [(0, 9), (1, 9), (2, 3), (3, 9), (4, 22), (5, 23), (6, 25)], zero := [.string ⟨#[]⟩, .string ⟨#[]⟩, .int .i64 0, .string ⟨#[]⟩, .slice none 0 0, .slice none 0 0, .int .i64 0, .slice none 0 0, .slice none 0 0], flat := none }) ∧ (tt 35 = some { size := 1, bytes := 24, kind := .slice 48, zero := [.slice none 0 0], flat := none }) ∧ (tt 37 = some { size := 1, bytes := 8, kind := .ptr 76, zero := [.pointer none], flat := none }) ∧ (tt 38 = some { size := 1, bytes := 8, kind := .int .i64, zero := [.int .i64 0], flat := none }) ∧ (tt 41 = some { size := 1, bytes := 24, kind := .slice 27, zero := [.slice none 0 0], flat := none }) ∧ (tt 43 = some { size := 1, bytes := 24, kind := .slice 3, zero := [.slice none 0 0], flat := none }) ∧ (tt 48 = some { size := 11, bytes := 184, kind := .struct [(0, 3), (1, 27), (10, 9)], zero := [.int .i64 0, .string ⟨#[]⟩, .string ⟨#[]⟩, .int .i64 0, .string ⟨#[]⟩, .slice none 0 0, .slice none 0 0, .int .i64 0, .slice none 0 0, .slice none 0 0, .string ⟨#[]⟩], flat := none }) ∧ (tt 49 = some { size := 1, bytes := 24, kind := .slice 4, zero := [.slice none 0 0], flat := none }) ∧ (tt 52 = some { size := 2, bytes := 24, kind := .struct [(0, 9), (1, 3)], zero := [.string ⟨#[]⟩, .int .i64 0], flat := some [.str, .int .i64] }) ∧ (tt 61 = some { size := 1, bytes := 8, kind := .func, zero := [.nilFunc], flat := none }) ∧ (tt 67 = some { size := 1, bytes := 8, kind := .int .u64, zero := [.int .u64 0], flat := none }) ∧ (tt 72 = some { size := 1, bytes := 8, kind := .map 9 77, zero := [.map none], flat := none }) ∧ (tt 73 = some { size := 1, bytes := 8, kind := .map 92 4, zero := [.map none], flat := none }) ∧ (tt 74 = some { size := 1, bytes := 24, kind := .slice 77, zero := [.slice none 0 0], flat := none }) ∧ (tt 76 = some { size := 4, bytes := 56, kind := .struct [(0, 9), (1, 74), (2, 72), (3, 73)], zero := [.string ⟨#[]⟩, .slice none 0 0, .map none, .map none], flat := none }) ∧ (tt 77 = some { size := 1, bytes := 8, kind := .ptr 79, zero := [.pointer none], flat := none }) ∧ (tt 79 = some { size := 13, bytes := 216, kind := .struct [(0, 27), (9, 3), (10, 9), (11, 4), (12, 74)], zero := [.string ⟨#[]⟩, .string ⟨#[]⟩, .int .i64 0, .string ⟨#[]⟩, .slice none 0 0, .slice none 0 0, .int .i64 0, .slice none 0 0, .slice none 0 0, .int .i64 0, .string ⟨#[]⟩, .bool false, .slice none 0 0], flat := none }) ∧ (tt 85 = some { size := 1, bytes := 8, kind := .ptr 87, zero := [.pointer none], flat := none }) ∧ (tt 87 = some { size := 11, bytes := 192, kind := .struct [(0, 37), (1, 27), (10, 74)], zero := [.pointer none, .string ⟨#[]⟩, .string ⟨#[]⟩, .int .i64 0, .string ⟨#[]⟩, .slice none 0 0, .slice none 0 0, .int .i64 0, .slice none 0 0, .slice none 0 0, .slice none 0 0], flat := none }) ∧ (tt 88 = some { size := 1, bytes := 8, kind := .func, zero := [.nilFunc], flat := none }) ∧ (tt 89 = some { size := 1, bytes := 24, kind := .slice 88, zero := [.slice none 0 0], flat := none }) ∧ (tt 92 = some { size := 2, bytes := 24, kind := .struct [(0, 9), (1, 3)], zero := [.string ⟨#[]⟩, .int .i64 0], flat := some [.str, .int .i64] }) ∧ (tt 95 = some { size := 1, bytes := 8, kind := .func, zero := [.nilFunc], flat := none }) ∧ (tt 118 = some { size := 1, bytes := 8, kind := .func, zero := [.nilFunc], flat := none }) := ⟨rfl, rfl, rfl, rfl, rfl, rfl, rfl, rfl, rfl, rfl, rfl, rfl, rfl, rfl, rfl, rfl, rfl, rfl, rfl, rfl, rfl, rfl, rfl, rfl, rfl, rfl, rfl, rfl, rfl, rfl, rfl⟩
theorem mixed : Tryz.prog.follows .mixedOrders = true := by kernel_rfl
end Av
end Go.Proofs.YtnkepmfgmfeabaaGreatDoor
set_option linter.unusedVariables false
set_option linter.unusedSimpArgs false
namespace Go.Proofs.YtnkepmfgmfeabaaGreatDoor
open Go Go.RowKit
namespace Av
def strsP (l : List ByteArray) : PD := .sl 1 (l.map fun s => [.v (.string s)])
def inpsP (l : List (ByteArray × Int)) : PD := .sl 2 (l.map fun x => [.v (.string x.1), .v (.int .i64 x.2)])
def stmC (s : Stm) : List PD := [.v (.string s.id), .v (.string s.prod), .v (.int .i64 s.q), .v (.string s.holder), strsP s.uses, inpsP s.inputs, .v (.int .i64 s.idx), strsP s.sig, strsP s.path]
theorem wrap_succ {k : Nat} {n : Nat} (h : k < n) (hn : n ≤ 9223372036854775807) : IntKind.i64.wrap ((k : Int) + 1) = ((k + 1 : Nat) : Int) := by rw [IntKind.wrap_i64]; omega
def placeS (l : List Stm) (id : ByteArray) : Int := match l.findIdx? fun s => decide (s.id = id) with
 | some i => (i : Int)
 | none => -1
theorem place_some {L : List Stm} {id : ByteArray} {k : Nat} (hk : k < L.length) (hj : ∀ j, j < k → ∀ h : j < L.length, ¬ L[j].id = id) (h : L[k].id = id) : placeS L id = k := by
 unfold placeS
 rw [show L.findIdx? (fun s => decide (s.id = id)) = some k from by
  rw [List.findIdx?_eq_some_iff_getElem]
  exact ⟨hk, by simpa using h, fun j hjk => by simpa using hj j hjk (by omega)⟩]
theorem place_none {L : List Stm} {id : ByteArray} (hj : ∀ j, j < L.length → ∀ h : j < L.length, ¬ L[j].id = id) : placeS L id = -1 := by
 unfold placeS
 rw [show L.findIdx? (fun s => decide (s.id = id)) = none from by
  rw [List.findIdx?_eq_none_iff]
  intro x hx
  obtain ⟨i, hi, rfl⟩ := List.mem_iff_getElem.1 hx
  simpa using hj i hi hi]
theorem place_a (base : World) (L : List Stm) (id : ByteArray) : PureA Tryz.prog base 18 [.d (.sl 9 (L.map stmC)), .d (.v (.string id))] (.d (.v (.int .i64 (placeS L id)))) := by
 refine pure_enter ttOk Tryz.call18 Tryz.func18 rfl fun H hB hb hF => ?_
 rw [Tryz.results18, Tryz.ntmps18]
 simp only [arr_list, List.length_cons, List.length_nil, List.replicate, List.cons_append, List.nil_append, Nat.reduceAdd, Nat.reduceSub]
 simp only [fctL, fctA, fctP, List.length_map] at hF
 have hL := hF.1.1
 clear hF hB hb
 repeat refine aw_seq ?_
 refine aw_run ttOk (by kernel_rfl) (by simp only [erun, eall, estep, avs, tts, Nat.reduceAdd, Nat.reduceMul, Nat.reduceSub, Nat.reduceEqDiff, Nat.reduceLT, Nat.reduceLeDiff, Int.reduceToNat, Int.reduceLE, Int.reduceLT, Int.toNat_natCast, reduceCtorEq] <;> first | with_reducible rfl | rfl) ?_
 repeat refine aw_seq ?_
 refine aw_run ttOk (by kernel_rfl) (by simp only [erun, eall, estep, avs, tts, Nat.reduceAdd, Nat.reduceMul, Nat.reduceSub, Nat.reduceEqDiff, Nat.reduceLT, Nat.reduceLeDiff, Int.reduceToNat, Int.reduceLE, Int.reduceLT, Int.toNat_natCast, reduceCtorEq] <;> first | with_reducible rfl | rfl) ?_
 refine aw_block (aw_loop (fun n env H' => ∃ k, n = L.length - k ∧ k ≤ L.length ∧ H' = H ∧ (∀ j, j < k → ∀ h : j < L.length, ¬ L[j].id = id) ∧ env = [.d (.sl 9 (L.map stmC)), .d (.v (.string id)), .undef, .undef, .undef, .d (.v (.int .i64 (k : Int))), .undef, .undef, .undef, .undef, .undef, .undef, .undef, .undef, .undef, .undef, .undef, .undef, .undef, .undef]) ?_ ⟨0, rfl, Nat.zero_le _, rfl, fun j hj => by omega, rfl⟩ ?_)
 ·simp [Goes, EnvLe]
 rintro n env H' ⟨k, rfl, hk, rfl, hj, rfl⟩ hN
 repeat refine aw_seq ?_
 refine aw_run ttOk (by kernel_rfl) (by simp only [erun, eall, estep, avs, tts, Nat.reduceAdd, Nat.reduceMul, Nat.reduceSub, Nat.reduceEqDiff, Nat.reduceLT, Nat.reduceLeDiff, Int.reduceToNat, Int.reduceLE, Int.reduceLT, Int.toNat_natCast, reduceCtorEq] <;> first | with_reducible rfl | rfl) ?_
 repeat refine aw_seq ?_
 refine aw_cond rfl rfl (fun hb => ?_) fun hb => ?_
 ·have hlt : k < L.length := by simpa using hb
  have hix : (0 : Int) ≤ (k : Int) := by omega
  have hgd : (L.map stmC).getD k [] = stmC L[k] := by simp [hlt]
  refine aw_skip ?_
  repeat refine aw_seq ?_
  refine aw_block ?_
  repeat refine aw_seq ?_
  refine aw_run ttOk (by kernel_rfl) (by simp only [erun, eall, estep, avs, tts, Nat.reduceAdd, Nat.reduceMul, Nat.reduceSub, Nat.reduceEqDiff, Nat.reduceLT, Nat.reduceLeDiff, Int.reduceToNat, Int.reduceLE, Int.reduceLT, Int.toNat_natCast, reduceCtorEq, hgd, hix, hlt, stmC] <;> first | with_reducible rfl | rfl) ?_
  repeat refine aw_seq ?_
  refine aw_cond rfl rfl (fun hb => ?_) fun hb => ?_
  ·repeat refine aw_seq ?_
   refine aw_run ttOk (by kernel_rfl) (by simp only [erun, eall, estep, avs, tts, Nat.reduceAdd, Nat.reduceMul, Nat.reduceSub, Nat.reduceEqDiff, Nat.reduceLT, Nat.reduceLeDiff, Int.reduceToNat, Int.reduceLE, Int.reduceLT, Int.toNat_natCast, reduceCtorEq] <;> first | with_reducible rfl | rfl) ?_
   exact aw_ret ⟨_, rfl, [], by simp, by rw [place_some hlt hj (by simpa using hb)]; rfl⟩
  ·refine aw_skip ?_
   repeat refine aw_seq ?_
   refine aw_run ttOk (by kernel_rfl) (by simp only [erun, eall, estep, avs, tts, Nat.reduceAdd, Nat.reduceMul, Nat.reduceSub, Nat.reduceEqDiff, Nat.reduceLT, Nat.reduceLeDiff, Int.reduceToNat, Int.reduceLE, Int.reduceLT, Int.toNat_natCast, reduceCtorEq, wrap_succ hlt hL] <;> first | with_reducible rfl | rfl) ?_
   refine ⟨L.length - (k + 1), _, _, by omega, ⟨?_, .inl rfl⟩, k + 1, rfl, hlt, rfl, fun j hjk h => ?_, rfl⟩
   ·simp [EnvLe, stmC]
   ·rcases Nat.lt_succ_iff_lt_or_eq.1 hjk with h1 | rfl
    ·exact hj j h1 h
    ·simpa using hb
 ·refine aw_exit ?_
  repeat refine aw_seq ?_
  refine aw_run ttOk (by kernel_rfl) (by simp only [erun, eall, estep, avs, tts, Nat.reduceAdd, Nat.reduceMul, Nat.reduceSub, Nat.reduceEqDiff, Nat.reduceLT, Nat.reduceLeDiff, Int.reduceToNat, Int.reduceLE, Int.reduceLT, Int.toNat_natCast, reduceCtorEq] <;> first | with_reducible rfl | rfl) ?_
  have hkL : k = L.length := by simp at hb; omega
  exact aw_ret ⟨_, rfl, [], by simp, by rw [place_none fun j hjl => hj j (by omega)]; rfl⟩
end Av
end Go.Proofs.YtnkepmfgmfeabaaGreatDoor
