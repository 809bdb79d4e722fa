import Derived.Test.YtnkepmfgmfeabaaGreatDoorQ3
import Derived.Laws.StructEq
import Derived.Shelf.SlicesE.Kit
import Derived.Test.YtnkepmfgmfeabaaGreatDoorQ1
import Derived.Test.YtnkepmfgmfeabaaGreatDoorProg
import Derived.KernelRfl
import Derived.Test.YtnkepmfgmfeabaaGreatDoorQ2
import Derived.BigQuiet
import Derived.Maps.Own
import Derived.Maps.OwnOps
import Derived.Maps.OwnSet
import Derived.Maps.Views
import Derived.StringKeys
import Derived.WalkLawsBesides
import Derived.Lib.QuietBelow
set_option linter.unusedVariables false
namespace Go.Proofs.YtnkepmfgmfeabaaGreatDoor
open Go Go.RowKit

def smallB (l : List ByteArray) : Bool := l.all fun s => decide (s.size ≤ 100)
def fewS (sig path : List ByteArray) : Bool := decide (sig.length ≤ 30) && (decide (path.length ≤ 30) && (smallB sig && smallB path))
theorem small_take {l : List ByteArray} {i : Nat} (h : i < l.length) : smallB (l.take (i + 1)) = (smallB (l.take i) && decide ((l.getD i ByteArray.empty).size ≤ 100)) := by
 unfold smallB
 rw [List.take_succ_eq_append_getElem h, List.all_append]
 simp [List.getD, h]
theorem small_not {l : List ByteArray} {i : Nat} (h : i < l.length) (hn : ¬ (l.getD i ByteArray.empty).size ≤ 100) : smallB l = false := by
 cases hq : smallB l with
 | false => rfl
 | true =>
  have := List.all_eq_true.1 hq (l.getD i ByteArray.empty) (by simp [List.getD, h])
  exact absurd (by simpa using this) hn
theorem few_sig {sig path : List ByteArray} (h : smallB sig = false) : fewS sig path = false := by simp [fewS, h]
theorem few_path {sig path : List ByteArray} (h : smallB path = false) : fewS sig path = false := by simp [fewS, h]
def FewPost (sig path : List ByteArray) (w : World) (e : Ending) (w' : World) : Prop := e = .returned (.bool (fewS sig path)) ∧ Below w.heap.size w w'
end Go.Proofs.YtnkepmfgmfeabaaGreatDoor

namespace Go.Proofs.YtnkepmfgmfeabaaGreatDoor
open Go Go.RowKit

set_option maxRecDepth 100000 in
set_option maxHeartbeats 2000000 in
theorem few03_calls (idx : Int) (vs vp : Value) (sig path : List ByteArray) (w : World) (hs : IsStrC w vs sig) (hp : IsStrC w vp path) (hss : ∀ s ∈ sig, s.size ≤ 9223372036854775807) (hps : ∀ s ∈ path, s.size ≤ 9223372036854775807) :
  Calls Tryz.prog 25 #[.agg #[.int .i64 idx, vs, vp]] w (FewPost sig path w) := by
 have HSS := Lib.hid hss
 have HSP := Lib.hid hps
 obtain ⟨aos, cs, rfl, hlcs, hmxs, hcells⟩ := hs
 obtain ⟨aop, cp, rfl, hlcp, hmxp, hcellp⟩ := hp
 have hmxs' : cs ≤ 9223372036854775807 := hmxs
 have hmxp' : cp ≤ 9223372036854775807 := hmxp
 have HCS := Lib.hid hcells
 have HCP := Lib.hid hcellp
 obtain ⟨hbx, hB1, hz⟩ := box_one w #[.int .i64 idx, .slice aos sig.length cs, .slice aop path.length cp] 25
 obtain ⟨ls, hls⟩ : ∃ ls, ls = sig.length := ⟨_, rfl⟩
 obtain ⟨lp, hlp⟩ : ∃ lp, lp = path.length := ⟨_, rfl⟩
 rw [← hls] at hlcs hbx hB1 hz ⊢
 rw [← hlp] at hlcp hbx hB1 hz ⊢
 have HLS := Lib.hid hls
 have HLP := Lib.hid hlp
 clear hss hps hmxs hmxp hcells hcellp hls hlp
 go_enter Tryz.func25, Tryz.ntmps25
 go_wp2_with fail
 generalize hg : w.alloc (.cells #[.int .i64 idx, .slice aos ls cs, .slice aop lp cp] 25) = w0 at *
 have c1 : w0.cell? ⟨w.heap.size, 1, none⟩ = some (.slice aos ls cs) := by rw [cell_of_row _ _ 1 _ _ _ hbx]; rfl
 have c2 : w0.cell? ⟨w.heap.size, 2, none⟩ = some (.slice aop lp cp) := by rw [cell_of_row _ _ 2 _ _ _ hbx]; rfl
 have HB1 := Lib.hid hB1
 clear hg hbx hB1
 go_loop [3] (fun vi => ∃ i : Nat, vi = .int .i64 (i : Int) ∧ i ≤ ls ∧ i ≤ 30 ∧ Hid (smallB (sig.take i) = true)) (fun vi => ls - (RowKit.intOf vi).toNat)
 case atStart => exact ⟨0, rfl, by omega, by omega, Lib.hid rfl⟩
 case round =>
  obtain ⟨i, rfl, hi, hi30, HI⟩ := hrel
  by_cases hlt : i < ls
  ·have hlt' : decide ((i : Int) < (ls : Int)) = true := decide_eq_true (by omega)
   by_cases h30 : i < 30
   ·obtain ⟨b, o, rfl, hbl, hc⟩ := HCS.out i (by rw [← HLS.out]; exact hlt)
    have hil : i < sig.length := by rw [← HLS.out]; exact hlt
    have hc0 : w0.cell? ⟨b, o + i, none⟩ = some (.string (sig.getD i ByteArray.empty)) := by rw [HB1.out.cell (p := ⟨b, o + i, none⟩) hbl]; exact hc
    have HT := Lib.hid (small_take hil)
    have HF := Lib.hid (fun h => few_sig (path := path) (small_not (i := i) hil h))
    have hsz := getD_size HSS.out i
    generalize sig.getD i ByteArray.empty = s at *
    clear hil hc
    by_cases h3 : s.size ≤ 100
    ·have HI2 : Hid (smallB (sig.take (i + 1)) = true) := Lib.hid (by rw [HT.out, HI.out, decide_eq_true h3]; rfl)
     clear HT HF HI
     go_wp2
     go_round
     case rel => exact ⟨i + 1, by go_num, by omega, by omega, HI2⟩
     case measure => simp only [RowKit.intOf]; omega
    ·have HF2 := Lib.hid (HF.out h3)
     clear HT HF HI
     go_wp2
     go_ret
     exact ⟨by rw [HF2.out]; rfl, HB1.out⟩
   ·have hE : ¬ ls ≤ 30 ∨ ls = i := by omega
    have h30' : ¬ ((i : Int) < 30) := by omega
    have HE : Hid (fewS sig path = false) := by
     have e : ¬ sig.length ≤ 30 := by rw [← HLS.out]; omega
     exact Lib.hid (by simp [fewS, e])
    clear HI
    go_wp2_with fail
    go_loop [4] (fun vi => ∃ i : Nat, vi = .int .i64 (i : Int) ∧ i ≤ lp ∧ i ≤ 30) (fun vi => lp - (RowKit.intOf vi).toNat)
    case atStart => exact ⟨0, rfl, by omega, by omega⟩
    case round =>
     obtain ⟨j, rfl, hj, hj30⟩ := hrel
     by_cases hlt2 : j < lp
     ·have hlt2' : decide ((j : Int) < (lp : Int)) = true := decide_eq_true (by omega)
      by_cases hj3 : j < 30
      ·obtain ⟨b, o, rfl, hbl, hc⟩ := HCP.out j (by rw [← HLP.out]; exact hlt2)
       have hc0 : w0.cell? ⟨b, o + j, none⟩ = some (.string (path.getD j ByteArray.empty)) := by rw [HB1.out.cell (p := ⟨b, o + j, none⟩) hbl]; exact hc
       have hsz := getD_size HSP.out j
       generalize path.getD j ByteArray.empty = s at *
       clear hc
       by_cases h3 : s.size ≤ 100
       ·go_wp2
        go_round
        case rel => exact ⟨j + 1, by go_num, by omega, by omega⟩
        case measure => simp only [RowKit.intOf]; omega
       ·go_wp2
        go_ret
        exact ⟨by rw [HE.out]; rfl, HB1.out⟩
      ·have hj3' : ¬ ((j : Int) < 30) := by omega
       have hls30 : ¬ ((ls : Int) ≤ 30) := by omega
       go_wp2
       go_ret
       exact ⟨by rw [HE.out]; rfl, HB1.out⟩
     ·have hls30 : ¬ ((ls : Int) ≤ 30) := by omega
      have hlt2' : ¬ ((j : Int) < (lp : Int)) := by omega
      go_wp2
      go_ret
      exact ⟨by rw [HE.out]; rfl, HB1.out⟩
  ·have hil : i = ls := by omega
   have HSM : Hid (smallB sig = true) := Lib.hid (by have := HI.out; rwa [List.take_of_length_le (by rw [← HLS.out]; omega)] at this)
   have hlt' : ¬ ((i : Int) < (ls : Int)) := by omega
   clear HI
   go_wp2_with fail
   go_loop [4] (fun vi => ∃ i : Nat, vi = .int .i64 (i : Int) ∧ i ≤ lp ∧ i ≤ 30 ∧ Hid (smallB (path.take i) = true)) (fun vi => lp - (RowKit.intOf vi).toNat)
   case atStart => exact ⟨0, rfl, by omega, by omega, Lib.hid rfl⟩
   case round =>
    obtain ⟨j, rfl, hj, hj30, HJ⟩ := hrel
    have hls30 : (ls : Int) ≤ 30 := by omega
    by_cases hlt2 : j < lp
    ·have hlt2' : decide ((j : Int) < (lp : Int)) = true := decide_eq_true (by omega)
     by_cases hj3 : j < 30
     ·obtain ⟨b, o, rfl, hbl, hc⟩ := HCP.out j (by rw [← HLP.out]; exact hlt2)
      have hjl : j < path.length := by rw [← HLP.out]; exact hlt2
      have hc0 : w0.cell? ⟨b, o + j, none⟩ = some (.string (path.getD j ByteArray.empty)) := by rw [HB1.out.cell (p := ⟨b, o + j, none⟩) hbl]; exact hc
      have HT := Lib.hid (small_take hjl)
      have HF := Lib.hid (fun h => few_path (sig := sig) (small_not (i := j) hjl h))
      have hsz := getD_size HSP.out j
      generalize path.getD j ByteArray.empty = s at *
      clear hc hjl
      by_cases h3 : s.size ≤ 100
      ·have HJ2 : Hid (smallB (path.take (j + 1)) = true) := Lib.hid (by rw [HT.out, HJ.out, decide_eq_true h3]; rfl)
       clear HT HF HJ
       go_wp2
       go_round
       case rel => exact ⟨j + 1, by go_num, by omega, by omega, HJ2⟩
       case measure => simp only [RowKit.intOf]; omega
      ·have HF2 := Lib.hid (HF.out h3)
       clear HT HF HJ
       go_wp2
       go_ret
       exact ⟨by rw [HF2.out]; rfl, HB1.out⟩
     ·have hj3' : ¬ ((j : Int) < 30) := by omega
      have hlp30 : ¬ ((lp : Int) ≤ 30) := by omega
      have HE : Hid (fewS sig path = false) := by
       have e : ¬ path.length ≤ 30 := by rw [← HLP.out]; omega
       exact Lib.hid (by simp [fewS, e])
      clear HJ
      go_wp2
      go_ret
      exact ⟨by rw [HE.out]; rfl, HB1.out⟩
    ·have hjl : j = lp := by omega
     have HSN : Hid (smallB path = true) := Lib.hid (by have := HJ.out; rwa [List.take_of_length_le (by rw [← HLP.out]; omega)] at this)
     have hlt2' : ¬ ((j : Int) < (lp : Int)) := by omega
     have hlp30 : (lp : Int) ≤ 30 := by omega
     have HE : Hid (fewS sig path = true) := by
      have e1 : sig.length ≤ 30 := by rw [← HLS.out]; omega
      have e2 : path.length ≤ 30 := by rw [← HLP.out]; omega
      exact Lib.hid (by simp [fewS, e1, e2, HSM.out, HSN.out])
     clear HJ
     go_wp2
     go_ret
     exact ⟨by rw [HE.out]; rfl, HB1.out⟩
end Go.Proofs.YtnkepmfgmfeabaaGreatDoor
set_option linter.unusedVariables false
namespace Go.Proofs.YtnkepmfgmfeabaaGreatDoor
open Go Go.RowKit

theorem pathT_sizes (l : List ByteArray) (i : Nat) : ∀ s ∈ pathT l i, s.size ≤ 1099511627776 := fun s hs => by
 have := isS_size (List.all_eq_true.1 (path_isS l i) s hs); omega
theorem sigT_sizes (secret : ByteArray) (i : Nat) (m : ByteArray) : ∀ s ∈ sigT secret i m, s.size ≤ 1099511627776 := fun s hs => by
 unfold sigT at hs
 obtain ⟨k, _, rfl⟩ := List.mem_map.1 hs
 rw [chain16 (startT_size _ _ _)]; omega
end Go.Proofs.YtnkepmfgmfeabaaGreatDoor
set_option linter.unusedVariables false
namespace Go.Proofs.YtnkepmfgmfeabaaGreatDoor
open Go Go.RowKit

/-- a slice of inputs, read alone -/
def IsInp (w : World) (v : Value) (l : List (ByteArray × Int)) : Prop :=
 ∃ (ao : Option Addr) (cap : Nat), v = .slice ao l.length cap ∧ l.length ≤ cap ∧ cap ≤ maxLen ∧ ∀ i, i < l.length → ∃ b o, ao = some ⟨b, o, none⟩ ∧ b < w.heap.size ∧ w.cell? ⟨b, o + i * 2, none⟩ = some (.string (l.getD i nilInp).1) ∧ w.cell? ⟨b, o + i * 2 + 1, none⟩ = some (.int .i64 (l.getD i nilInp).2)
theorem IsInp.on {w w' : World} {v : Value} {l : List (ByteArray × Int)} (h : IsInp w v l) (hb : Below w.heap.size w w') : IsInp w' v l := by
 obtain ⟨ao, cap, h1, h2, h3, h4⟩ := h
 refine ⟨ao, cap, h1, h2, h3, fun i hi => ?_⟩
 obtain ⟨b, o, e, hlt, hc, hd⟩ := h4 i hi
 exact ⟨b, o, e, Nat.lt_of_lt_of_le hlt hb.size, by rw [hb.cell (p := ⟨b, o + i * 2, none⟩) hlt]; exact hc, by rw [hb.cell (p := ⟨b, o + i * 2 + 1, none⟩) hlt]; exact hd⟩
theorem IsInp.form {w : World} {v : Value} {l : List (ByteArray × Int)} (h : IsInp w v l) : ∃ ao cap, v = .slice ao l.length cap := by
 obtain ⟨ao, cap, e, _⟩ := h
 exact ⟨ao, cap, e⟩
theorem IsInp.len {w : World} {v : Value} {l : List (ByteArray × Int)} (h : IsInp w v l) : l.length ≤ 9223372036854775807 := by
 obtain ⟨ao, cap, _, h1, h2, _⟩ := h
 exact Nat.le_trans h1 h2
theorem IsInp.at {w : World} {v : Value} {l : List (ByteArray × Int)} (h : IsInp w v l) (i : Nat) (hi : i < l.length) : ∃ b o cap, v = .slice (some ⟨b, o, none⟩) l.length cap ∧ b < w.heap.size ∧ w.cell? ⟨b, o + i * 2, none⟩ = some (.string (l.getD i nilInp).1) ∧ w.cell? ⟨b, o + i * 2 + 1, none⟩ = some (.int .i64 (l.getD i nilInp).2) := by
 obtain ⟨ao, cap, e, _, _, h4⟩ := h
 obtain ⟨b, o, rfl, hlt, hc, hd⟩ := h4 i hi
 exact ⟨b, o, cap, e, hlt, hc, hd⟩
theorem strc_len {w : World} {v : Value} {l : List ByteArray} (h : IsStrC w v l) : l.length ≤ 9223372036854775807 := by
 obtain ⟨ao, c, e, h1, h2, _⟩ := h
 exact Nat.le_trans h1 h2
/-- the sizes of a statement's texts -/
structure Stm.Sized (s : Stm) (M : Nat) : Prop where
 id : s.id.size ≤ M
 prod : s.prod.size ≤ M
 holder : s.holder.size ≤ M
 uses : ∀ t ∈ s.uses, t.size ≤ M
 inputs : ∀ x ∈ s.inputs, x.1.size ≤ M
 sig : ∀ t ∈ s.sig, t.size ≤ M
 path : ∀ t ∈ s.path, t.size ≤ M
/-- a statement's value: nine cells, four slices -/
def stmCells (s : Stm) (vu vi vs vp : Value) : Array Value := #[.string s.id, .string s.prod, .int .i64 s.q, .string s.holder, vu, vi, .int .i64 s.idx, vs, vp]
structure StmAt (w : World) (s : Stm) (vu vi vs vp : Value) : Prop where
 uses : IsStrC w vu s.uses
 inputs : IsInp w vi s.inputs
 sig : IsStrC w vs s.sig
 path : IsStrC w vp s.path
theorem StmAt.on {w w' : World} {s : Stm} {vu vi vs vp : Value} (h : StmAt w s vu vi vs vp) (hb : Below w.heap.size w w') : StmAt w' s vu vi vs vp := ⟨h.uses.on hb, h.inputs.on hb, h.sig.on hb, h.path.on hb⟩
theorem inp_le {l : List (ByteArray × Int)} {M : Nat} (h : ∀ x ∈ l, x.1.size ≤ M) (i : Nat) : (l.getD i nilInp).1.size ≤ M := by
 by_cases hi : i < l.length
 ·rw [show l.getD i nilInp = l[i] by simp [List.getD, hi]]; exact h _ (List.getElem_mem hi)
 ·rw [show l.getD i nilInp = nilInp by simp [List.getD, Nat.le_of_not_lt hi]]; exact Nat.zero_le _
/-- a moderate size -/
def shortS (s : Stm) : Bool :=
 decide (s.id.size ≤ 60) && decide (s.prod.size ≤ 60) && decide (s.holder.size ≤ 60) && decide (s.uses.length ≤ 14) && decide (s.inputs.length ≤ 14) && fewS s.sig s.path && s.uses.all (fun t => decide (t.size ≤ 60)) && s.inputs.all (fun x => decide (x.1.size ≤ 60))
end Go.Proofs.YtnkepmfgmfeabaaGreatDoor
set_option linter.unusedVariables false
namespace Go.Proofs.YtnkepmfgmfeabaaGreatDoor
open Go Go.RowKit

/-! the strings that are digested for a statement's message -/
def sStatement : ByteArray := { data := #[115, 116, 97, 116, 101, 109, 101, 110, 116] }
def decI (n : Int) : ByteArray := decS n.toNat
def pairsT (l : List (ByteArray × Int)) : List ByteArray := l.flatMap fun x => [x.1, decI x.2]
def fieldsT (s : Stm) : List ByteArray := [sStatement, s.id, s.prod, decI s.q, s.holder, decS s.uses.length] ++ s.uses ++ pairsT s.inputs
def messT (s : Stm) : ByteArray := dg (fieldsT s)
def sameSt (a b : Stm) : Bool := decide (a.id = b.id) && decide (a.prod = b.prod) && decide (a.q = b.q) && decide (a.holder = b.holder) && decide (a.uses = b.uses) && decide (a.inputs = b.inputs)
theorem decI_inj {a b : Int} (ha : 0 ≤ a) (hb : 0 ≤ b) (h : decI a = decI b) : a = b := by
 have := decS_inj h
 omega
theorem pairsT_inj : ∀ {l m : List (ByteArray × Int)}, (∀ x ∈ l, 0 ≤ x.2) → (∀ x ∈ m, 0 ≤ x.2) → pairsT l = pairsT m → l = m
 | [], [], _, _, _ => rfl
 | [], y :: m, _, _, h => by simp [pairsT] at h
 | x :: l, [], _, _, h => by simp [pairsT] at h
 | x :: l, y :: m, hl, hm, h => by
  simp only [pairsT, List.flatMap_cons, List.cons_append, List.nil_append, List.cons.injEq] at h
  obtain ⟨h1, h2, h3⟩ := h
  have e2 := decI_inj (hl x (by simp)) (hm y (by simp)) h2
  have e3 := pairsT_inj (fun z hz => hl z (by simp [hz])) (fun z hz => hm z (by simp [hz])) h3
  rw [e3, Prod.ext h1 e2]
theorem proper_q {s : Stm} (h : properB s = true) : 0 ≤ s.q ∧ ∀ x ∈ s.inputs, 0 ≤ x.2 := by
 unfold properB at h
 simp only [Bool.and_eq_true] at h
 obtain ⟨⟨_, hi⟩, ⟨⟨⟨⟨⟨_, _⟩, hq⟩, _⟩, _⟩, _⟩, _⟩ := h
 refine ⟨?_, fun x hx => ?_⟩
 ·unfold quantB at hq
  simp only [Bool.and_eq_true, decide_eq_true_eq] at hq
  omega
 ·unfold inpsOk at hi
  obtain ⟨j, hj, rfl⟩ := List.mem_iff_getElem.1 hx
  have := List.all_eq_true.1 hi j (List.mem_range.2 hj)
  unfold inpOk at this
  simp only [Bool.and_eq_true] at this
  have hq2 := this.1.2
  rw [show s.inputs.getD j nilInp = s.inputs[j] by simp [List.getD, hj]] at hq2
  unfold quantB at hq2
  simp only [Bool.and_eq_true, decide_eq_true_eq] at hq2
  omega
theorem fields_inj {a b : Stm} (ha : properB a = true) (hb : properB b = true) (h : fieldsT a = fieldsT b) : sameSt a b = true := by
 obtain ⟨qa, ia⟩ := proper_q ha
 obtain ⟨qb, ib⟩ := proper_q hb
 unfold fieldsT at h
 simp only [List.cons_append, List.nil_append, List.cons.injEq, true_and] at h
 obtain ⟨h1, h2, h3, h4, h5, h6⟩ := h
 have hl := decS_inj h5
 have hq := decI_inj qa qb h3
 obtain ⟨hu, hi⟩ := List.append_inj h6 hl
 have hp := pairsT_inj ia ib hi
 unfold sameSt
 simp [h1, h2, hq, h4, hu, hp]
/-- two statements that are not the same: the messages differ, or two different texts have one digest -/
theorem enduse_binds {a b : Stm} (ha : properB a = true) (hb : properB b = true) (hn : sameSt a b = false) : messT a ≠ messT b ∨ (jB (fieldsT a) ≠ jB (fieldsT b) ∧ sumS (jB (fieldsT a)) = sumS (jB (fieldsT b))) := by
 by_cases h : messT a = messT b
 ·right
  refine ⟨fun e => ?_, h⟩
  have := fields_inj ha hb (jB_inj e)
  rw [this] at hn
  cases hn
 ·exact .inl h
end Go.Proofs.YtnkepmfgmfeabaaGreatDoor
set_option linter.unusedVariables false
namespace Go.Proofs.YtnkepmfgmfeabaaGreatDoor
open Go Go.RowKit

theorem neq_input (a b : ByteArray) (p q : Int) (w : World) : (binOp .neq 52 (.agg #[.string a, .int .i64 p]) (.agg #[.string b, .int .i64 q])).run Tryz.prog w = .ok (.bool (!(decide (a = b) && decide (p = q)))) w := by
 have u3 := Tryz.underlying3
 have a3 := Tryz.isAgg3
 have z3 := Tryz.sizeOf3
 have u9 := Tryz.underlying9
 have a9 := Tryz.isAgg9
 have z9 := Tryz.sizeOf9
 have hS : Tryz.prog.underlying 52 = some (.struct (Tryz.prog.fieldsOf 52)) := by kernel_rfl
 have hp : Tryz.prog.stoodInHeld 52 = false := by kernel_rfl
 rw [run_neq_struct, show (10000 : Nat) = 9999 + 1 from rfl, run_equalIn_agg w 9999 52 _ _ hS hp]
 simp only [Program.fieldsOf, Tryz.underlying52]
 go_simp
 by_cases h1 : a = b
 ·subst h1
  by_cases h2 : p = q <;> simp [h2]
 ·have h3 : ¬ a.toList = b.toList := fun e => by
   have := strne h1
   rw [e] at this
   simp at this
  by_cases h2 : p = q <;> simp [h1, h2, h3]
end Go.Proofs.YtnkepmfgmfeabaaGreatDoor
set_option linter.unusedVariables false
set_option linter.unusedSimpArgs false
namespace Go.Proofs.YtnkepmfgmfeabaaGreatDoor
open Go Go.RowKit
namespace Av
theorem kinds_si {xs : List Value} (h : kindsL [.str, .int .i64] xs = true) : ∃ a n, xs = [.string a, .int .i64 n] := by
 match xs, h with
 | [], h => simp [kindsL] at h
 | [x], h => simp [kindsL] at h
 | x :: y :: z :: r, h => simp [kindsL] at h
 | [x, y], h =>
  simp only [kindsL, Bool.and_eq_true, Bool.and_true] at h
  cases x <;> simp [kindV] at h
  cases y <;> simp [kindV] at h
  obtain rfl := h
  exact ⟨_, _, rfl⟩
theorem flat92 : FlatOk Tryz.prog 92 [.str, .int .i64] := by
 have u3 := Tryz.underlying3
 have a3 := Tryz.isAgg3
 have z3 := Tryz.sizeOf3
 have u9 := Tryz.underlying9
 have a9 := Tryz.isAgg9
 have z9 := Tryz.sizeOf9
 have hS : Tryz.prog.underlying 92 = some (.struct (Tryz.prog.fieldsOf 92)) := by kernel_rfl
 have hp : Tryz.prog.stoodInHeld 92 = false := by kernel_rfl
 refine ⟨by kernel_rfl, fun xs ys w hx hy => ?_⟩
 obtain ⟨a, p, rfl⟩ := kinds_si hx
 obtain ⟨b, q, rfl⟩ := kinds_si hy
 refine ⟨?_, fun e => ?_⟩
 ·show (Op.equalIn (9999 + 1) 92 (.agg #[.string a, .int .i64 p]) (.agg #[.string b, .int .i64 q])).run Tryz.prog w = _
  rw [run_equalIn_agg w 9999 92 _ _ hS hp]
  simp only [Program.fieldsOf, Tryz.underlying92]
  go_simp
  have e1 : ((IntKind.i64 == IntKind.i64) && decide (p = q)) = decide (p = q) := by simp
  simp only [eqL, eqV, e1]
  by_cases h1 : a = b
  ·subst h1
   by_cases h2 : p = q <;> simp [h2]
  ·have h3 : ¬ a.toList = b.toList := fun e => by
    have := strne h1
    rw [e] at this
    simp at this
   by_cases h2 : p = q <;> simp [h1, h2, h3]
 ·show (Instr.checkKey e (9999 + 1) 92 (.agg #[.string a, .int .i64 p])).run Tryz.prog w = _
  unfold Instr.checkKey
  simp only [Program.fieldsOf, Tryz.underlying92]
  go_simp
  rw [MapKept.run_checkKey u9 (k := .string a) trivial e 9998, Result.andThen_ok, MapKept.run_checkKey u3 (k := .int .i64 p) (by first | rfl | trivial) e 9998]
theorem flat52 : FlatOk Tryz.prog 52 [.str, .int .i64] := by
 have u3 := Tryz.underlying3
 have a3 := Tryz.isAgg3
 have z3 := Tryz.sizeOf3
 have u9 := Tryz.underlying9
 have a9 := Tryz.isAgg9
 have z9 := Tryz.sizeOf9
 have hS : Tryz.prog.underlying 52 = some (.struct (Tryz.prog.fieldsOf 52)) := by kernel_rfl
 have hp : Tryz.prog.stoodInHeld 52 = false := by kernel_rfl
 refine ⟨by kernel_rfl, fun xs ys w hx hy => ?_⟩
 obtain ⟨a, p, rfl⟩ := kinds_si hx
 obtain ⟨b, q, rfl⟩ := kinds_si hy
 refine ⟨?_, fun e => ?_⟩
 ·show (Op.equalIn (9999 + 1) 52 (.agg #[.string a, .int .i64 p]) (.agg #[.string b, .int .i64 q])).run Tryz.prog w = _
  rw [run_equalIn_agg w 9999 52 _ _ hS hp]
  simp only [Program.fieldsOf, Tryz.underlying52]
  go_simp
  have e1 : ((IntKind.i64 == IntKind.i64) && decide (p = q)) = decide (p = q) := by simp
  simp only [eqL, eqV, e1]
  by_cases h1 : a = b
  ·subst h1
   by_cases h2 : p = q <;> simp [h2]
  ·have h3 : ¬ a.toList = b.toList := fun e => by
    have := strne h1
    rw [e] at this
    simp at this
   by_cases h2 : p = q <;> simp [h1, h2, h3]
 ·show (Instr.checkKey e (9999 + 1) 52 (.agg #[.string a, .int .i64 p])).run Tryz.prog w = _
  unfold Instr.checkKey
  simp only [Program.fieldsOf, Tryz.underlying52]
  go_simp
  rw [MapKept.run_checkKey u9 (k := .string a) trivial e 9998, Result.andThen_ok, MapKept.run_checkKey u3 (k := .int .i64 p) (by first | rfl | trivial) e 9998]
end Av
end Go.Proofs.YtnkepmfgmfeabaaGreatDoor
set_option linter.unusedVariables false
namespace Go.Proofs.YtnkepmfgmfeabaaGreatDoor
open Go Go.RowKit
namespace Av

/-! The types of this program, az far az they are needed. -/
def ti3 : TI := { size := 1, bytes := 8, kind := .int .i64, zero := [.int .i64 0] }
theorem ok3 : TTok Tryz.prog 3 ti3 := ttok_mk Tryz.type3 (by kernel_rfl) (by kernel_rfl) (by kernel_rfl) (fun _ h => nomatch h)
def ti4 : TI := { size := 1, bytes := 1, kind := .bool, zero := [.bool false] }
theorem ok4 : TTok Tryz.prog 4 ti4 := ttok_mk Tryz.type4 (by kernel_rfl) (by kernel_rfl) (by kernel_rfl) (fun _ h => nomatch h)
def ti5 : TI := { size := 1, bytes := 1, kind := .int .u8, zero := [.int .u8 0] }
theorem ok5 : TTok Tryz.prog 5 ti5 := ttok_mk Tryz.type5 (by kernel_rfl) (by kernel_rfl) (by kernel_rfl) (fun _ h => nomatch h)
def ti9 : TI := { size := 1, bytes := 16, kind := .str, zero := [.string ⟨#[]⟩] }
theorem ok9 : TTok Tryz.prog 9 ti9 := ttok_mk Tryz.type9 (by kernel_rfl) (by kernel_rfl) (by kernel_rfl) (fun _ h => nomatch h)
def ti22 : TI := { size := 1, bytes := 24, kind := .slice 9, zero := [.slice none 0 0] }
theorem ok22 : TTok Tryz.prog 22 ti22 := ttok_mk Tryz.type22 (by kernel_rfl) (by kernel_rfl) (by kernel_rfl) (fun _ h => nomatch h)
def ti23 : TI := { size := 1, bytes := 24, kind := .slice 52, zero := [.slice none 0 0] }
theorem ok23 : TTok Tryz.prog 23 ti23 := ttok_mk Tryz.type23 (by kernel_rfl) (by kernel_rfl) (by kernel_rfl) (fun _ h => nomatch h)
def ti25 : TI := { size := 3, bytes := 56, kind := .struct [(0, 3), (1, 22), (2, 22)], zero := [.int .i64 0, .slice none 0 0, .slice none 0 0] }
theorem ok25 : TTok Tryz.prog 25 ti25 := ttok_mk Tryz.type25 (by kernel_rfl) (by kernel_rfl) (by kernel_rfl) (fun _ h => nomatch h)
def ti27 : TI := { size := 9, bytes := 160, kind := .struct [(0, 9), (1, 9), (2, 3), (3, 9), (4, 22), (5, 23), (6, 25)], zero := [.string ⟨#[]⟩, .string ⟨#[]⟩, .int .i64 0, .string ⟨#[]⟩, .slice none 0 0, .slice none 0 0, .int .i64 0, .slice none 0 0, .slice none 0 0] }
theorem ok27 : TTok Tryz.prog 27 ti27 := ttok_mk Tryz.type27 (by kernel_rfl) (by kernel_rfl) (by kernel_rfl) (fun _ h => nomatch h)
def ti35 : TI := { size := 1, bytes := 24, kind := .slice 48, zero := [.slice none 0 0] }
theorem ok35 : TTok Tryz.prog 35 ti35 := ttok_mk Tryz.type35 (by kernel_rfl) (by kernel_rfl) (by kernel_rfl) (fun _ h => nomatch h)
def ti37 : TI := { size := 1, bytes := 8, kind := .ptr 76, zero := [.pointer none] }
theorem ok37 : TTok Tryz.prog 37 ti37 := ttok_mk Tryz.type37 (by kernel_rfl) (by kernel_rfl) (by kernel_rfl) (fun _ h => nomatch h)
def ti38 : TI := { size := 1, bytes := 8, kind := .int .i64, zero := [.int .i64 0] }
theorem ok38 : TTok Tryz.prog 38 ti38 := ttok_mk Tryz.type38 (by kernel_rfl) (by kernel_rfl) (by kernel_rfl) (fun _ h => nomatch h)
def ti41 : TI := { size := 1, bytes := 24, kind := .slice 27, zero := [.slice none 0 0] }
theorem ok41 : TTok Tryz.prog 41 ti41 := ttok_mk Tryz.type41 (by kernel_rfl) (by kernel_rfl) (by kernel_rfl) (fun _ h => nomatch h)
def ti43 : TI := { size := 1, bytes := 24, kind := .slice 3, zero := [.slice none 0 0] }
theorem ok43 : TTok Tryz.prog 43 ti43 := ttok_mk Tryz.type43 (by kernel_rfl) (by kernel_rfl) (by kernel_rfl) (fun _ h => nomatch h)
def ti48 : TI := { size := 11, bytes := 184, kind := .struct [(0, 3), (1, 27), (10, 9)], zero := [.int .i64 0, .string ⟨#[]⟩, .string ⟨#[]⟩, .int .i64 0, .string ⟨#[]⟩, .slice none 0 0, .slice none 0 0, .int .i64 0, .slice none 0 0, .slice none 0 0, .string ⟨#[]⟩] }
theorem ok48 : TTok Tryz.prog 48 ti48 := ttok_mk Tryz.type48 (by kernel_rfl) (by kernel_rfl) (by kernel_rfl) (fun _ h => nomatch h)
def ti49 : TI := { size := 1, bytes := 24, kind := .slice 4, zero := [.slice none 0 0] }
theorem ok49 : TTok Tryz.prog 49 ti49 := ttok_mk Tryz.type49 (by kernel_rfl) (by kernel_rfl) (by kernel_rfl) (fun _ h => nomatch h)
def ti52 : TI := { size := 2, bytes := 24, kind := .struct [(0, 9), (1, 3)], zero := [.string ⟨#[]⟩, .int .i64 0], flat := some [.str, .int .i64] }
theorem ok52 : TTok Tryz.prog 52 ti52 := ttok_mk Tryz.type52 (by kernel_rfl) (by kernel_rfl) (by kernel_rfl) (fun ks h => by cases h; exact flat52)
def ti61 : TI := { size := 1, bytes := 8, kind := .func, zero := [.nilFunc] }
theorem ok61 : TTok Tryz.prog 61 ti61 := ttok_mk Tryz.type61 (by kernel_rfl) (by kernel_rfl) (by kernel_rfl) (fun _ h => nomatch h)
def ti67 : TI := { size := 1, bytes := 8, kind := .int .u64, zero := [.int .u64 0] }
theorem ok67 : TTok Tryz.prog 67 ti67 := ttok_mk Tryz.type67 (by kernel_rfl) (by kernel_rfl) (by kernel_rfl) (fun _ h => nomatch h)
def ti72 : TI := { size := 1, bytes := 8, kind := .map 9 77, zero := [.map none] }
theorem ok72 : TTok Tryz.prog 72 ti72 := ttok_mk Tryz.type72 (by kernel_rfl) (by kernel_rfl) (by kernel_rfl) (fun _ h => nomatch h)
def ti73 : TI := { size := 1, bytes := 8, kind := .map 92 4, zero := [.map none] }
theorem ok73 : TTok Tryz.prog 73 ti73 := ttok_mk Tryz.type73 (by kernel_rfl) (by kernel_rfl) (by kernel_rfl) (fun _ h => nomatch h)
def ti74 : TI := { size := 1, bytes := 24, kind := .slice 77, zero := [.slice none 0 0] }
theorem ok74 : TTok Tryz.prog 74 ti74 := ttok_mk Tryz.type74 (by kernel_rfl) (by kernel_rfl) (by kernel_rfl) (fun _ h => nomatch h)
def ti76 : TI := { size := 4, bytes := 56, kind := .struct [(0, 9), (1, 74), (2, 72), (3, 73)], zero := [.string ⟨#[]⟩, .slice none 0 0, .map none, .map none] }
theorem ok76 : TTok Tryz.prog 76 ti76 := ttok_mk Tryz.type76 (by kernel_rfl) (by kernel_rfl) (by kernel_rfl) (fun _ h => nomatch h)
def ti77 : TI := { size := 1, bytes := 8, kind := .ptr 79, zero := [.pointer none] }
theorem ok77 : TTok Tryz.prog 77 ti77 := ttok_mk Tryz.type77 (by kernel_rfl) (by kernel_rfl) (by kernel_rfl) (fun _ h => nomatch h)
def ti79 : TI := { size := 13, bytes := 216, kind := .struct [(0, 27), (9, 3), (10, 9), (11, 4), (12, 74)], zero := [.string ⟨#[]⟩, .string ⟨#[]⟩, .int .i64 0, .string ⟨#[]⟩, .slice none 0 0, .slice none 0 0, .int .i64 0, .slice none 0 0, .slice none 0 0, .int .i64 0, .string ⟨#[]⟩, .bool false, .slice none 0 0] }
theorem ok79 : TTok Tryz.prog 79 ti79 := ttok_mk Tryz.type79 (by kernel_rfl) (by kernel_rfl) (by kernel_rfl) (fun _ h => nomatch h)
def ti85 : TI := { size := 1, bytes := 8, kind := .ptr 87, zero := [.pointer none] }
theorem ok85 : TTok Tryz.prog 85 ti85 := ttok_mk Tryz.type85 (by kernel_rfl) (by kernel_rfl) (by kernel_rfl) (fun _ h => nomatch h)
def ti87 : TI := { size := 11, bytes := 192, kind := .struct [(0, 37), (1, 27), (10, 74)], zero := [.pointer none, .string ⟨#[]⟩, .string ⟨#[]⟩, .int .i64 0, .string ⟨#[]⟩, .slice none 0 0, .slice none 0 0, .int .i64 0, .slice none 0 0, .slice none 0 0, .slice none 0 0] }
theorem ok87 : TTok Tryz.prog 87 ti87 := ttok_mk Tryz.type87 (by kernel_rfl) (by kernel_rfl) (by kernel_rfl) (fun _ h => nomatch h)
def ti88 : TI := { size := 1, bytes := 8, kind := .func, zero := [.nilFunc] }
theorem ok88 : TTok Tryz.prog 88 ti88 := ttok_mk Tryz.type88 (by kernel_rfl) (by kernel_rfl) (by kernel_rfl) (fun _ h => nomatch h)
def ti89 : TI := { size := 1, bytes := 24, kind := .slice 88, zero := [.slice none 0 0] }
theorem ok89 : TTok Tryz.prog 89 ti89 := ttok_mk Tryz.type89 (by kernel_rfl) (by kernel_rfl) (by kernel_rfl) (fun _ h => nomatch h)
def ti92 : TI := { size := 2, bytes := 24, kind := .struct [(0, 9), (1, 3)], zero := [.string ⟨#[]⟩, .int .i64 0], flat := some [.str, .int .i64] }
theorem ok92 : TTok Tryz.prog 92 ti92 := ttok_mk Tryz.type92 (by kernel_rfl) (by kernel_rfl) (by kernel_rfl) (fun ks h => by cases h; exact flat92)
def ti95 : TI := { size := 1, bytes := 8, kind := .func, zero := [.nilFunc] }
theorem ok95 : TTok Tryz.prog 95 ti95 := ttok_mk Tryz.type95 (by kernel_rfl) (by kernel_rfl) (by kernel_rfl) (fun _ h => nomatch h)
def ti118 : TI := { size := 1, bytes := 8, kind := .func, zero := [.nilFunc] }
theorem ok118 : TTok Tryz.prog 118 ti118 := ttok_mk Tryz.type118 (by kernel_rfl) (by kernel_rfl) (by kernel_rfl) (fun _ h => nomatch h)
def tt : TTab := fun t => match t with
 | 3 => some ti3
 | 4 => some ti4
 | 5 => some ti5
 | 9 => some ti9
 | 22 => some ti22
 | 23 => some ti23
 | 25 => some ti25
 | 27 => some ti27
 | 35 => some ti35
 | 37 => some ti37
 | 38 => some ti38
 | 41 => some ti41
 | 43 => some ti43
 | 48 => some ti48
 | 49 => some ti49
 | 52 => some ti52
 | 61 => some ti61
 | 67 => some ti67
 | 72 => some ti72
 | 73 => some ti73
 | 74 => some ti74
 | 76 => some ti76
 | 77 => some ti77
 | 79 => some ti79
 | 85 => some ti85
 | 87 => some ti87
 | 88 => some ti88
 | 89 => some ti89
 | 92 => some ti92
 | 95 => some ti95
 | 118 => some ti118
 | _ => none
theorem ttOk : TabOk Tryz.prog tt := by
 intro t ti h
 unfold tt at h
 split at h <;> first | (cases h; done) | (simp only [Option.some.injEq] at h; subst h)
 ·exact ok3
 ·exact ok4
 ·exact ok5
 ·exact ok9
 ·exact ok22
 ·exact ok23
 ·exact ok25
 ·exact ok27
 ·exact ok35
 ·exact ok37
 ·exact ok38
 ·exact ok41
 ·exact ok43
 ·exact ok48
 ·exact ok49
 ·exact ok52
 ·exact ok61
 ·exact ok67
 ·exact ok72
 ·exact ok73
 ·exact ok74
 ·exact ok76
 ·exact ok77
 ·exact ok79
 ·exact ok85
 ·exact ok87
 ·exact ok88
 ·exact ok89
 ·exact ok92
 ·exact ok95
 ·exact ok118
theorem tts : (tt 3 = some { size := 1, bytes := 8, kind := .int .i64, zero := [.int .i64 0], flat := none }) ∧ (tt 4 = some { size := 1, bytes := 1, kind := .bool, zero := [.bool false], flat := none }) ∧ (tt 5 = some { size := 1, bytes := 1, kind := .int .u8, zero := [.int .u8 0], flat := none }) ∧ (tt 9 = some { size := 1, bytes := 16, kind := .str, zero := [.string ⟨#[]⟩], flat := none }) ∧ (tt 22 = some { size := 1, bytes := 24, kind := .slice 9, zero := [.slice none 0 0], flat := none }) ∧ (tt 23 = some { size := 1, bytes := 24, kind := .slice 52, zero := [.slice none 0 0], flat := none }) ∧ (tt 25 = some { size := 3, bytes := 56, kind := .struct [(0, 3), (1, 22), (2, 22)], zero := [.int .i64 0, .slice none 0 0, .slice none 0 0], flat := none }) ∧ (tt 27 = some { size := 9, bytes := 160, kind := .struct [(0, 9), (1, 9), (2, 3), (3, 9), (4, 22), (5, 23), (6, 25)], zero := [.string ⟨#[]⟩, .string ⟨#[]⟩, .int .i64 0, .string ⟨#[]⟩, .slice none 0 0, .slice none 0 0, .int .i64 0, .slice none 0 0, .slice none 0 0], flat := none }) ∧ (tt 35 = some { size := 1, bytes := 24, kind := .slice 48, zero := [.slice none 0 0], flat := none }) ∧ (tt 37 = some { size := 1, bytes := 8, kind := .ptr 76, zero := [.pointer none], flat := none }) ∧ (tt 38 = some { size := 1, bytes := 8, kind := .int .i64, zero := [.int .i64 0], flat := none }) ∧ (tt 41 = some { size := 1, bytes := 24, kind := .slice 27, zero := [.slice none 0 0], flat := none }) ∧ (tt 43 = some { size := 1, bytes := 24, kind := .slice 3, zero := [.slice none 0 0], flat := none }) ∧ (tt 48 = some { size := 11, bytes := 184, kind := .struct [(0, 3), (1, 27), (10, 9)], zero := [.int .i64 0, .string ⟨#[]⟩, .string ⟨#[]⟩, .int .i64 0, .string ⟨#[]⟩, .slice none 0 0, .slice none 0 0, .int .i64 0, .slice none 0 0, .slice none 0 0, .string ⟨#[]⟩], flat := none }) ∧ (tt 49 = some { size := 1, bytes := 24, kind := .slice 4, zero := [.slice none 0 0], flat := none }) ∧ (tt 52 = some { size := 2, bytes := 24, kind := .struct [(0, 9), (1, 3)], zero := [.string ⟨#[]⟩, .int .i64 0], flat := some [.str, .int .i64] }) ∧ (tt 61 = some { size := 1, bytes := 8, kind := .func, zero := [.nilFunc], flat := none }) ∧ (tt 67 = some { size := 1, bytes := 8, kind := .int .u64, zero := [.int .u64 0], flat := none }) ∧ (tt 72 = some { size := 1, bytes := 8, kind := .map 9 77, zero := [.map none], flat := none }) ∧ (tt 73 = some { size := 1, bytes := 8, kind := .map 92 4, zero := [.map none], flat := none }) ∧ (tt 74 = some { size := 1, bytes := 24, kind := .slice 77, zero := [.slice none 0 0], flat := none }) ∧ (tt 76 = some { size := 4, bytes := 56, kind := .struct [(0, 9), (1, 74), (2, 72), (3, 73)], zero := [.string ⟨#[]⟩, .slice none 0 0, .map none, .map none], flat := none }) ∧ (tt 77 = some { size := 1, bytes := 8, kind := .ptr 79, zero := [.pointer none], flat := none }) ∧ (tt 79 = some { size := 13, bytes := 216, kind := .struct [(0, 27), (9, 3), (10, 9), (11, 4), (12, 74)], zero := [.string ⟨#[]⟩, .string ⟨#[]⟩, .int .i64 0, .string ⟨#[]⟩, .slice none 0 0, .slice none 0 0, .int .i64 0, .slice none 0 0, .slice none 0 0, .int .i64 0, .string ⟨#[]⟩, .bool false, .slice none 0 0], flat := none }) ∧ (tt 85 = some { size := 1, bytes := 8, kind := .ptr 87, zero := [.pointer none], flat := none }) ∧ (tt 87 = some { size := 11, bytes := 192, kind := .struct [(0, 37), (1, 27), (10, 74)], zero := [.pointer none, .string ⟨#[]⟩, .string ⟨#[]⟩, .int .i64 0, .string ⟨#[]⟩, .slice none 0 0, .slice none 0 0, .int .i64 0, .slice none 0 0, .slice none 0 0, .slice none 0 0], flat := none }) ∧ (tt 88 = some { size := 1, bytes := 8, kind := .func, zero := [.nilFunc], flat := none }) ∧ (tt 89 = some { size := 1, bytes := 24, kind := .slice 88, zero := [.slice none 0 0], flat := none }) ∧ (tt 92 = some { size := 2, bytes := 24, kind := .struct [(0, 9), (1, 3)], zero := [.string ⟨#[]⟩, .int .i64 0], flat := some [.str, .int .i64] }) ∧ (tt 95 = some { size := 1, bytes := 8, kind := .func, zero := [.nilFunc], flat := none }) ∧ (tt 118 = some { size := 1, bytes := 8, kind := .func, zero := [.nilFunc], flat := none }) := ⟨rfl, rfl, rfl, rfl, rfl, rfl, rfl, rfl, rfl, rfl, rfl, rfl, rfl, rfl, rfl, rfl, rfl, rfl, rfl, rfl, rfl, rfl, rfl, rfl, rfl, rfl, rfl, rfl, rfl, rfl, rfl⟩
theorem mixed : Tryz.prog.follows .mixedOrders = true := by kernel_rfl
end Av
end Go.Proofs.YtnkepmfgmfeabaaGreatDoor
set_option linter.unusedVariables false
set_option linter.unusedSimpArgs false
namespace Go.Proofs.YtnkepmfgmfeabaaGreatDoor
open Go Go.RowKit
namespace Av
def strsP (l : List ByteArray) : PD := .sl 1 (l.map fun s => [.v (.string s)])
def inpsP (l : List (ByteArray × Int)) : PD := .sl 2 (l.map fun x => [.v (.string x.1), .v (.int .i64 x.2)])
def stmC (s : Stm) : List PD := [.v (.string s.id), .v (.string s.prod), .v (.int .i64 s.q), .v (.string s.holder), strsP s.uses, inpsP s.inputs, .v (.int .i64 s.idx), strsP s.sig, strsP s.path]
theorem wrap_succ {k : Nat} {n : Nat} (h : k < n) (hn : n ≤ 9223372036854775807) : IntKind.i64.wrap ((k : Int) + 1) = ((k + 1 : Nat) : Int) := by rw [IntKind.wrap_i64]; omega
end Av
end Go.Proofs.YtnkepmfgmfeabaaGreatDoor
set_option linter.unusedVariables false
namespace Go.Proofs.YtnkepmfgmfeabaaGreatDoor
open Go Go.RowKit

theorem all_at {α : Type} {l : List α} {p : α → Bool} {d : α} {i : Nat} (h : i < l.length) (hn : p (l.getD i d) = false) : l.all p = false := by
 cases hq : l.all p with
 | false => rfl
 | true =>
  have := List.all_eq_true.1 hq (l.getD i d) (by simp [List.getD, h])
  rw [hn] at this; cases this
theorem strc_lt2 {w : World} {v : Value} {l : List ByteArray} (h : IsStrC w v l) (i : Nat) (hi : i < l.length) : ∃ b o cap, v = .slice (some ⟨b, o, none⟩) l.length cap ∧ b < w.heap.size ∧ w.cell? ⟨b, o + i, none⟩ = some (.string (l.getD i ByteArray.empty)) := by
 obtain ⟨ao, cap, e, _, _, hc⟩ := h
 obtain ⟨b, o, rfl, hlt, hcl⟩ := hc i hi
 exact ⟨b, o, cap, e, hlt, hcl⟩
theorem all_of {α : Type} {l : List α} {p : α → Bool} {d : α} (h : ∀ j, j < l.length → p (l.getD j d) = true) : l.all p = true := by
 rw [List.all_eq_true]
 intro s hs
 obtain ⟨j, hj, rfl⟩ := List.mem_iff_getElem.1 hs
 have := h j hj
 rwa [show l.getD j d = l[j] by simp [List.getD, hj]] at this
set_option maxRecDepth 100000 in
set_option maxHeartbeats 4000000 in
theorem short29_calls (s : Stm) (vu vi vs vp : Value) (w : World) (hS : StmAt w s vu vi vs vp) (hZ : s.Sized 9223372036854775807) :
  Calls Tryz.prog 6 #[.agg (stmCells s vu vi vs vp)] w fun e w' => e = .returned (.bool (shortS s)) ∧ Below w.heap.size w w' := by
 have HS := Lib.hid hS
 have HZ := Lib.hid hZ
 have zid := hZ.id
 have zprod := hZ.prod
 have zhold := hZ.holder
 obtain ⟨aou, cu, rfl⟩ := strc_form hS.uses
 obtain ⟨aoi, ci, rfl⟩ := hS.inputs.form
 obtain ⟨aos, cs, rfl⟩ := strc_form hS.sig
 obtain ⟨aop, cp, rfl⟩ := strc_form hS.path
 have zlu := strc_len hS.uses
 have zli := hS.inputs.len
 clear hS hZ
 unfold stmCells
 obtain ⟨lu, hlu⟩ : ∃ lu, lu = s.uses.length := ⟨_, rfl⟩
 obtain ⟨li, hli⟩ : ∃ li, li = s.inputs.length := ⟨_, rfl⟩
 obtain ⟨ls, hls⟩ : ∃ ls, ls = s.sig.length := ⟨_, rfl⟩
 obtain ⟨lp, hlp⟩ : ∃ lp, lp = s.path.length := ⟨_, rfl⟩
 rw [← hlu, ← hli, ← hls, ← hlp] at HS
 rw [← hlu] at zlu
 rw [← hli] at zli
 rw [← hlu, ← hli, ← hls, ← hlp]
 have HLU := Lib.hid hlu
 have HLI := Lib.hid hli
 clear hlu hli hls hlp
 obtain ⟨hbx, hB1, hz⟩ := box_one w #[.string s.id, .string s.prod, .int .i64 s.q, .string s.holder, .slice aou lu cu, .slice aoi li ci, .int .i64 s.idx, .slice aos ls cs, .slice aop lp cp] 27
 have HR1 := Lib.hid hbx
 have HB1 := Lib.hid hB1
 have HS1 := Lib.hid (HS.out.on hB1)
 have hz1 : w.heap.size < (w.alloc (.cells #[.string s.id, .string s.prod, .int .i64 s.q, .string s.holder, .slice aou lu cu, .slice aoi li ci, .int .i64 s.idx, .slice aos ls cs, .slice aop lp cp] 27)).heap.size := by omega
 clear hbx hB1 hz HS
 by_cases h0 : s.id.size ≤ 60
 rotate_left
 ·have hd0 : decide ((60 : Int) < (s.id.size : Int)) = true := decide_eq_true (by omega)
  have HF : Hid (shortS s = false) := Lib.hid (by unfold shortS; rw [decide_eq_false h0]; simp)
  have c0 : (w.alloc (.cells #[.string s.id, .string s.prod, .int .i64 s.q, .string s.holder, .slice aou lu cu, .slice aoi li ci, .int .i64 s.idx, .slice aos ls cs, .slice aop lp cp] 27)).cell? ⟨w.heap.size, 0, none⟩ = some (.string s.id) := by rw [cell_of_row _ _ 0 _ _ _ HR1.out]; rfl
  have c1 : (w.alloc (.cells #[.string s.id, .string s.prod, .int .i64 s.q, .string s.holder, .slice aou lu cu, .slice aoi li ci, .int .i64 s.idx, .slice aos ls cs, .slice aop lp cp] 27)).cell? ⟨w.heap.size, 1, none⟩ = some (.string s.prod) := by rw [cell_of_row _ _ 1 _ _ _ HR1.out]; rfl
  have c2 : (w.alloc (.cells #[.string s.id, .string s.prod, .int .i64 s.q, .string s.holder, .slice aou lu cu, .slice aoi li ci, .int .i64 s.idx, .slice aos ls cs, .slice aop lp cp] 27)).cell? ⟨w.heap.size, 2, none⟩ = some (.int .i64 s.q) := by rw [cell_of_row _ _ 2 _ _ _ HR1.out]; rfl
  have c3 : (w.alloc (.cells #[.string s.id, .string s.prod, .int .i64 s.q, .string s.holder, .slice aou lu cu, .slice aoi li ci, .int .i64 s.idx, .slice aos ls cs, .slice aop lp cp] 27)).cell? ⟨w.heap.size, 3, none⟩ = some (.string s.holder) := by rw [cell_of_row _ _ 3 _ _ _ HR1.out]; rfl
  have c4 : (w.alloc (.cells #[.string s.id, .string s.prod, .int .i64 s.q, .string s.holder, .slice aou lu cu, .slice aoi li ci, .int .i64 s.idx, .slice aos ls cs, .slice aop lp cp] 27)).cell? ⟨w.heap.size, 4, none⟩ = some (.slice aou lu cu) := by rw [cell_of_row _ _ 4 _ _ _ HR1.out]; rfl
  have c5 : (w.alloc (.cells #[.string s.id, .string s.prod, .int .i64 s.q, .string s.holder, .slice aou lu cu, .slice aoi li ci, .int .i64 s.idx, .slice aos ls cs, .slice aop lp cp] 27)).cell? ⟨w.heap.size, 5, none⟩ = some (.slice aoi li ci) := by rw [cell_of_row _ _ 5 _ _ _ HR1.out]; rfl
  have c6 : (w.alloc (.cells #[.string s.id, .string s.prod, .int .i64 s.q, .string s.holder, .slice aou lu cu, .slice aoi li ci, .int .i64 s.idx, .slice aos ls cs, .slice aop lp cp] 27)).cell? ⟨w.heap.size, 6, none⟩ = some (.int .i64 s.idx) := by rw [cell_of_row _ _ 6 _ _ _ HR1.out]; rfl
  have c7 : (w.alloc (.cells #[.string s.id, .string s.prod, .int .i64 s.q, .string s.holder, .slice aou lu cu, .slice aoi li ci, .int .i64 s.idx, .slice aos ls cs, .slice aop lp cp] 27)).cell? ⟨w.heap.size, 7, none⟩ = some (.slice aos ls cs) := by rw [cell_of_row _ _ 7 _ _ _ HR1.out]; rfl
  have c8 : (w.alloc (.cells #[.string s.id, .string s.prod, .int .i64 s.q, .string s.holder, .slice aou lu cu, .slice aoi li ci, .int .i64 s.idx, .slice aos ls cs, .slice aop lp cp] 27)).cell? ⟨w.heap.size, 8, none⟩ = some (.slice aop lp cp) := by rw [cell_of_row _ _ 8 _ _ _ HR1.out]; rfl
  go_enter Tryz.func6, Tryz.ntmps6
  go_wp2
  go_ret
  exact ⟨congrArg (fun b => Ending.returned (Value.bool b)) HF.out.symm, HB1.out⟩
 have hd0 : decide ((60 : Int) < (s.id.size : Int)) = false := decide_eq_false (by omega)
 by_cases h1 : s.prod.size ≤ 60
 rotate_left
 ·have hd1 : decide ((60 : Int) < (s.prod.size : Int)) = true := decide_eq_true (by omega)
  have HF : Hid (shortS s = false) := Lib.hid (by unfold shortS; rw [decide_eq_false h1]; simp)
  have c0 : (w.alloc (.cells #[.string s.id, .string s.prod, .int .i64 s.q, .string s.holder, .slice aou lu cu, .slice aoi li ci, .int .i64 s.idx, .slice aos ls cs, .slice aop lp cp] 27)).cell? ⟨w.heap.size, 0, none⟩ = some (.string s.id) := by rw [cell_of_row _ _ 0 _ _ _ HR1.out]; rfl
  have c1 : (w.alloc (.cells #[.string s.id, .string s.prod, .int .i64 s.q, .string s.holder, .slice aou lu cu, .slice aoi li ci, .int .i64 s.idx, .slice aos ls cs, .slice aop lp cp] 27)).cell? ⟨w.heap.size, 1, none⟩ = some (.string s.prod) := by rw [cell_of_row _ _ 1 _ _ _ HR1.out]; rfl
  have c2 : (w.alloc (.cells #[.string s.id, .string s.prod, .int .i64 s.q, .string s.holder, .slice aou lu cu, .slice aoi li ci, .int .i64 s.idx, .slice aos ls cs, .slice aop lp cp] 27)).cell? ⟨w.heap.size, 2, none⟩ = some (.int .i64 s.q) := by rw [cell_of_row _ _ 2 _ _ _ HR1.out]; rfl
  have c3 : (w.alloc (.cells #[.string s.id, .string s.prod, .int .i64 s.q, .string s.holder, .slice aou lu cu, .slice aoi li ci, .int .i64 s.idx, .slice aos ls cs, .slice aop lp cp] 27)).cell? ⟨w.heap.size, 3, none⟩ = some (.string s.holder) := by rw [cell_of_row _ _ 3 _ _ _ HR1.out]; rfl
  have c4 : (w.alloc (.cells #[.string s.id, .string s.prod, .int .i64 s.q, .string s.holder, .slice aou lu cu, .slice aoi li ci, .int .i64 s.idx, .slice aos ls cs, .slice aop lp cp] 27)).cell? ⟨w.heap.size, 4, none⟩ = some (.slice aou lu cu) := by rw [cell_of_row _ _ 4 _ _ _ HR1.out]; rfl
  have c5 : (w.alloc (.cells #[.string s.id, .string s.prod, .int .i64 s.q, .string s.holder, .slice aou lu cu, .slice aoi li ci, .int .i64 s.idx, .slice aos ls cs, .slice aop lp cp] 27)).cell? ⟨w.heap.size, 5, none⟩ = some (.slice aoi li ci) := by rw [cell_of_row _ _ 5 _ _ _ HR1.out]; rfl
  have c6 : (w.alloc (.cells #[.string s.id, .string s.prod, .int .i64 s.q, .string s.holder, .slice aou lu cu, .slice aoi li ci, .int .i64 s.idx, .slice aos ls cs, .slice aop lp cp] 27)).cell? ⟨w.heap.size, 6, none⟩ = some (.int .i64 s.idx) := by rw [cell_of_row _ _ 6 _ _ _ HR1.out]; rfl
  have c7 : (w.alloc (.cells #[.string s.id, .string s.prod, .int .i64 s.q, .string s.holder, .slice aou lu cu, .slice aoi li ci, .int .i64 s.idx, .slice aos ls cs, .slice aop lp cp] 27)).cell? ⟨w.heap.size, 7, none⟩ = some (.slice aos ls cs) := by rw [cell_of_row _ _ 7 _ _ _ HR1.out]; rfl
  have c8 : (w.alloc (.cells #[.string s.id, .string s.prod, .int .i64 s.q, .string s.holder, .slice aou lu cu, .slice aoi li ci, .int .i64 s.idx, .slice aos ls cs, .slice aop lp cp] 27)).cell? ⟨w.heap.size, 8, none⟩ = some (.slice aop lp cp) := by rw [cell_of_row _ _ 8 _ _ _ HR1.out]; rfl
  go_enter Tryz.func6, Tryz.ntmps6
  go_wp2
  go_ret
  exact ⟨congrArg (fun b => Ending.returned (Value.bool b)) HF.out.symm, HB1.out⟩
 have hd1 : decide ((60 : Int) < (s.prod.size : Int)) = false := decide_eq_false (by omega)
 by_cases h2 : s.holder.size ≤ 60
 rotate_left
 ·have hd2 : decide ((60 : Int) < (s.holder.size : Int)) = true := decide_eq_true (by omega)
  have HF : Hid (shortS s = false) := Lib.hid (by unfold shortS; rw [decide_eq_false h2]; simp)
  have c0 : (w.alloc (.cells #[.string s.id, .string s.prod, .int .i64 s.q, .string s.holder, .slice aou lu cu, .slice aoi li ci, .int .i64 s.idx, .slice aos ls cs, .slice aop lp cp] 27)).cell? ⟨w.heap.size, 0, none⟩ = some (.string s.id) := by rw [cell_of_row _ _ 0 _ _ _ HR1.out]; rfl
  have c1 : (w.alloc (.cells #[.string s.id, .string s.prod, .int .i64 s.q, .string s.holder, .slice aou lu cu, .slice aoi li ci, .int .i64 s.idx, .slice aos ls cs, .slice aop lp cp] 27)).cell? ⟨w.heap.size, 1, none⟩ = some (.string s.prod) := by rw [cell_of_row _ _ 1 _ _ _ HR1.out]; rfl
  have c2 : (w.alloc (.cells #[.string s.id, .string s.prod, .int .i64 s.q, .string s.holder, .slice aou lu cu, .slice aoi li ci, .int .i64 s.idx, .slice aos ls cs, .slice aop lp cp] 27)).cell? ⟨w.heap.size, 2, none⟩ = some (.int .i64 s.q) := by rw [cell_of_row _ _ 2 _ _ _ HR1.out]; rfl
  have c3 : (w.alloc (.cells #[.string s.id, .string s.prod, .int .i64 s.q, .string s.holder, .slice aou lu cu, .slice aoi li ci, .int .i64 s.idx, .slice aos ls cs, .slice aop lp cp] 27)).cell? ⟨w.heap.size, 3, none⟩ = some (.string s.holder) := by rw [cell_of_row _ _ 3 _ _ _ HR1.out]; rfl
  have c4 : (w.alloc (.cells #[.string s.id, .string s.prod, .int .i64 s.q, .string s.holder, .slice aou lu cu, .slice aoi li ci, .int .i64 s.idx, .slice aos ls cs, .slice aop lp cp] 27)).cell? ⟨w.heap.size, 4, none⟩ = some (.slice aou lu cu) := by rw [cell_of_row _ _ 4 _ _ _ HR1.out]; rfl
  have c5 : (w.alloc (.cells #[.string s.id, .string s.prod, .int .i64 s.q, .string s.holder, .slice aou lu cu, .slice aoi li ci, .int .i64 s.idx, .slice aos ls cs, .slice aop lp cp] 27)).cell? ⟨w.heap.size, 5, none⟩ = some (.slice aoi li ci) := by rw [cell_of_row _ _ 5 _ _ _ HR1.out]; rfl
  have c6 : (w.alloc (.cells #[.string s.id, .string s.prod, .int .i64 s.q, .string s.holder, .slice aou lu cu, .slice aoi li ci, .int .i64 s.idx, .slice aos ls cs, .slice aop lp cp] 27)).cell? ⟨w.heap.size, 6, none⟩ = some (.int .i64 s.idx) := by rw [cell_of_row _ _ 6 _ _ _ HR1.out]; rfl
  have c7 : (w.alloc (.cells #[.string s.id, .string s.prod, .int .i64 s.q, .string s.holder, .slice aou lu cu, .slice aoi li ci, .int .i64 s.idx, .slice aos ls cs, .slice aop lp cp] 27)).cell? ⟨w.heap.size, 7, none⟩ = some (.slice aos ls cs) := by rw [cell_of_row _ _ 7 _ _ _ HR1.out]; rfl
  have c8 : (w.alloc (.cells #[.string s.id, .string s.prod, .int .i64 s.q, .string s.holder, .slice aou lu cu, .slice aoi li ci, .int .i64 s.idx, .slice aos ls cs, .slice aop lp cp] 27)).cell? ⟨w.heap.size, 8, none⟩ = some (.slice aop lp cp) := by rw [cell_of_row _ _ 8 _ _ _ HR1.out]; rfl
  go_enter Tryz.func6, Tryz.ntmps6
  go_wp2
  go_ret
  exact ⟨congrArg (fun b => Ending.returned (Value.bool b)) HF.out.symm, HB1.out⟩
 have hd2 : decide ((60 : Int) < (s.holder.size : Int)) = false := decide_eq_false (by omega)
 by_cases h3 : lu ≤ 14
 rotate_left
 ·have hd3 : decide ((14 : Int) < (lu : Int)) = true := decide_eq_true (by omega)
  have HF : Hid (shortS s = false) := Lib.hid (by unfold shortS; rw [← HLU.out]; rw [decide_eq_false h3]; simp)
  have c0 : (w.alloc (.cells #[.string s.id, .string s.prod, .int .i64 s.q, .string s.holder, .slice aou lu cu, .slice aoi li ci, .int .i64 s.idx, .slice aos ls cs, .slice aop lp cp] 27)).cell? ⟨w.heap.size, 0, none⟩ = some (.string s.id) := by rw [cell_of_row _ _ 0 _ _ _ HR1.out]; rfl
  have c1 : (w.alloc (.cells #[.string s.id, .string s.prod, .int .i64 s.q, .string s.holder, .slice aou lu cu, .slice aoi li ci, .int .i64 s.idx, .slice aos ls cs, .slice aop lp cp] 27)).cell? ⟨w.heap.size, 1, none⟩ = some (.string s.prod) := by rw [cell_of_row _ _ 1 _ _ _ HR1.out]; rfl
  have c2 : (w.alloc (.cells #[.string s.id, .string s.prod, .int .i64 s.q, .string s.holder, .slice aou lu cu, .slice aoi li ci, .int .i64 s.idx, .slice aos ls cs, .slice aop lp cp] 27)).cell? ⟨w.heap.size, 2, none⟩ = some (.int .i64 s.q) := by rw [cell_of_row _ _ 2 _ _ _ HR1.out]; rfl
  have c3 : (w.alloc (.cells #[.string s.id, .string s.prod, .int .i64 s.q, .string s.holder, .slice aou lu cu, .slice aoi li ci, .int .i64 s.idx, .slice aos ls cs, .slice aop lp cp] 27)).cell? ⟨w.heap.size, 3, none⟩ = some (.string s.holder) := by rw [cell_of_row _ _ 3 _ _ _ HR1.out]; rfl
  have c4 : (w.alloc (.cells #[.string s.id, .string s.prod, .int .i64 s.q, .string s.holder, .slice aou lu cu, .slice aoi li ci, .int .i64 s.idx, .slice aos ls cs, .slice aop lp cp] 27)).cell? ⟨w.heap.size, 4, none⟩ = some (.slice aou lu cu) := by rw [cell_of_row _ _ 4 _ _ _ HR1.out]; rfl
  have c5 : (w.alloc (.cells #[.string s.id, .string s.prod, .int .i64 s.q, .string s.holder, .slice aou lu cu, .slice aoi li ci, .int .i64 s.idx, .slice aos ls cs, .slice aop lp cp] 27)).cell? ⟨w.heap.size, 5, none⟩ = some (.slice aoi li ci) := by rw [cell_of_row _ _ 5 _ _ _ HR1.out]; rfl
  have c6 : (w.alloc (.cells #[.string s.id, .string s.prod, .int .i64 s.q, .string s.holder, .slice aou lu cu, .slice aoi li ci, .int .i64 s.idx, .slice aos ls cs, .slice aop lp cp] 27)).cell? ⟨w.heap.size, 6, none⟩ = some (.int .i64 s.idx) := by rw [cell_of_row _ _ 6 _ _ _ HR1.out]; rfl
  have c7 : (w.alloc (.cells #[.string s.id, .string s.prod, .int .i64 s.q, .string s.holder, .slice aou lu cu, .slice aoi li ci, .int .i64 s.idx, .slice aos ls cs, .slice aop lp cp] 27)).cell? ⟨w.heap.size, 7, none⟩ = some (.slice aos ls cs) := by rw [cell_of_row _ _ 7 _ _ _ HR1.out]; rfl
  have c8 : (w.alloc (.cells #[.string s.id, .string s.prod, .int .i64 s.q, .string s.holder, .slice aou lu cu, .slice aoi li ci, .int .i64 s.idx, .slice aos ls cs, .slice aop lp cp] 27)).cell? ⟨w.heap.size, 8, none⟩ = some (.slice aop lp cp) := by rw [cell_of_row _ _ 8 _ _ _ HR1.out]; rfl
  go_enter Tryz.func6, Tryz.ntmps6
  go_wp2
  go_ret
  exact ⟨congrArg (fun b => Ending.returned (Value.bool b)) HF.out.symm, HB1.out⟩
 have hd3 : decide ((14 : Int) < (lu : Int)) = false := decide_eq_false (by omega)
 by_cases h4 : li ≤ 14
 rotate_left
 ·have hd4 : decide ((14 : Int) < (li : Int)) = true := decide_eq_true (by omega)
  have HF : Hid (shortS s = false) := Lib.hid (by unfold shortS; rw [← HLI.out]; rw [decide_eq_false h4]; simp)
  have c0 : (w.alloc (.cells #[.string s.id, .string s.prod, .int .i64 s.q, .string s.holder, .slice aou lu cu, .slice aoi li ci, .int .i64 s.idx, .slice aos ls cs, .slice aop lp cp] 27)).cell? ⟨w.heap.size, 0, none⟩ = some (.string s.id) := by rw [cell_of_row _ _ 0 _ _ _ HR1.out]; rfl
  have c1 : (w.alloc (.cells #[.string s.id, .string s.prod, .int .i64 s.q, .string s.holder, .slice aou lu cu, .slice aoi li ci, .int .i64 s.idx, .slice aos ls cs, .slice aop lp cp] 27)).cell? ⟨w.heap.size, 1, none⟩ = some (.string s.prod) := by rw [cell_of_row _ _ 1 _ _ _ HR1.out]; rfl
  have c2 : (w.alloc (.cells #[.string s.id, .string s.prod, .int .i64 s.q, .string s.holder, .slice aou lu cu, .slice aoi li ci, .int .i64 s.idx, .slice aos ls cs, .slice aop lp cp] 27)).cell? ⟨w.heap.size, 2, none⟩ = some (.int .i64 s.q) := by rw [cell_of_row _ _ 2 _ _ _ HR1.out]; rfl
  have c3 : (w.alloc (.cells #[.string s.id, .string s.prod, .int .i64 s.q, .string s.holder, .slice aou lu cu, .slice aoi li ci, .int .i64 s.idx, .slice aos ls cs, .slice aop lp cp] 27)).cell? ⟨w.heap.size, 3, none⟩ = some (.string s.holder) := by rw [cell_of_row _ _ 3 _ _ _ HR1.out]; rfl
  have c4 : (w.alloc (.cells #[.string s.id, .string s.prod, .int .i64 s.q, .string s.holder, .slice aou lu cu, .slice aoi li ci, .int .i64 s.idx, .slice aos ls cs, .slice aop lp cp] 27)).cell? ⟨w.heap.size, 4, none⟩ = some (.slice aou lu cu) := by rw [cell_of_row _ _ 4 _ _ _ HR1.out]; rfl
  have c5 : (w.alloc (.cells #[.string s.id, .string s.prod, .int .i64 s.q, .string s.holder, .slice aou lu cu, .slice aoi li ci, .int .i64 s.idx, .slice aos ls cs, .slice aop lp cp] 27)).cell? ⟨w.heap.size, 5, none⟩ = some (.slice aoi li ci) := by rw [cell_of_row _ _ 5 _ _ _ HR1.out]; rfl
  have c6 : (w.alloc (.cells #[.string s.id, .string s.prod, .int .i64 s.q, .string s.holder, .slice aou lu cu, .slice aoi li ci, .int .i64 s.idx, .slice aos ls cs, .slice aop lp cp] 27)).cell? ⟨w.heap.size, 6, none⟩ = some (.int .i64 s.idx) := by rw [cell_of_row _ _ 6 _ _ _ HR1.out]; rfl
  have c7 : (w.alloc (.cells #[.string s.id, .string s.prod, .int .i64 s.q, .string s.holder, .slice aou lu cu, .slice aoi li ci, .int .i64 s.idx, .slice aos ls cs, .slice aop lp cp] 27)).cell? ⟨w.heap.size, 7, none⟩ = some (.slice aos ls cs) := by rw [cell_of_row _ _ 7 _ _ _ HR1.out]; rfl
  have c8 : (w.alloc (.cells #[.string s.id, .string s.prod, .int .i64 s.q, .string s.holder, .slice aou lu cu, .slice aoi li ci, .int .i64 s.idx, .slice aos ls cs, .slice aop lp cp] 27)).cell? ⟨w.heap.size, 8, none⟩ = some (.slice aop lp cp) := by rw [cell_of_row _ _ 8 _ _ _ HR1.out]; rfl
  go_enter Tryz.func6, Tryz.ntmps6
  go_wp2
  go_ret
  exact ⟨congrArg (fun b => Ending.returned (Value.bool b)) HF.out.symm, HB1.out⟩
 have hd4 : decide ((14 : Int) < (li : Int)) = false := decide_eq_false (by omega)
 have c0 : (w.alloc (.cells #[.string s.id, .string s.prod, .int .i64 s.q, .string s.holder, .slice aou lu cu, .slice aoi li ci, .int .i64 s.idx, .slice aos ls cs, .slice aop lp cp] 27)).cell? ⟨w.heap.size, 0, none⟩ = some (.string s.id) := by rw [cell_of_row _ _ 0 _ _ _ HR1.out]; rfl
 have c1 : (w.alloc (.cells #[.string s.id, .string s.prod, .int .i64 s.q, .string s.holder, .slice aou lu cu, .slice aoi li ci, .int .i64 s.idx, .slice aos ls cs, .slice aop lp cp] 27)).cell? ⟨w.heap.size, 1, none⟩ = some (.string s.prod) := by rw [cell_of_row _ _ 1 _ _ _ HR1.out]; rfl
 have c2 : (w.alloc (.cells #[.string s.id, .string s.prod, .int .i64 s.q, .string s.holder, .slice aou lu cu, .slice aoi li ci, .int .i64 s.idx, .slice aos ls cs, .slice aop lp cp] 27)).cell? ⟨w.heap.size, 2, none⟩ = some (.int .i64 s.q) := by rw [cell_of_row _ _ 2 _ _ _ HR1.out]; rfl
 have c3 : (w.alloc (.cells #[.string s.id, .string s.prod, .int .i64 s.q, .string s.holder, .slice aou lu cu, .slice aoi li ci, .int .i64 s.idx, .slice aos ls cs, .slice aop lp cp] 27)).cell? ⟨w.heap.size, 3, none⟩ = some (.string s.holder) := by rw [cell_of_row _ _ 3 _ _ _ HR1.out]; rfl
 have c4 : (w.alloc (.cells #[.string s.id, .string s.prod, .int .i64 s.q, .string s.holder, .slice aou lu cu, .slice aoi li ci, .int .i64 s.idx, .slice aos ls cs, .slice aop lp cp] 27)).cell? ⟨w.heap.size, 4, none⟩ = some (.slice aou lu cu) := by rw [cell_of_row _ _ 4 _ _ _ HR1.out]; rfl
 have c5 : (w.alloc (.cells #[.string s.id, .string s.prod, .int .i64 s.q, .string s.holder, .slice aou lu cu, .slice aoi li ci, .int .i64 s.idx, .slice aos ls cs, .slice aop lp cp] 27)).cell? ⟨w.heap.size, 5, none⟩ = some (.slice aoi li ci) := by rw [cell_of_row _ _ 5 _ _ _ HR1.out]; rfl
 have c6 : (w.alloc (.cells #[.string s.id, .string s.prod, .int .i64 s.q, .string s.holder, .slice aou lu cu, .slice aoi li ci, .int .i64 s.idx, .slice aos ls cs, .slice aop lp cp] 27)).cell? ⟨w.heap.size, 6, none⟩ = some (.int .i64 s.idx) := by rw [cell_of_row _ _ 6 _ _ _ HR1.out]; rfl
 have c7 : (w.alloc (.cells #[.string s.id, .string s.prod, .int .i64 s.q, .string s.holder, .slice aou lu cu, .slice aoi li ci, .int .i64 s.idx, .slice aos ls cs, .slice aop lp cp] 27)).cell? ⟨w.heap.size, 7, none⟩ = some (.slice aos ls cs) := by rw [cell_of_row _ _ 7 _ _ _ HR1.out]; rfl
 have c8 : (w.alloc (.cells #[.string s.id, .string s.prod, .int .i64 s.q, .string s.holder, .slice aou lu cu, .slice aoi li ci, .int .i64 s.idx, .slice aos ls cs, .slice aop lp cp] 27)).cell? ⟨w.heap.size, 8, none⟩ = some (.slice aop lp cp) := by rw [cell_of_row _ _ 8 _ _ _ HR1.out]; rfl
 go_enter Tryz.func6, Tryz.ntmps6
 go_wp2_with fail
 generalize hgw : w.alloc (.cells #[.string s.id, .string s.prod, .int .i64 s.q, .string s.holder, .slice aou lu cu, .slice aoi li ci, .int .i64 s.idx, .slice aos ls cs, .slice aop lp cp] 27) = w1 at *
 clear hgw c0 c1 c2 c3 c4 c5 c6 c7 c8
 refine (few03_calls s.idx _ _ s.sig s.path w1 HS1.out.sig HS1.out.path HZ.out.sig HZ.out.path).mono ?_
 rintro e w2 ⟨rfl, hB⟩
 have HR2 := Lib.hid ((hB.block w.heap.size hz1).trans HR1.out)
 have HB2 := Lib.hid (HB1.out.trans (hB.mono HB1.out.size))
 have HS2 := Lib.hid (HS1.out.on hB)
 clear hB HR1 HB1 HS1 hz1
 have c4 : w2.cell? ⟨w.heap.size, 4, none⟩ = some (.slice aou lu cu) := by rw [cell_of_row _ _ 4 _ _ _ HR2.out]; rfl
 have c5 : w2.cell? ⟨w.heap.size, 5, none⟩ = some (.slice aoi li ci) := by rw [cell_of_row _ _ 5 _ _ _ HR2.out]; rfl
 cases hf : fewS s.sig s.path with
 | false =>
  have HF : Hid (shortS s = false) := Lib.hid (by unfold shortS; rw [hf]; simp)
  clear hf
  go_wp2
  go_ret
  exact ⟨congrArg (fun b => Ending.returned (Value.bool b)) HF.out.symm, HB2.out⟩
 | true =>
  have HFW := Lib.hid hf
  clear hf
  go_wp2_with fail
  go_loop [3] (fun vi => ∃ i : Nat, vi = .int .i64 (i : Int) ∧ i ≤ lu ∧ Hid (∀ j, j < i → decide ((s.uses.getD j ByteArray.empty).size ≤ 60) = true)) (fun vi => lu - (RowKit.intOf vi).toNat)
  case atStart => exact ⟨0, rfl, by omega, Lib.hid fun j hj => by omega⟩
  case round =>
   obtain ⟨i, rfl, hi, HI⟩ := hrel
   by_cases hlt : i < lu
   ·obtain ⟨b, o, cx, he, hbl, hcl⟩ := strc_lt2 HS2.out.uses i (by rw [← HLU.out]; exact hlt)
    simp only [Value.slice.injEq] at he
    obtain ⟨rfl, _, _⟩ := he
    have hsz := getD_size HZ.out.uses i
    have hlt' : (i : Int) < (lu : Int) := by omega
    by_cases h60 : (s.uses.getD i ByteArray.empty).size ≤ 60
    ·have HN : Hid (∀ j, j < i + 1 → decide ((s.uses.getD j ByteArray.empty).size ≤ 60) = true) := Lib.hid (fun j hj => by
      rcases Nat.lt_succ_iff_lt_or_eq.1 hj with h | h
      ·exact HI.out j h
      ·subst h; exact decide_eq_true h60)
     clear HI
     generalize s.uses.getD i ByteArray.empty = t at *
     have hd : decide ((60 : Int) < (t.size : Int)) = false := decide_eq_false (by omega)
     go_wp2
     go_round
     case rel => exact ⟨i + 1, by go_num, by omega, HN⟩
     case measure => simp only [RowKit.intOf]; omega
    ·have HF : Hid (shortS s = false) := Lib.hid (by
      unfold shortS
      rw [all_at (d := ByteArray.empty) (p := fun t => decide (t.size ≤ 60)) (by rw [← HLU.out]; exact hlt) (decide_eq_false h60)]; simp)
     clear HI
     generalize s.uses.getD i ByteArray.empty = t at *
     have hd : decide ((60 : Int) < (t.size : Int)) = true := decide_eq_true (by omega)
     go_wp2
     go_ret
     exact ⟨congrArg (fun b => Ending.returned (Value.bool b)) HF.out.symm, HB2.out⟩
   ·have HAU : Hid (s.uses.all (fun t => decide (t.size ≤ 60)) = true) := Lib.hid (all_of (d := ByteArray.empty) (fun j hj => HI.out j (by have := HLU.out; omega)))
    clear HI
    go_wp2_with fail
    go_loop [4] (fun vi => ∃ i : Nat, vi = .int .i64 (i : Int) ∧ i ≤ li ∧ Hid (∀ j, j < i → decide ((s.inputs.getD j nilInp).1.size ≤ 60) = true)) (fun vi => li - (RowKit.intOf vi).toNat)
    case atStart => exact ⟨0, rfl, by omega, Lib.hid fun j hj => by omega⟩
    case round =>
     obtain ⟨k, rfl, hk, HI⟩ := hrel
     by_cases hlt2 : k < li
     ·obtain ⟨b, o, cx, he, hbl, hcl, hcl2⟩ := HS2.out.inputs.at k (by rw [← HLI.out]; exact hlt2)
      simp only [Value.slice.injEq] at he
      obtain ⟨rfl, _, _⟩ := he
      have hsz := inp_le HZ.out.inputs k
      have hlt' : (k : Int) < (li : Int) := by omega
      clear hcl2
      by_cases h60 : (s.inputs.getD k nilInp).1.size ≤ 60
      ·have HN : Hid (∀ j, j < k + 1 → decide ((s.inputs.getD j nilInp).1.size ≤ 60) = true) := Lib.hid (fun j hj => by
        rcases Nat.lt_succ_iff_lt_or_eq.1 hj with h | h
        ·exact HI.out j h
        ·subst h; exact decide_eq_true h60)
       clear HI
       generalize (s.inputs.getD k nilInp).1 = t at *
       have hd : decide ((60 : Int) < (t.size : Int)) = false := decide_eq_false (by omega)
       go_wp2
       go_round
       case rel => exact ⟨k + 1, by go_num, by omega, HN⟩
       case measure => simp only [RowKit.intOf]; omega
      ·have HF : Hid (shortS s = false) := Lib.hid (by
        unfold shortS
        rw [all_at (d := nilInp) (p := fun x => decide (x.1.size ≤ 60)) (by rw [← HLI.out]; exact hlt2) (decide_eq_false h60)]; simp)
       clear HI
       generalize (s.inputs.getD k nilInp).1 = t at *
       have hd : decide ((60 : Int) < (t.size : Int)) = true := decide_eq_true (by omega)
       go_wp2
       go_ret
       exact ⟨congrArg (fun b => Ending.returned (Value.bool b)) HF.out.symm, HB2.out⟩
     ·have HF : Hid (shortS s = true) := Lib.hid (by
       unfold shortS
       rw [decide_eq_true h0, decide_eq_true h1, decide_eq_true h2, ← HLU.out, decide_eq_true h3, ← HLI.out, decide_eq_true h4, HFW.out, HAU.out, all_of (d := nilInp) (p := fun x => decide (x.1.size ≤ 60)) (fun j hj => HI.out j (by have := HLI.out; omega))]; rfl)
      clear HI
      go_wp2
      go_ret
      exact ⟨congrArg (fun b => Ending.returned (Value.bool b)) HF.out.symm, HB2.out⟩
end Go.Proofs.YtnkepmfgmfeabaaGreatDoor
set_option linter.unusedVariables false
namespace Go.Proofs.YtnkepmfgmfeabaaGreatDoor
open Go Go.RowKit Go.Maps

theorem strKey : Keyed Tryz.prog 9 := string_keyed Tryz.underlying9
theorem zeroBool (w : World) : (zeroValue 4).run Tryz.prog w = .ok (.bool false) w := by kernel_rfl
theorem plainElem_bool_inv {P : Program} {e : TypeId} (he : P.underlying e = some .bool) {v : Value} {z : DataW Unit × List MemPlace} (h : plainElem P e v = some z) : ∃ x, v = .bool x ∧ z = (.lit (.bool x), []) := by
 unfold plainElem at h
 rw [he] at h
 cases v <;> simp at h
 rename_i x
 exact ⟨x, rfl, h.symm⟩
def keyS (t : ByteArray) : Lit := .string t.data.toList
theorem keyS_inj {a b : ByteArray} (h : keyS a = keyS b) : a = b := by
 unfold keyS at h
 simp only [Lit.string.injEq] at h
 exact ByteArray.ext (Array.toList_inj.1 h)
theorem keyS_of {t : ByteArray} (h : t.size ≤ maxLen) : keyOf Tryz.prog 9 (.string t) = some (keyS t) := Go.WideMaps.keyOf_string_mk Tryz.underlying9 h
theorem keyS_is (t : ByteArray) : WideAt.IsKeyLit (keyS t) := trivial
/-- the set of the first i inputs' names -/
structure SeenAt (mb i : Nat) (inputs : List (ByteArray × Int)) (w1 W : World) : Prop where
 map : ∃ D : DataW Unit, W.ownsMap Tryz.prog 9 (plainElem Tryz.prog 4) mb i D ∧ ∀ t, D.atKey (keyS t) (.lit (.bool false)) = .lit (.bool ((inputs.take i).any fun x => decide (x.1 = t)))
 below : Below w1.heap.size w1 W
theorem take_any {l : List (ByteArray × Int)} {i : Nat} (h : i < l.length) (t : ByteArray) : ((l.take (i + 1)).any fun x => decide (x.1 = t)) = ((l.take i).any (fun x => decide (x.1 = t)) || decide ((l.getD i nilInp).1 = t)) := by
 rw [List.take_succ_eq_append_getElem h, List.any_append]
 simp [List.getD, h]
theorem range_all {n : Nat} {p : Nat → Bool} (h : ∀ j, j < n → p j = true) : (List.range n).all p = true := by
 rw [List.all_eq_true]; exact fun j hj => h j (List.mem_range.1 hj)
theorem range_no {n j : Nat} {p : Nat → Bool} (h : j < n) (hp : p j = false) : (List.range n).all p = false := by
 cases hq : (List.range n).all p with
 | false => rfl
 | true => rw [List.all_eq_true.1 hq j (List.mem_range.2 h)] at hp; cases hp
theorem proper_no1 {s : Stm} (h : usesOk s.uses = false) : properB s = false := by unfold properB; rw [h]; rfl
theorem proper_no2 {s : Stm} (h : inpsOk s.inputs = false) : properB s = false := by unfold properB; rw [h, Bool.and_false]; rfl
set_option maxRecDepth 100000 in
set_option maxHeartbeats 8000000 in
theorem eproper_calls (s : Stm) (vu vi vs vp : Value) (w : World) (hS : StmAt w s vu vi vs vp) (hZ : s.Sized 4611686018427387904) :
  Calls Tryz.prog 42 #[.agg (stmCells s vu vi vs vp)] w fun e w' => e = .returned (.bool (properB s)) ∧ Below w.heap.size w w' := by
 have HS := Lib.hid hS
 have HZ := Lib.hid hZ
 have zid := hZ.id
 have zprod := hZ.prod
 have zhold := hZ.holder
 obtain ⟨aou, cu, rfl⟩ := strc_form hS.uses
 obtain ⟨aoi, ci, rfl⟩ := hS.inputs.form
 obtain ⟨aos, cs, rfl⟩ := strc_form hS.sig
 obtain ⟨aop, cp, rfl⟩ := strc_form hS.path
 have zlu := strc_len hS.uses
 have zli := hS.inputs.len
 clear hS hZ
 unfold stmCells
 obtain ⟨lu, hlu⟩ : ∃ lu, lu = s.uses.length := ⟨_, rfl⟩
 obtain ⟨li, hli⟩ : ∃ li, li = s.inputs.length := ⟨_, rfl⟩
 obtain ⟨ls, hls⟩ : ∃ ls, ls = s.sig.length := ⟨_, rfl⟩
 obtain ⟨lp, hlp⟩ : ∃ lp, lp = s.path.length := ⟨_, rfl⟩
 rw [← hlu, ← hli, ← hls, ← hlp] at HS
 rw [← hlu] at zlu
 rw [← hli] at zli
 rw [← hlu, ← hli, ← hls, ← hlp]
 have HLU := Lib.hid hlu
 have HLI := Lib.hid hli
 clear hlu hli hls hlp
 obtain ⟨hbx, hB1, hz⟩ := box_one w #[.string s.id, .string s.prod, .int .i64 s.q, .string s.holder, .slice aou lu cu, .slice aoi li ci, .int .i64 s.idx, .slice aos ls cs, .slice aop lp cp] 27
 have HR1 := Lib.hid hbx
 have HB1 := Lib.hid hB1
 have HS1 := Lib.hid (HS.out.on hB1)
 have hz1 : w.heap.size < (w.alloc (.cells #[.string s.id, .string s.prod, .int .i64 s.q, .string s.holder, .slice aou lu cu, .slice aoi li ci, .int .i64 s.idx, .slice aos ls cs, .slice aop lp cp] 27)).heap.size := by omega
 clear hbx hB1 hz HS
 have hmm := @run_makeMap Tryz.prog
 have c0 : (w.alloc (.cells #[.string s.id, .string s.prod, .int .i64 s.q, .string s.holder, .slice aou lu cu, .slice aoi li ci, .int .i64 s.idx, .slice aos ls cs, .slice aop lp cp] 27)).cell? ⟨w.heap.size, 0, none⟩ = some (.string s.id) := by rw [cell_of_row _ _ 0 _ _ _ HR1.out]; rfl
 have c1 : (w.alloc (.cells #[.string s.id, .string s.prod, .int .i64 s.q, .string s.holder, .slice aou lu cu, .slice aoi li ci, .int .i64 s.idx, .slice aos ls cs, .slice aop lp cp] 27)).cell? ⟨w.heap.size, 1, none⟩ = some (.string s.prod) := by rw [cell_of_row _ _ 1 _ _ _ HR1.out]; rfl
 have c2 : (w.alloc (.cells #[.string s.id, .string s.prod, .int .i64 s.q, .string s.holder, .slice aou lu cu, .slice aoi li ci, .int .i64 s.idx, .slice aos ls cs, .slice aop lp cp] 27)).cell? ⟨w.heap.size, 2, none⟩ = some (.int .i64 s.q) := by rw [cell_of_row _ _ 2 _ _ _ HR1.out]; rfl
 have c3 : (w.alloc (.cells #[.string s.id, .string s.prod, .int .i64 s.q, .string s.holder, .slice aou lu cu, .slice aoi li ci, .int .i64 s.idx, .slice aos ls cs, .slice aop lp cp] 27)).cell? ⟨w.heap.size, 3, none⟩ = some (.string s.holder) := by rw [cell_of_row _ _ 3 _ _ _ HR1.out]; rfl
 have c4 : (w.alloc (.cells #[.string s.id, .string s.prod, .int .i64 s.q, .string s.holder, .slice aou lu cu, .slice aoi li ci, .int .i64 s.idx, .slice aos ls cs, .slice aop lp cp] 27)).cell? ⟨w.heap.size, 4, none⟩ = some (.slice aou lu cu) := by rw [cell_of_row _ _ 4 _ _ _ HR1.out]; rfl
 have c5 : (w.alloc (.cells #[.string s.id, .string s.prod, .int .i64 s.q, .string s.holder, .slice aou lu cu, .slice aoi li ci, .int .i64 s.idx, .slice aos ls cs, .slice aop lp cp] 27)).cell? ⟨w.heap.size, 5, none⟩ = some (.slice aoi li ci) := by rw [cell_of_row _ _ 5 _ _ _ HR1.out]; rfl
 have c6 : (w.alloc (.cells #[.string s.id, .string s.prod, .int .i64 s.q, .string s.holder, .slice aou lu cu, .slice aoi li ci, .int .i64 s.idx, .slice aos ls cs, .slice aop lp cp] 27)).cell? ⟨w.heap.size, 6, none⟩ = some (.int .i64 s.idx) := by rw [cell_of_row _ _ 6 _ _ _ HR1.out]; rfl
 have c7 : (w.alloc (.cells #[.string s.id, .string s.prod, .int .i64 s.q, .string s.holder, .slice aou lu cu, .slice aoi li ci, .int .i64 s.idx, .slice aos ls cs, .slice aop lp cp] 27)).cell? ⟨w.heap.size, 7, none⟩ = some (.slice aos ls cs) := by rw [cell_of_row _ _ 7 _ _ _ HR1.out]; rfl
 have c8 : (w.alloc (.cells #[.string s.id, .string s.prod, .int .i64 s.q, .string s.holder, .slice aou lu cu, .slice aoi li ci, .int .i64 s.idx, .slice aos ls cs, .slice aop lp cp] 27)).cell? ⟨w.heap.size, 8, none⟩ = some (.slice aop lp cp) := by rw [cell_of_row _ _ 8 _ _ _ HR1.out]; rfl
 go_enter Tryz.func42, Tryz.ntmps42
 go_wp2_with fail
 generalize hgw : w.alloc (.cells #[.string s.id, .string s.prod, .int .i64 s.q, .string s.holder, .slice aou lu cu, .slice aoi li ci, .int .i64 s.idx, .slice aos ls cs, .slice aop lp cp] 27) = w1 at *
 clear hgw c0 c1 c2 c3 c6 c7 c8
 go_loop [11] (fun vi => ∃ i : Nat, vi = .int .i64 (i : Int) ∧ i ≤ lu ∧ Hid (∀ j, j < i → useOk s.uses j = true)) (fun vi => lu - (RowKit.intOf vi).toNat)
 case atStart => exact ⟨0, rfl, by omega, Lib.hid fun j hj => by omega⟩
 case round =>
  obtain ⟨i, rfl, hi, HI⟩ := hrel
  by_cases hlt : i < lu
  ·obtain ⟨b, o, cx, he, hbl, hcl⟩ := strc_lt2 HS1.out.uses i (by rw [← HLU.out]; exact hlt)
   simp only [Value.slice.injEq] at he
   obtain ⟨rfl, hx1, hx2⟩ := he
   clear hx1 hx2
   have hsz := getD_size HZ.out.uses i
   have hlt' : (i : Int) < (lu : Int) := by omega
   obtain ⟨t, htE⟩ : ∃ t, t = s.uses.getD i ByteArray.empty := ⟨_, rfl⟩
   rw [← htE] at hcl hsz
   have HT := Lib.hid htE
   clear htE
   cases hid : identB t with
   | false =>
    have HF : Hid (properB s = false) := Lib.hid (proper_no1 (range_no (by rw [← HLU.out]; exact hlt) (by unfold useOk; rw [← HT.out, hid]; rfl)))
    have HID := Lib.hid hid
    clear hid HI HT
    go_wp2_with fail
    refine (isname_calls t (by omega) w1).mono ?_
    rintro e w1 ⟨rfl, rfl⟩
    rw [HID.out]
    go_wp2
    go_ret
    exact ⟨congrArg (fun b => Ending.returned (Value.bool b)) HF.out.symm, HB1.out⟩
   | true =>
    have HID := Lib.hid hid
    clear hid
    by_cases hi0 : i = 0
    ·have hd0 : decide ((0 : Int) < (i : Int)) = false := decide_eq_false (by omega)
     have hdn : decide (0 < i) = false := decide_eq_false (by omega)
     have HN : Hid (∀ j, j < i + 1 → useOk s.uses j = true) := Lib.hid (fun j hj => by
      have : j = i := by omega
      rw [this]; unfold useOk; rw [← HT.out, HID.out, decide_eq_true hi0]; rfl)
     clear HI HT hi0
     go_wp2_with fail
     refine (isname_calls t (by omega) w1).mono ?_
     rintro e w1 ⟨rfl, rfl⟩
     rw [HID.out]
     go_wp2
     go_round
     case rel => exact ⟨i + 1, by go_num, by omega, HN⟩
     case measure => simp only [RowKit.intOf]; omega
    ·obtain ⟨j, rfl⟩ : ∃ j, i = j + 1 := ⟨i - 1, by omega⟩
     obtain ⟨b2, o2, cx2, he2, hbl2, hcl2⟩ := strc_lt2 HS1.out.uses j (by rw [← HLU.out]; omega)
     simp only [Value.slice.injEq, Option.some.injEq, Addr.mk.injEq] at he2
     obtain ⟨⟨rfl, rfl, _⟩, hx1, hx2⟩ := he2
     clear hx1 hx2
     obtain ⟨p, hpE⟩ : ∃ p, p = s.uses.getD j ByteArray.empty := ⟨_, rfl⟩
     rw [← hpE] at hcl2
     have HP := Lib.hid hpE
     clear hpE
     have hd0 : decide ((0 : Int) < ((j + 1 : Nat) : Int)) = true := decide_eq_true (by omega)
     have hjl : (j : Int) < (lu : Int) := by omega
     have hj0 : (0 : Int) ≤ (j : Int) := by omega
     have hjj : ((j + 1 : Nat) : Int) - 1 = (j : Int) := by omega
     cases hb1 : Op.bytesLess t.toList p.toList with
     | true =>
      have hle : leB t p = true := by unfold leB; rw [hb1]; rfl
      have HF : Hid (properB s = false) := Lib.hid (proper_no1 (range_no (by rw [← HLU.out]; exact hlt) (by unfold useOk; rw [← HT.out, Nat.add_sub_cancel, ← HP.out, hle]; simp)))
      clear HI HT HP hle
      go_wp2_with fail
      refine (isname_calls t (by omega) w1).mono ?_
      rintro e w1 ⟨rfl, rfl⟩
      rw [HID.out]
      go_wp2
      go_ret
      exact ⟨congrArg (fun b => Ending.returned (Value.bool b)) HF.out.symm, HB1.out⟩
     | false =>
      cases hb2 : (t.toList == p.toList) with
      | true =>
       have hle : leB t p = true := by unfold leB; rw [hb1, hb2]; rfl
       have HF : Hid (properB s = false) := Lib.hid (proper_no1 (range_no (by rw [← HLU.out]; exact hlt) (by unfold useOk; rw [← HT.out, Nat.add_sub_cancel, ← HP.out, hle]; simp)))
       clear HI HT HP hle
       go_wp2_with fail
       refine (isname_calls t (by omega) w1).mono ?_
       rintro e w1 ⟨rfl, rfl⟩
       rw [HID.out]
       go_wp2
       go_ret
       exact ⟨congrArg (fun b => Ending.returned (Value.bool b)) HF.out.symm, HB1.out⟩
      | false =>
       have hle : leB t p = false := by unfold leB; rw [hb1, hb2]; rfl
       have HN : Hid (∀ k, k < j + 1 + 1 → useOk s.uses k = true) := Lib.hid (fun k hk => by
        rcases Nat.lt_succ_iff_lt_or_eq.1 hk with h | h
        ·exact HI.out k h
        ·subst h; unfold useOk; rw [← HT.out, HID.out, Nat.add_sub_cancel, ← HP.out, hle]; simp)
       clear HI HT HP hle
       go_wp2_with fail
       refine (isname_calls t (by omega) w1).mono ?_
       rintro e w1 ⟨rfl, rfl⟩
       rw [HID.out]
       go_wp2
       go_round
       case rel => exact ⟨j + 1 + 1, by go_num, by omega, HN⟩
       case measure => simp only [RowKit.intOf]; omega
  ·have HAU : Hid (usesOk s.uses = true) := Lib.hid (range_all (fun j hj => HI.out j (by have := HLU.out; omega)))
   clear HI
   have c5a : ∀ ob : Obj, (w1.alloc ob).cell? ⟨w.heap.size, 5, none⟩ = some (.slice aoi li ci) := fun ob => by rw [((Below.refl w1.heap.size w1).alloc (Nat.le_refl _) ob).cell (p := ⟨w.heap.size, 5, none⟩) hz1]; exact c5
   go_wp2_with fail
   clear c5a c4 c5
   go_loopw [38] (fun vi W => ∃ i : Nat, vi = .int .i64 (i : Int) ∧ i ≤ li ∧ Hid (SeenAt w1.heap.size i s.inputs w1 W ∧ ∀ j, j < i → inpOk s.inputs j = true)) (fun vi _ => li - (RowKit.intOf vi).toNat)
   case atStart => exact ⟨0, rfl, by omega, Lib.hid ⟨⟨⟨_, World.ownsMap_made _ _ _ _, fun t => rfl⟩, (Below.refl _ _).alloc (Nat.le_refl _) _⟩, fun j hj => by omega⟩⟩
   case round =>
    obtain ⟨i, rfl, hi, HI⟩ := hrel
    have HBW : Hid (Below w.heap.size w wr) := Lib.hid (HB1.out.trans (HI.out.1.below.mono HB1.out.size))
    by_cases hlt : i < li
    ·obtain ⟨b, o, cx, he, hbl, hcl, hcl2⟩ := (HS1.out.inputs.on HI.out.1.below).at i (by rw [← HLI.out]; exact hlt)
     simp only [Value.slice.injEq] at he
     obtain ⟨rfl, hx1, hx2⟩ := he
     clear hx1 hx2
     have hsz := inp_le HZ.out.inputs i
     have hlt' : (i : Int) < (li : Int) := by omega
     obtain ⟨D, hown, hD⟩ := HI.out.1.map
     obtain ⟨t, htE⟩ : ∃ t, t = (s.inputs.getD i nilInp).1 := ⟨_, rfl⟩
     obtain ⟨q, hqE⟩ : ∃ q, q = (s.inputs.getD i nilInp).2 := ⟨_, rfl⟩
     rw [← htE] at hcl hsz
     rw [← hqE] at hcl2
     have HT := Lib.hid htE
     have HQ := Lib.hid hqE
     obtain ⟨v, ps, hrun, hv⟩ := (hown.alloc (.cells #[.string t, .int .i64 q] 52)).lookup strKey Tryz.underlying116 (zeroBool _) (zd := .lit (.bool false)) (zp := []) (plainElem_bool Tryz.underlying4 false) (keyS_of (t := t) (Nat.le_trans hsz (by decide)))
     rw [hD t] at hv
     obtain ⟨x, rfl, hx⟩ := plainElem_bool_inv Tryz.underlying4 hv
     simp only [Prod.mk.injEq, DataW.lit.injEq, Lit.bool.injEq] at hx
     have HX : Hid ((s.inputs.take i).any (fun y => decide (y.1 = t)) = x) := Lib.hid hx.1
     have HD := Lib.hid hD
     have HOWN := Lib.hid (hown.alloc (.cells #[.string t, .int .i64 q] 52))
     have HBX : Hid (Below w1.heap.size w1 (wr.alloc (.cells #[.string t, .int .i64 q] 52))) := Lib.hid (HI.out.1.below.alloc HI.out.1.below.size _)
     have HBY : Hid (Below w.heap.size w (wr.alloc (.cells #[.string t, .int .i64 q] 52))) := Lib.hid (HB1.out.trans (HBX.out.mono HB1.out.size))
     have HOK := Lib.hid HI.out.2
     clear htE hqE hv hx hD hown HI
     cases hid : identB t with
     | false =>
      have HF : Hid (properB s = false) := Lib.hid (proper_no2 (range_no (by rw [← HLI.out]; exact hlt) (by unfold inpOk; rw [← HT.out, hid]; rfl)))
      have HID := Lib.hid hid
      clear hid HT HQ HX HD HOWN HOK hrun
      go_wp2_with fail
      refine (isname_calls t (by omega) _).mono ?_
      rintro e w5 ⟨rfl, rfl⟩
      rw [HID.out]
      go_wp2
      go_ret
      exact ⟨congrArg (fun b => Ending.returned (Value.bool b)) HF.out.symm, HBY.out⟩
     | true =>
      have HID := Lib.hid hid
      clear hid
      cases hqu : quantB q with
      | false =>
       have HF : Hid (properB s = false) := Lib.hid (proper_no2 (range_no (by rw [← HLI.out]; exact hlt) (by unfold inpOk; rw [← HT.out, ← HQ.out, HID.out, hqu]; rfl)))
       have HQU := Lib.hid hqu
       clear hqu HT HQ HX HD HOWN HOK hrun
       go_wp2_with fail
       refine (isname_calls t (by omega) _).mono ?_
       rintro e w5 ⟨rfl, rfl⟩
       rw [HID.out]
       go_wp2_with fail
       refine (isq_calls q _).mono ?_
       rintro e w5 ⟨rfl, rfl⟩
       rw [HQU.out]
       go_wp2
       go_ret
       exact ⟨congrArg (fun b => Ending.returned (Value.bool b)) HF.out.symm, HBY.out⟩
      | true =>
       have HQU := Lib.hid hqu
       clear hqu
       cases x with
       | true =>
        have HF : Hid (properB s = false) := Lib.hid (proper_no2 (range_no (by rw [← HLI.out]; exact hlt) (by unfold inpOk; rw [← HT.out, HX.out]; simp)))
        clear HT HQ HX HD HOWN HOK
        go_wp2_with fail
        refine (isname_calls t (by omega) _).mono ?_
        rintro e w5 ⟨rfl, rfl⟩
        rw [HID.out]
        go_wp2_with fail
        refine (isq_calls q _).mono ?_
        rintro e w5 ⟨rfl, rfl⟩
        rw [HQU.out]
        go_wp2
        go_ret
        exact ⟨congrArg (fun b => Ending.returned (Value.bool b)) HF.out.symm, HBY.out⟩
       | false =>
        have HN : Hid (∀ j, j < i + 1 → inpOk s.inputs j = true) := Lib.hid (fun j hj => by
         rcases Nat.lt_succ_iff_lt_or_eq.1 hj with h | h
         ·exact HOK.out j h
         ·subst h; unfold inpOk; rw [← HT.out, ← HQ.out, HID.out, HQU.out, HX.out]; rfl)
        have HTA : Hid (∀ u, ((s.inputs.take (i + 1)).any fun y => decide (y.1 = u)) = ((s.inputs.take i).any (fun y => decide (y.1 = u)) || decide (t = u))) := Lib.hid (fun u => by rw [take_any (by rw [← HLI.out]; exact hlt) u, ← HT.out])
        clear HT HQ HX HOK
        go_wp2_with fail
        refine (isname_calls t (by omega) _).mono ?_
        rintro e w5 ⟨rfl, rfl⟩
        rw [HID.out]
        go_wp2_with fail
        refine (isq_calls q _).mono ?_
        rintro e w5 ⟨rfl, rfl⟩
        rw [HQU.out]
        go_wp2_with (at_mapUpdate; refine wpList_mapUpdate_own _ rfl _ _ _ 116 rfl 9 4 strKey Tryz.underlying116 _ w1.heap.size i D rfl HOWN.out (by show i < 9223372036854775807; omega) _ _ _ rfl rfl (keyS_of (t := t) (Nat.le_trans hsz (by decide))) _ [] (plainElem_bool Tryz.underlying4 true) ?_)
        intro w6 hown6 hg6
        have HS6 : Hid (SeenAt w1.heap.size (i + 1) s.inputs w1 w6) := Lib.hid ⟨⟨_, hown6, fun u => by
         rw [HTA.out u]
         by_cases hu : t = u
         ·subst hu
          rw [atKey_put_same (World.ownsMap.isMap HOWN.out) (keyS_is t), decide_eq_true rfl, Bool.or_true]
         ·rw [atKey_put_other (fun e => hu (keyS_inj e.symm)), HD.out u, decide_eq_false hu, Bool.or_false]⟩, HBX.out.grown hg6 HBX.out.size (fun k hk => by cases hk; exact Nat.le_refl _)⟩
        clear hown6 hg6 HOWN HD HTA hrun
        go_wp2
        go_round
        case rel => exact ⟨i + 1, by go_num, by omega, Lib.hid ⟨HS6.out, HN.out⟩⟩
        case measure => simp only [RowKit.intOf]; omega
    ·have HAI : Hid (inpsOk s.inputs = true) := Lib.hid (range_all (fun j hj => HI.out.2 j (by have := HLI.out; omega)))
     have HRW : Hid (wr.heap[w.heap.size]? = some (.cells #[.string s.id, .string s.prod, .int .i64 s.q, .string s.holder, .slice aou lu cu, .slice aoi li ci, .int .i64 s.idx, .slice aos ls cs, .slice aop lp cp] 27 (0, 0))) := Lib.hid ((HI.out.1.below.block _ hz1).trans HR1.out)
     have HPR : Hid (properB s = (identB s.id && identB s.prod && quantB s.q && isS s.holder && decide (1 ≤ lu) && decide (lu ≤ 12) && decide (li ≤ 12))) := Lib.hid (by unfold properB; rw [HAU.out, HAI.out, HLU.out, HLI.out]; rfl)
     clear HI
     have HZL : Hid (w.heap.size < wr.heap.size) := Lib.hid (Array.getElem?_eq_some_iff.1 HRW.out).1
     cases hv0 : identB s.id with
     | false =>
      have HF : Hid (properB s = false) := Lib.hid (by rw [HPR.out, hv0]; simp)
      have HV0 := Lib.hid hv0
      clear hv0
      have d0 : wr.cell? ⟨w.heap.size, 0, none⟩ = some (.string s.id) := by rw [cell_of_row _ _ 0 _ _ _ HRW.out]; rfl
      have d1 : wr.cell? ⟨w.heap.size, 1, none⟩ = some (.string s.prod) := by rw [cell_of_row _ _ 1 _ _ _ HRW.out]; rfl
      have d2 : wr.cell? ⟨w.heap.size, 2, none⟩ = some (.int .i64 s.q) := by rw [cell_of_row _ _ 2 _ _ _ HRW.out]; rfl
      have d3 : wr.cell? ⟨w.heap.size, 3, none⟩ = some (.string s.holder) := by rw [cell_of_row _ _ 3 _ _ _ HRW.out]; rfl
      have d4 : wr.cell? ⟨w.heap.size, 4, none⟩ = some (.slice aou lu cu) := by rw [cell_of_row _ _ 4 _ _ _ HRW.out]; rfl
      have d5 : wr.cell? ⟨w.heap.size, 5, none⟩ = some (.slice aoi li ci) := by rw [cell_of_row _ _ 5 _ _ _ HRW.out]; rfl
      go_wp2_with fail
      refine (isname_calls s.id (by omega) _).mono ?_
      rintro e wr ⟨rfl, rfl⟩
      rw [HV0.out]
      go_wp2
      go_ret
      exact ⟨congrArg (fun b => Ending.returned (Value.bool b)) HF.out.symm, HBW.out⟩
     | true =>
      have HV0 := Lib.hid hv0
      clear hv0
      cases hv1 : identB s.prod with
      | false =>
       have HF : Hid (properB s = false) := Lib.hid (by rw [HPR.out, HV0.out, hv1]; simp)
       have HV1 := Lib.hid hv1
       clear hv1
       have d0 : wr.cell? ⟨w.heap.size, 0, none⟩ = some (.string s.id) := by rw [cell_of_row _ _ 0 _ _ _ HRW.out]; rfl
       have d1 : wr.cell? ⟨w.heap.size, 1, none⟩ = some (.string s.prod) := by rw [cell_of_row _ _ 1 _ _ _ HRW.out]; rfl
       have d2 : wr.cell? ⟨w.heap.size, 2, none⟩ = some (.int .i64 s.q) := by rw [cell_of_row _ _ 2 _ _ _ HRW.out]; rfl
       have d3 : wr.cell? ⟨w.heap.size, 3, none⟩ = some (.string s.holder) := by rw [cell_of_row _ _ 3 _ _ _ HRW.out]; rfl
       have d4 : wr.cell? ⟨w.heap.size, 4, none⟩ = some (.slice aou lu cu) := by rw [cell_of_row _ _ 4 _ _ _ HRW.out]; rfl
       have d5 : wr.cell? ⟨w.heap.size, 5, none⟩ = some (.slice aoi li ci) := by rw [cell_of_row _ _ 5 _ _ _ HRW.out]; rfl
       go_wp2_with fail
       refine (isname_calls s.id (by omega) _).mono ?_
       rintro e wr ⟨rfl, rfl⟩
       rw [HV0.out]
       go_wp2_with fail
       refine (isname_calls s.prod (by omega) _).mono ?_
       rintro e wr ⟨rfl, rfl⟩
       rw [HV1.out]
       go_wp2
       go_ret
       exact ⟨congrArg (fun b => Ending.returned (Value.bool b)) HF.out.symm, HBW.out⟩
      | true =>
       have HV1 := Lib.hid hv1
       clear hv1
       cases hv2 : quantB s.q with
       | false =>
        have HF : Hid (properB s = false) := Lib.hid (by rw [HPR.out, HV0.out, HV1.out, hv2]; simp)
        have HV2 := Lib.hid hv2
        clear hv2
        have d0 : wr.cell? ⟨w.heap.size, 0, none⟩ = some (.string s.id) := by rw [cell_of_row _ _ 0 _ _ _ HRW.out]; rfl
        have d1 : wr.cell? ⟨w.heap.size, 1, none⟩ = some (.string s.prod) := by rw [cell_of_row _ _ 1 _ _ _ HRW.out]; rfl
        have d2 : wr.cell? ⟨w.heap.size, 2, none⟩ = some (.int .i64 s.q) := by rw [cell_of_row _ _ 2 _ _ _ HRW.out]; rfl
        have d3 : wr.cell? ⟨w.heap.size, 3, none⟩ = some (.string s.holder) := by rw [cell_of_row _ _ 3 _ _ _ HRW.out]; rfl
        have d4 : wr.cell? ⟨w.heap.size, 4, none⟩ = some (.slice aou lu cu) := by rw [cell_of_row _ _ 4 _ _ _ HRW.out]; rfl
        have d5 : wr.cell? ⟨w.heap.size, 5, none⟩ = some (.slice aoi li ci) := by rw [cell_of_row _ _ 5 _ _ _ HRW.out]; rfl
        go_wp2_with fail
        refine (isname_calls s.id (by omega) _).mono ?_
        rintro e wr ⟨rfl, rfl⟩
        rw [HV0.out]
        go_wp2_with fail
        refine (isname_calls s.prod (by omega) _).mono ?_
        rintro e wr ⟨rfl, rfl⟩
        rw [HV1.out]
        go_wp2_with fail
        refine (isq_calls s.q _).mono ?_
        rintro e wr ⟨rfl, rfl⟩
        rw [HV2.out]
        go_wp2
        go_ret
        exact ⟨congrArg (fun b => Ending.returned (Value.bool b)) HF.out.symm, HBW.out⟩
       | true =>
        have HV2 := Lib.hid hv2
        clear hv2
        cases hv3 : isS s.holder with
        | false =>
         have HF : Hid (properB s = false) := Lib.hid (by rw [HPR.out, HV0.out, HV1.out, HV2.out, hv3]; simp)
         have HV3 := Lib.hid hv3
         clear hv3
         have d0 : wr.cell? ⟨w.heap.size, 0, none⟩ = some (.string s.id) := by rw [cell_of_row _ _ 0 _ _ _ HRW.out]; rfl
         have d1 : wr.cell? ⟨w.heap.size, 1, none⟩ = some (.string s.prod) := by rw [cell_of_row _ _ 1 _ _ _ HRW.out]; rfl
         have d2 : wr.cell? ⟨w.heap.size, 2, none⟩ = some (.int .i64 s.q) := by rw [cell_of_row _ _ 2 _ _ _ HRW.out]; rfl
         have d3 : wr.cell? ⟨w.heap.size, 3, none⟩ = some (.string s.holder) := by rw [cell_of_row _ _ 3 _ _ _ HRW.out]; rfl
         have d4 : wr.cell? ⟨w.heap.size, 4, none⟩ = some (.slice aou lu cu) := by rw [cell_of_row _ _ 4 _ _ _ HRW.out]; rfl
         have d5 : wr.cell? ⟨w.heap.size, 5, none⟩ = some (.slice aoi li ci) := by rw [cell_of_row _ _ 5 _ _ _ HRW.out]; rfl
         go_wp2_with fail
         refine (isname_calls s.id (by omega) _).mono ?_
         rintro e wr ⟨rfl, rfl⟩
         rw [HV0.out]
         go_wp2_with fail
         refine (isname_calls s.prod (by omega) _).mono ?_
         rintro e wr ⟨rfl, rfl⟩
         rw [HV1.out]
         go_wp2_with fail
         refine (isq_calls s.q _).mono ?_
         rintro e wr ⟨rfl, rfl⟩
         rw [HV2.out]
         go_wp2_with fail
         refine (is_calls s.holder (by omega) _).mono ?_
         rintro e w7 ⟨rfl, hB7⟩
         rw [HV3.out]
         have HB7 : Hid (Below w.heap.size w w7) := Lib.hid (HBW.out.trans (hB7.mono HBW.out.size))
         have HRX := Lib.hid ((hB7.block _ HZL.out).trans HRW.out)
         clear d0 d1 d2 d3 d4 d5 hB7
         have d4 : w7.cell? ⟨w.heap.size, 4, none⟩ = some (.slice aou lu cu) := by rw [cell_of_row _ _ 4 _ _ _ HRX.out]; rfl
         have d5 : w7.cell? ⟨w.heap.size, 5, none⟩ = some (.slice aoi li ci) := by rw [cell_of_row _ _ 5 _ _ _ HRX.out]; rfl
         go_wp2
         go_ret
         exact ⟨congrArg (fun b => Ending.returned (Value.bool b)) HF.out.symm, HB7.out⟩
        | true =>
         have HV3 := Lib.hid hv3
         clear hv3
         by_cases ht0 : 1 ≤ lu
         rotate_left
         ·have hd0 : decide ((0 : Int) < (lu : Int)) = false := decide_eq_false (by omega)
          have hn0 : decide (0 < lu) = false := decide_eq_false (by omega)
          have HF : Hid (properB s = false) := Lib.hid (by rw [HPR.out, HV0.out, HV1.out, HV2.out, HV3.out, decide_eq_false ht0]; simp)
          have d0 : wr.cell? ⟨w.heap.size, 0, none⟩ = some (.string s.id) := by rw [cell_of_row _ _ 0 _ _ _ HRW.out]; rfl
          have d1 : wr.cell? ⟨w.heap.size, 1, none⟩ = some (.string s.prod) := by rw [cell_of_row _ _ 1 _ _ _ HRW.out]; rfl
          have d2 : wr.cell? ⟨w.heap.size, 2, none⟩ = some (.int .i64 s.q) := by rw [cell_of_row _ _ 2 _ _ _ HRW.out]; rfl
          have d3 : wr.cell? ⟨w.heap.size, 3, none⟩ = some (.string s.holder) := by rw [cell_of_row _ _ 3 _ _ _ HRW.out]; rfl
          have d4 : wr.cell? ⟨w.heap.size, 4, none⟩ = some (.slice aou lu cu) := by rw [cell_of_row _ _ 4 _ _ _ HRW.out]; rfl
          have d5 : wr.cell? ⟨w.heap.size, 5, none⟩ = some (.slice aoi li ci) := by rw [cell_of_row _ _ 5 _ _ _ HRW.out]; rfl
          go_wp2_with fail
          refine (isname_calls s.id (by omega) _).mono ?_
          rintro e wr ⟨rfl, rfl⟩
          rw [HV0.out]
          go_wp2_with fail
          refine (isname_calls s.prod (by omega) _).mono ?_
          rintro e wr ⟨rfl, rfl⟩
          rw [HV1.out]
          go_wp2_with fail
          refine (isq_calls s.q _).mono ?_
          rintro e wr ⟨rfl, rfl⟩
          rw [HV2.out]
          go_wp2_with fail
          refine (is_calls s.holder (by omega) _).mono ?_
          rintro e w7 ⟨rfl, hB7⟩
          rw [HV3.out]
          have HB7 : Hid (Below w.heap.size w w7) := Lib.hid (HBW.out.trans (hB7.mono HBW.out.size))
          have HRX := Lib.hid ((hB7.block _ HZL.out).trans HRW.out)
          clear d0 d1 d2 d3 d4 d5 hB7
          have d4 : w7.cell? ⟨w.heap.size, 4, none⟩ = some (.slice aou lu cu) := by rw [cell_of_row _ _ 4 _ _ _ HRX.out]; rfl
          have d5 : w7.cell? ⟨w.heap.size, 5, none⟩ = some (.slice aoi li ci) := by rw [cell_of_row _ _ 5 _ _ _ HRX.out]; rfl
          go_wp2
          go_ret
          exact ⟨congrArg (fun b => Ending.returned (Value.bool b)) HF.out.symm, HB7.out⟩
         have hd0 : decide ((0 : Int) < (lu : Int)) = true := decide_eq_true (by omega)
         have hn0 : decide (0 < lu) = true := decide_eq_true (by omega)
         by_cases ht1 : lu ≤ 12
         rotate_left
         ·have hd1 : decide ((lu : Int) ≤ 12) = false := decide_eq_false (by omega)
          have HF : Hid (properB s = false) := Lib.hid (by rw [HPR.out, HV0.out, HV1.out, HV2.out, HV3.out, decide_eq_true ht0, decide_eq_false ht1]; simp)
          have d0 : wr.cell? ⟨w.heap.size, 0, none⟩ = some (.string s.id) := by rw [cell_of_row _ _ 0 _ _ _ HRW.out]; rfl
          have d1 : wr.cell? ⟨w.heap.size, 1, none⟩ = some (.string s.prod) := by rw [cell_of_row _ _ 1 _ _ _ HRW.out]; rfl
          have d2 : wr.cell? ⟨w.heap.size, 2, none⟩ = some (.int .i64 s.q) := by rw [cell_of_row _ _ 2 _ _ _ HRW.out]; rfl
          have d3 : wr.cell? ⟨w.heap.size, 3, none⟩ = some (.string s.holder) := by rw [cell_of_row _ _ 3 _ _ _ HRW.out]; rfl
          have d4 : wr.cell? ⟨w.heap.size, 4, none⟩ = some (.slice aou lu cu) := by rw [cell_of_row _ _ 4 _ _ _ HRW.out]; rfl
          have d5 : wr.cell? ⟨w.heap.size, 5, none⟩ = some (.slice aoi li ci) := by rw [cell_of_row _ _ 5 _ _ _ HRW.out]; rfl
          go_wp2_with fail
          refine (isname_calls s.id (by omega) _).mono ?_
          rintro e wr ⟨rfl, rfl⟩
          rw [HV0.out]
          go_wp2_with fail
          refine (isname_calls s.prod (by omega) _).mono ?_
          rintro e wr ⟨rfl, rfl⟩
          rw [HV1.out]
          go_wp2_with fail
          refine (isq_calls s.q _).mono ?_
          rintro e wr ⟨rfl, rfl⟩
          rw [HV2.out]
          go_wp2_with fail
          refine (is_calls s.holder (by omega) _).mono ?_
          rintro e w7 ⟨rfl, hB7⟩
          rw [HV3.out]
          have HB7 : Hid (Below w.heap.size w w7) := Lib.hid (HBW.out.trans (hB7.mono HBW.out.size))
          have HRX := Lib.hid ((hB7.block _ HZL.out).trans HRW.out)
          clear d0 d1 d2 d3 d4 d5 hB7
          have d4 : w7.cell? ⟨w.heap.size, 4, none⟩ = some (.slice aou lu cu) := by rw [cell_of_row _ _ 4 _ _ _ HRX.out]; rfl
          have d5 : w7.cell? ⟨w.heap.size, 5, none⟩ = some (.slice aoi li ci) := by rw [cell_of_row _ _ 5 _ _ _ HRX.out]; rfl
          go_wp2
          go_ret
          exact ⟨congrArg (fun b => Ending.returned (Value.bool b)) HF.out.symm, HB7.out⟩
         have hd1 : decide ((lu : Int) ≤ 12) = true := decide_eq_true (by omega)
         by_cases ht2 : li ≤ 12
         rotate_left
         ·have hd2 : decide ((li : Int) ≤ 12) = false := decide_eq_false (by omega)
          have HF : Hid (properB s = false) := Lib.hid (by rw [HPR.out, HV0.out, HV1.out, HV2.out, HV3.out, decide_eq_true ht0, decide_eq_true ht1, decide_eq_false ht2]; simp)
          have d0 : wr.cell? ⟨w.heap.size, 0, none⟩ = some (.string s.id) := by rw [cell_of_row _ _ 0 _ _ _ HRW.out]; rfl
          have d1 : wr.cell? ⟨w.heap.size, 1, none⟩ = some (.string s.prod) := by rw [cell_of_row _ _ 1 _ _ _ HRW.out]; rfl
          have d2 : wr.cell? ⟨w.heap.size, 2, none⟩ = some (.int .i64 s.q) := by rw [cell_of_row _ _ 2 _ _ _ HRW.out]; rfl
          have d3 : wr.cell? ⟨w.heap.size, 3, none⟩ = some (.string s.holder) := by rw [cell_of_row _ _ 3 _ _ _ HRW.out]; rfl
          have d4 : wr.cell? ⟨w.heap.size, 4, none⟩ = some (.slice aou lu cu) := by rw [cell_of_row _ _ 4 _ _ _ HRW.out]; rfl
          have d5 : wr.cell? ⟨w.heap.size, 5, none⟩ = some (.slice aoi li ci) := by rw [cell_of_row _ _ 5 _ _ _ HRW.out]; rfl
          go_wp2_with fail
          refine (isname_calls s.id (by omega) _).mono ?_
          rintro e wr ⟨rfl, rfl⟩
          rw [HV0.out]
          go_wp2_with fail
          refine (isname_calls s.prod (by omega) _).mono ?_
          rintro e wr ⟨rfl, rfl⟩
          rw [HV1.out]
          go_wp2_with fail
          refine (isq_calls s.q _).mono ?_
          rintro e wr ⟨rfl, rfl⟩
          rw [HV2.out]
          go_wp2_with fail
          refine (is_calls s.holder (by omega) _).mono ?_
          rintro e w7 ⟨rfl, hB7⟩
          rw [HV3.out]
          have HB7 : Hid (Below w.heap.size w w7) := Lib.hid (HBW.out.trans (hB7.mono HBW.out.size))
          have HRX := Lib.hid ((hB7.block _ HZL.out).trans HRW.out)
          clear d0 d1 d2 d3 d4 d5 hB7
          have d4 : w7.cell? ⟨w.heap.size, 4, none⟩ = some (.slice aou lu cu) := by rw [cell_of_row _ _ 4 _ _ _ HRX.out]; rfl
          have d5 : w7.cell? ⟨w.heap.size, 5, none⟩ = some (.slice aoi li ci) := by rw [cell_of_row _ _ 5 _ _ _ HRX.out]; rfl
          go_wp2
          go_ret
          exact ⟨congrArg (fun b => Ending.returned (Value.bool b)) HF.out.symm, HB7.out⟩
         have hd2 : decide ((li : Int) ≤ 12) = true := decide_eq_true (by omega)
         have HF : Hid (properB s = true) := Lib.hid (by rw [HPR.out, HV0.out, HV1.out, HV2.out, HV3.out, decide_eq_true ht0, decide_eq_true ht1, decide_eq_true ht2]; rfl)
         have d0 : wr.cell? ⟨w.heap.size, 0, none⟩ = some (.string s.id) := by rw [cell_of_row _ _ 0 _ _ _ HRW.out]; rfl
         have d1 : wr.cell? ⟨w.heap.size, 1, none⟩ = some (.string s.prod) := by rw [cell_of_row _ _ 1 _ _ _ HRW.out]; rfl
         have d2 : wr.cell? ⟨w.heap.size, 2, none⟩ = some (.int .i64 s.q) := by rw [cell_of_row _ _ 2 _ _ _ HRW.out]; rfl
         have d3 : wr.cell? ⟨w.heap.size, 3, none⟩ = some (.string s.holder) := by rw [cell_of_row _ _ 3 _ _ _ HRW.out]; rfl
         have d4 : wr.cell? ⟨w.heap.size, 4, none⟩ = some (.slice aou lu cu) := by rw [cell_of_row _ _ 4 _ _ _ HRW.out]; rfl
         have d5 : wr.cell? ⟨w.heap.size, 5, none⟩ = some (.slice aoi li ci) := by rw [cell_of_row _ _ 5 _ _ _ HRW.out]; rfl
         go_wp2_with fail
         refine (isname_calls s.id (by omega) _).mono ?_
         rintro e wr ⟨rfl, rfl⟩
         rw [HV0.out]
         go_wp2_with fail
         refine (isname_calls s.prod (by omega) _).mono ?_
         rintro e wr ⟨rfl, rfl⟩
         rw [HV1.out]
         go_wp2_with fail
         refine (isq_calls s.q _).mono ?_
         rintro e wr ⟨rfl, rfl⟩
         rw [HV2.out]
         go_wp2_with fail
         refine (is_calls s.holder (by omega) _).mono ?_
         rintro e w7 ⟨rfl, hB7⟩
         rw [HV3.out]
         have HB7 : Hid (Below w.heap.size w w7) := Lib.hid (HBW.out.trans (hB7.mono HBW.out.size))
         have HRX := Lib.hid ((hB7.block _ HZL.out).trans HRW.out)
         clear d0 d1 d2 d3 d4 d5 hB7
         have d4 : w7.cell? ⟨w.heap.size, 4, none⟩ = some (.slice aou lu cu) := by rw [cell_of_row _ _ 4 _ _ _ HRX.out]; rfl
         have d5 : w7.cell? ⟨w.heap.size, 5, none⟩ = some (.slice aoi li ci) := by rw [cell_of_row _ _ 5 _ _ _ HRX.out]; rfl
         go_wp2
         go_ret
         exact ⟨congrArg (fun b => Ending.returned (Value.bool b)) HF.out.symm, HB7.out⟩
end Go.Proofs.YtnkepmfgmfeabaaGreatDoor
set_option linter.unusedVariables false
namespace Go.Proofs.YtnkepmfgmfeabaaGreatDoor
open Go Go.RowKit

def digV (c : Nat) : Int := if 48 ≤ c ∧ c ≤ 57 then c - 48 else if 97 ≤ c ∧ c ≤ 102 then c - 97 + 10 else -1
theorem digit_calls (c : Nat) (hc : c < 256) (w : World) :
  Calls Tryz.prog 53 #[.int .u8 c] w fun e w' => e = .returned (.int .i64 (digV c)) ∧ w' = w := by
 by_cases h1 : 48 ≤ c
 ·by_cases h2 : c ≤ 57
  ·have e : digV c = (c : Int) - 48 := by unfold digV; rw [if_pos ⟨h1, h2⟩]
   rw [e]
   go_enter Tryz.func53, Tryz.ntmps53
   go_wp2
   go_ret
   exact ⟨rfl, rfl⟩
  ·by_cases h3 : 97 ≤ c
   ·by_cases h4 : c ≤ 102
    ·have e : digV c = (c : Int) - 97 + 10 := by unfold digV; rw [if_neg (by omega), if_pos ⟨h3, h4⟩]
     rw [e]
     go_enter Tryz.func53, Tryz.ntmps53
     go_wp2
     go_ret
     exact ⟨rfl, rfl⟩
    ·have e : digV c = -1 := by unfold digV; rw [if_neg (by omega), if_neg (by omega)]
     rw [e]
     go_enter Tryz.func53, Tryz.ntmps53
     go_wp2
     go_ret
     exact ⟨rfl, rfl⟩
   ·have e : digV c = -1 := by unfold digV; rw [if_neg (by omega), if_neg (by omega)]
    rw [e]
    go_enter Tryz.func53, Tryz.ntmps53
    go_wp2
    go_ret
    exact ⟨rfl, rfl⟩
 ·have e : digV c = -1 := by unfold digV; rw [if_neg (by omega), if_neg (by omega)]
  rw [e]
  go_enter Tryz.func53, Tryz.ntmps53
  go_wp2
  go_ret
  exact ⟨rfl, rfl⟩

theorem digV_neg (c : UInt8) : digV c.toNat < 0 ↔ hexd c = false := by
 unfold digV hexd
 split
 ·rename_i h; simp [h.1, h.2]; omega
 ·split
  ·rename_i h; simp [h.1, h.2]; omega
  ·rename_i h1 h2
   constructor
   ·intro _
    simp only [Bool.or_eq_false_iff, Bool.and_eq_false_iff, decide_eq_false_iff_not]
    omega
   ·intro _; decide
set_option maxHeartbeats 1000000 in
theorem ris_calls (t : ByteArray) (ht : t.size ≤ 4611686018427387904) (w : World) :
  Calls Tryz.prog 28 #[.string t] w fun e w' => e = .returned (.bool (isS t)) ∧ w' = w := by
 go_enter Tryz.func28, Tryz.ntmps28
 go_wp2_with fail
 go_loop [3] (fun vi => ∃ i : Nat, vi = .int .i64 (i : Int) ∧ i ≤ t.size ∧ i ≤ 16 ∧ Hid (∀ j, j < i → ∀ c, t.data.toList[j]? = some c → hexd c = true)) (fun vi => 16 - (RowKit.intOf vi).toNat)
 case atStart => exact ⟨0, rfl, by omega, by omega, Lib.hid fun j hj => by omega⟩
 case round =>
  obtain ⟨i, rfl, hit, hi16, HI⟩ := hrel
  by_cases hlt : i < t.size
  ·by_cases h16 : i < 16
   ·have hidx := idxS t i hlt IntKind.i64
    have hl : i < t.data.toList.length := by rw [← Lib.size_eq]; exact hlt
    have hb : byteAt t.data.toList i = (t.data.toList[i]).toNat := by unfold byteAt; rw [List.getElem?_eq_getElem hl]; rfl
    have hD := digV_neg (t.data.toList[i])
    rw [← hb] at hD
    have hb256 := byteAt_lt t.data.toList i
    have hM := fun w => digit_calls (byteAt t.data.toList i) hb256 w
    clear hb
    generalize byteAt t.data.toList i = c at *
    have HM := Lib.hid hM
    clear hM
    go_wp2_with fail
    refine (HM.out _).mono ?_
    rintro e w1 ⟨rfl, rfl⟩
    by_cases hneg : digV c < 0
    ·have HF : Hid (isS t = false) := by
      have h1 := hD.1 hneg
      unfold isS isL
      have : t.data.toList.all hexd = false := by
       rw [List.all_eq_false]
       exact ⟨_, List.getElem_mem hl, by rw [h1]; simp⟩
      rw [this, Bool.and_false]
      exact Lib.hid rfl
     clear hD
     generalize digV c = dv at *
     go_wp2
     go_ret
     exact ⟨by rw [HF.out]; rfl, rfl⟩
    ·have HH : Hid (∀ j, j < i + 1 → ∀ c, t.data.toList[j]? = some c → hexd c = true) := Lib.hid fun j hj c' hc' => by
      rcases Nat.lt_succ_iff_lt_or_eq.1 hj with h | h
      ·exact HI.out j h c' hc'
      ·subst h
       rw [List.getElem?_eq_getElem hl] at hc'
       injection hc' with hc'
       rw [← hc']
       cases hx : hexd t.data.toList[j] with
       | true => rfl
       | false => exact absurd (hD.2 hx) hneg
     clear hD HI
     generalize digV c = dv at *
     go_wp2
     go_round
     case rel => exact ⟨i + 1, rfl, by omega, by omega, HH⟩
     case measure => simp only [RowKit.intOf]; omega
   ·have e : i = 16 := by omega
    subst e
    by_cases hsz : t.size = 16
    ·omega
    ·have HN := Lib.hid (isS_no t hsz)
     have hq : ((t.size : Int) == 16) = false := by rw [beq_eq_false_iff_ne]; omega
     go_wp2
     go_ret
     exact ⟨by rw [HN.out]; rfl, rfl⟩
  ·have e : i = t.size := by omega
   have HT : Hid (isS t = (decide (t.size = 16))) := by
    by_cases hsz : t.size = 16
    ·have : t.data.toList.all hexd = true := by
      rw [List.all_eq_true]
      intro x hx
      obtain ⟨j, hj, rfl⟩ := List.getElem_of_mem hx
      exact HI.out j (by rw [e, Lib.size_eq]; exact hj) _ (List.getElem?_eq_getElem hj)
     unfold isS isL
     rw [this, Bool.and_true, ← Lib.size_eq]
     exact Lib.hid (by simp [hsz])
    ·rw [isS_no t hsz]; exact Lib.hid (by simp [hsz])
   clear HI
   subst e
   by_cases hsz : t.size = 16
   ·have HQ : Hid (isS t = true) := by rw [HT.out]; exact Lib.hid (by simp [hsz])
    clear HT
    have hq : ((t.size : Int) == 16) = true := by rw [beq_iff_eq]; omega
    go_wp2
    go_ret
    exact ⟨by rw [HQ.out]; rfl, rfl⟩
   ·have HQ : Hid (isS t = false) := by rw [HT.out]; exact Lib.hid (by simp [hsz])
    clear HT
    have hq : ((t.size : Int) == 16) = false := by rw [beq_eq_false_iff_ne]; omega
    go_wp2
    go_ret
    exact ⟨by rw [HQ.out]; rfl, rfl⟩
end Go.Proofs.YtnkepmfgmfeabaaGreatDoor
set_option linter.unusedVariables false
namespace Go.Proofs.YtnkepmfgmfeabaaGreatDoor
open Go Go.RowKit Go.Maps Go.Sort

theorem any_take_no {l : List (ByteArray × Int)} {i : Nat} {t : ByteArray} (h : ∀ j, j < i → (l.getD j nilInp).1 ≠ t) : ((l.take i).any fun x => decide (x.1 = t)) = false := by
 rw [List.any_eq_false]
 intro x hx
 obtain ⟨j, hj, rfl⟩ := List.mem_iff_getElem.1 hx
 have hj2 : j < i ∧ j < l.length := by rw [List.length_take] at hj; omega
 have := h j hj2.1
 rw [show l.getD j nilInp = l[j]'hj2.2 by simp [List.getD, hj2.2]] at this
 simpa using this
theorem any_take_yes {l : List (ByteArray × Int)} {i k : Nat} {t : ByteArray} (hk : k < i) (hl : k < l.length) (h : (l.getD k nilInp).1 = t) : ((l.take i).any fun x => decide (x.1 = t)) = true := by
 rw [List.any_eq_true]
 refine ⟨l[k]'hl, ?_, ?_⟩
 ·rw [List.mem_iff_getElem]
  exact ⟨k, by rw [List.length_take]; omega, by simp⟩
 ·rw [show l.getD k nilInp = l[k]'hl by simp [List.getD, hl]] at h
  simpa using h

set_option maxRecDepth 100000 in
set_option maxHeartbeats 8000000 in
theorem rproper_calls (s : Stm) (vu vi vs vp : Value) (w : World) (hS : StmAt w s vu vi vs vp) (hZ : s.Sized 4611686018427387904) :
  Calls Tryz.prog 7 #[.agg (stmCells s vu vi vs vp)] w fun e w' => e = .returned (.bool (properB s)) ∧ Below w.heap.size w w' := by
 have HS := Lib.hid hS
 have HZ := Lib.hid hZ
 have zid := hZ.id
 have zprod := hZ.prod
 have zhold := hZ.holder
 obtain ⟨aou, cu, rfl⟩ := strc_form hS.uses
 obtain ⟨aoi, ci, rfl⟩ := hS.inputs.form
 obtain ⟨aos, cs, rfl⟩ := strc_form hS.sig
 obtain ⟨aop, cp, rfl⟩ := strc_form hS.path
 have zlu := strc_len hS.uses
 have zli := hS.inputs.len
 clear hS hZ
 unfold stmCells
 obtain ⟨lu, hlu⟩ : ∃ lu, lu = s.uses.length := ⟨_, rfl⟩
 obtain ⟨li, hli⟩ : ∃ li, li = s.inputs.length := ⟨_, rfl⟩
 obtain ⟨ls, hls⟩ : ∃ ls, ls = s.sig.length := ⟨_, rfl⟩
 obtain ⟨lp, hlp⟩ : ∃ lp, lp = s.path.length := ⟨_, rfl⟩
 rw [← hlu, ← hli, ← hls, ← hlp] at HS
 rw [← hlu] at zlu
 rw [← hli] at zli
 rw [← hlu, ← hli, ← hls, ← hlp]
 have HLU := Lib.hid hlu
 have HLI := Lib.hid hli
 clear hlu hli hls hlp
 obtain ⟨hbx, hB1, hz⟩ := box_one w #[.string s.id, .string s.prod, .int .i64 s.q, .string s.holder, .slice aou lu cu, .slice aoi li ci, .int .i64 s.idx, .slice aos ls cs, .slice aop lp cp] 27
 have HR1 := Lib.hid hbx
 have HB1 := Lib.hid hB1
 have HS1 := Lib.hid (HS.out.on hB1)
 have hz1 : w.heap.size < (w.alloc (.cells #[.string s.id, .string s.prod, .int .i64 s.q, .string s.holder, .slice aou lu cu, .slice aoi li ci, .int .i64 s.idx, .slice aos ls cs, .slice aop lp cp] 27)).heap.size := by omega
 clear hbx hB1 hz HS
 have HPR : Hid (properB s = (usesOk s.uses && inpsOk s.inputs && (identB s.id && identB s.prod && quantB s.q && isS s.holder && decide (1 ≤ lu) && decide (lu ≤ 12) && decide (li ≤ 12)))) := Lib.hid (by unfold properB; rw [HLU.out, HLI.out])
 cases hv0 : identB s.id with
 | false =>
  have HF : Hid (properB s = false) := Lib.hid (by rw [HPR.out, hv0]; simp)
  have HV0 := Lib.hid hv0
  clear hv0
  have c0 : (w.alloc (.cells #[.string s.id, .string s.prod, .int .i64 s.q, .string s.holder, .slice aou lu cu, .slice aoi li ci, .int .i64 s.idx, .slice aos ls cs, .slice aop lp cp] 27)).cell? ⟨w.heap.size, 0, none⟩ = some (.string s.id) := by rw [cell_of_row _ _ 0 _ _ _ HR1.out]; rfl
  have c1 : (w.alloc (.cells #[.string s.id, .string s.prod, .int .i64 s.q, .string s.holder, .slice aou lu cu, .slice aoi li ci, .int .i64 s.idx, .slice aos ls cs, .slice aop lp cp] 27)).cell? ⟨w.heap.size, 1, none⟩ = some (.string s.prod) := by rw [cell_of_row _ _ 1 _ _ _ HR1.out]; rfl
  have c2 : (w.alloc (.cells #[.string s.id, .string s.prod, .int .i64 s.q, .string s.holder, .slice aou lu cu, .slice aoi li ci, .int .i64 s.idx, .slice aos ls cs, .slice aop lp cp] 27)).cell? ⟨w.heap.size, 2, none⟩ = some (.int .i64 s.q) := by rw [cell_of_row _ _ 2 _ _ _ HR1.out]; rfl
  have c3 : (w.alloc (.cells #[.string s.id, .string s.prod, .int .i64 s.q, .string s.holder, .slice aou lu cu, .slice aoi li ci, .int .i64 s.idx, .slice aos ls cs, .slice aop lp cp] 27)).cell? ⟨w.heap.size, 3, none⟩ = some (.string s.holder) := by rw [cell_of_row _ _ 3 _ _ _ HR1.out]; rfl
  have c4 : (w.alloc (.cells #[.string s.id, .string s.prod, .int .i64 s.q, .string s.holder, .slice aou lu cu, .slice aoi li ci, .int .i64 s.idx, .slice aos ls cs, .slice aop lp cp] 27)).cell? ⟨w.heap.size, 4, none⟩ = some (.slice aou lu cu) := by rw [cell_of_row _ _ 4 _ _ _ HR1.out]; rfl
  have c5 : (w.alloc (.cells #[.string s.id, .string s.prod, .int .i64 s.q, .string s.holder, .slice aou lu cu, .slice aoi li ci, .int .i64 s.idx, .slice aos ls cs, .slice aop lp cp] 27)).cell? ⟨w.heap.size, 5, none⟩ = some (.slice aoi li ci) := by rw [cell_of_row _ _ 5 _ _ _ HR1.out]; rfl
  go_enter Tryz.func7, Tryz.ntmps7
  go_wp2_with fail
  refine (rident_calls s.id (by omega) _).mono ?_
  rintro e w1 ⟨rfl, rfl⟩
  rw [HV0.out]
  go_wp2
  go_ret
  exact ⟨congrArg (fun b => Ending.returned (Value.bool b)) HF.out.symm, HB1.out⟩
 | true =>
  have HV0 := Lib.hid hv0
  clear hv0
  cases hv1 : identB s.prod with
  | false =>
   have HF : Hid (properB s = false) := Lib.hid (by rw [HPR.out, HV0.out, hv1]; simp)
   have HV1 := Lib.hid hv1
   clear hv1
   have c0 : (w.alloc (.cells #[.string s.id, .string s.prod, .int .i64 s.q, .string s.holder, .slice aou lu cu, .slice aoi li ci, .int .i64 s.idx, .slice aos ls cs, .slice aop lp cp] 27)).cell? ⟨w.heap.size, 0, none⟩ = some (.string s.id) := by rw [cell_of_row _ _ 0 _ _ _ HR1.out]; rfl
   have c1 : (w.alloc (.cells #[.string s.id, .string s.prod, .int .i64 s.q, .string s.holder, .slice aou lu cu, .slice aoi li ci, .int .i64 s.idx, .slice aos ls cs, .slice aop lp cp] 27)).cell? ⟨w.heap.size, 1, none⟩ = some (.string s.prod) := by rw [cell_of_row _ _ 1 _ _ _ HR1.out]; rfl
   have c2 : (w.alloc (.cells #[.string s.id, .string s.prod, .int .i64 s.q, .string s.holder, .slice aou lu cu, .slice aoi li ci, .int .i64 s.idx, .slice aos ls cs, .slice aop lp cp] 27)).cell? ⟨w.heap.size, 2, none⟩ = some (.int .i64 s.q) := by rw [cell_of_row _ _ 2 _ _ _ HR1.out]; rfl
   have c3 : (w.alloc (.cells #[.string s.id, .string s.prod, .int .i64 s.q, .string s.holder, .slice aou lu cu, .slice aoi li ci, .int .i64 s.idx, .slice aos ls cs, .slice aop lp cp] 27)).cell? ⟨w.heap.size, 3, none⟩ = some (.string s.holder) := by rw [cell_of_row _ _ 3 _ _ _ HR1.out]; rfl
   have c4 : (w.alloc (.cells #[.string s.id, .string s.prod, .int .i64 s.q, .string s.holder, .slice aou lu cu, .slice aoi li ci, .int .i64 s.idx, .slice aos ls cs, .slice aop lp cp] 27)).cell? ⟨w.heap.size, 4, none⟩ = some (.slice aou lu cu) := by rw [cell_of_row _ _ 4 _ _ _ HR1.out]; rfl
   have c5 : (w.alloc (.cells #[.string s.id, .string s.prod, .int .i64 s.q, .string s.holder, .slice aou lu cu, .slice aoi li ci, .int .i64 s.idx, .slice aos ls cs, .slice aop lp cp] 27)).cell? ⟨w.heap.size, 5, none⟩ = some (.slice aoi li ci) := by rw [cell_of_row _ _ 5 _ _ _ HR1.out]; rfl
   go_enter Tryz.func7, Tryz.ntmps7
   go_wp2_with fail
   refine (rident_calls s.id (by omega) _).mono ?_
   rintro e w1 ⟨rfl, rfl⟩
   rw [HV0.out]
   go_wp2_with fail
   refine (rident_calls s.prod (by omega) _).mono ?_
   rintro e w1 ⟨rfl, rfl⟩
   rw [HV1.out]
   go_wp2
   go_ret
   exact ⟨congrArg (fun b => Ending.returned (Value.bool b)) HF.out.symm, HB1.out⟩
  | true =>
   have HV1 := Lib.hid hv1
   clear hv1
   cases hv2 : quantB s.q with
   | false =>
    have HF : Hid (properB s = false) := Lib.hid (by rw [HPR.out, HV0.out, HV1.out, hv2]; simp)
    have HV2 := Lib.hid hv2
    clear hv2
    have c0 : (w.alloc (.cells #[.string s.id, .string s.prod, .int .i64 s.q, .string s.holder, .slice aou lu cu, .slice aoi li ci, .int .i64 s.idx, .slice aos ls cs, .slice aop lp cp] 27)).cell? ⟨w.heap.size, 0, none⟩ = some (.string s.id) := by rw [cell_of_row _ _ 0 _ _ _ HR1.out]; rfl
    have c1 : (w.alloc (.cells #[.string s.id, .string s.prod, .int .i64 s.q, .string s.holder, .slice aou lu cu, .slice aoi li ci, .int .i64 s.idx, .slice aos ls cs, .slice aop lp cp] 27)).cell? ⟨w.heap.size, 1, none⟩ = some (.string s.prod) := by rw [cell_of_row _ _ 1 _ _ _ HR1.out]; rfl
    have c2 : (w.alloc (.cells #[.string s.id, .string s.prod, .int .i64 s.q, .string s.holder, .slice aou lu cu, .slice aoi li ci, .int .i64 s.idx, .slice aos ls cs, .slice aop lp cp] 27)).cell? ⟨w.heap.size, 2, none⟩ = some (.int .i64 s.q) := by rw [cell_of_row _ _ 2 _ _ _ HR1.out]; rfl
    have c3 : (w.alloc (.cells #[.string s.id, .string s.prod, .int .i64 s.q, .string s.holder, .slice aou lu cu, .slice aoi li ci, .int .i64 s.idx, .slice aos ls cs, .slice aop lp cp] 27)).cell? ⟨w.heap.size, 3, none⟩ = some (.string s.holder) := by rw [cell_of_row _ _ 3 _ _ _ HR1.out]; rfl
    have c4 : (w.alloc (.cells #[.string s.id, .string s.prod, .int .i64 s.q, .string s.holder, .slice aou lu cu, .slice aoi li ci, .int .i64 s.idx, .slice aos ls cs, .slice aop lp cp] 27)).cell? ⟨w.heap.size, 4, none⟩ = some (.slice aou lu cu) := by rw [cell_of_row _ _ 4 _ _ _ HR1.out]; rfl
    have c5 : (w.alloc (.cells #[.string s.id, .string s.prod, .int .i64 s.q, .string s.holder, .slice aou lu cu, .slice aoi li ci, .int .i64 s.idx, .slice aos ls cs, .slice aop lp cp] 27)).cell? ⟨w.heap.size, 5, none⟩ = some (.slice aoi li ci) := by rw [cell_of_row _ _ 5 _ _ _ HR1.out]; rfl
    go_enter Tryz.func7, Tryz.ntmps7
    go_wp2_with fail
    refine (rident_calls s.id (by omega) _).mono ?_
    rintro e w1 ⟨rfl, rfl⟩
    rw [HV0.out]
    go_wp2_with fail
    refine (rident_calls s.prod (by omega) _).mono ?_
    rintro e w1 ⟨rfl, rfl⟩
    rw [HV1.out]
    go_wp2_with fail
    refine (rq_calls s.q _).mono ?_
    rintro e w1 ⟨rfl, rfl⟩
    rw [HV2.out]
    go_wp2
    go_ret
    exact ⟨congrArg (fun b => Ending.returned (Value.bool b)) HF.out.symm, HB1.out⟩
   | true =>
    have HV2 := Lib.hid hv2
    clear hv2
    cases hv3 : isS s.holder with
    | false =>
     have HF : Hid (properB s = false) := Lib.hid (by rw [HPR.out, HV0.out, HV1.out, HV2.out, hv3]; simp)
     have HV3 := Lib.hid hv3
     clear hv3
     have c0 : (w.alloc (.cells #[.string s.id, .string s.prod, .int .i64 s.q, .string s.holder, .slice aou lu cu, .slice aoi li ci, .int .i64 s.idx, .slice aos ls cs, .slice aop lp cp] 27)).cell? ⟨w.heap.size, 0, none⟩ = some (.string s.id) := by rw [cell_of_row _ _ 0 _ _ _ HR1.out]; rfl
     have c1 : (w.alloc (.cells #[.string s.id, .string s.prod, .int .i64 s.q, .string s.holder, .slice aou lu cu, .slice aoi li ci, .int .i64 s.idx, .slice aos ls cs, .slice aop lp cp] 27)).cell? ⟨w.heap.size, 1, none⟩ = some (.string s.prod) := by rw [cell_of_row _ _ 1 _ _ _ HR1.out]; rfl
     have c2 : (w.alloc (.cells #[.string s.id, .string s.prod, .int .i64 s.q, .string s.holder, .slice aou lu cu, .slice aoi li ci, .int .i64 s.idx, .slice aos ls cs, .slice aop lp cp] 27)).cell? ⟨w.heap.size, 2, none⟩ = some (.int .i64 s.q) := by rw [cell_of_row _ _ 2 _ _ _ HR1.out]; rfl
     have c3 : (w.alloc (.cells #[.string s.id, .string s.prod, .int .i64 s.q, .string s.holder, .slice aou lu cu, .slice aoi li ci, .int .i64 s.idx, .slice aos ls cs, .slice aop lp cp] 27)).cell? ⟨w.heap.size, 3, none⟩ = some (.string s.holder) := by rw [cell_of_row _ _ 3 _ _ _ HR1.out]; rfl
     have c4 : (w.alloc (.cells #[.string s.id, .string s.prod, .int .i64 s.q, .string s.holder, .slice aou lu cu, .slice aoi li ci, .int .i64 s.idx, .slice aos ls cs, .slice aop lp cp] 27)).cell? ⟨w.heap.size, 4, none⟩ = some (.slice aou lu cu) := by rw [cell_of_row _ _ 4 _ _ _ HR1.out]; rfl
     have c5 : (w.alloc (.cells #[.string s.id, .string s.prod, .int .i64 s.q, .string s.holder, .slice aou lu cu, .slice aoi li ci, .int .i64 s.idx, .slice aos ls cs, .slice aop lp cp] 27)).cell? ⟨w.heap.size, 5, none⟩ = some (.slice aoi li ci) := by rw [cell_of_row _ _ 5 _ _ _ HR1.out]; rfl
     go_enter Tryz.func7, Tryz.ntmps7
     go_wp2_with fail
     refine (rident_calls s.id (by omega) _).mono ?_
     rintro e w1 ⟨rfl, rfl⟩
     rw [HV0.out]
     go_wp2_with fail
     refine (rident_calls s.prod (by omega) _).mono ?_
     rintro e w1 ⟨rfl, rfl⟩
     rw [HV1.out]
     go_wp2_with fail
     refine (rq_calls s.q _).mono ?_
     rintro e w1 ⟨rfl, rfl⟩
     rw [HV2.out]
     go_wp2_with fail
     refine (ris_calls s.holder (by omega) _).mono ?_
     rintro e w1 ⟨rfl, rfl⟩
     rw [HV3.out]
     go_wp2
     go_ret
     exact ⟨congrArg (fun b => Ending.returned (Value.bool b)) HF.out.symm, HB1.out⟩
    | true =>
     have HV3 := Lib.hid hv3
     clear hv3
     by_cases ht0 : 1 ≤ lu
     rotate_left
     ·have hd0 : decide ((lu : Int) < 1) = true := decide_eq_true (by omega)
      have hn0 : decide (lu = 0) = true := decide_eq_true (by omega)
      have HF : Hid (properB s = false) := Lib.hid (by rw [HPR.out, HV0.out, HV1.out, HV2.out, HV3.out, decide_eq_false ht0]; simp)
      have c0 : (w.alloc (.cells #[.string s.id, .string s.prod, .int .i64 s.q, .string s.holder, .slice aou lu cu, .slice aoi li ci, .int .i64 s.idx, .slice aos ls cs, .slice aop lp cp] 27)).cell? ⟨w.heap.size, 0, none⟩ = some (.string s.id) := by rw [cell_of_row _ _ 0 _ _ _ HR1.out]; rfl
      have c1 : (w.alloc (.cells #[.string s.id, .string s.prod, .int .i64 s.q, .string s.holder, .slice aou lu cu, .slice aoi li ci, .int .i64 s.idx, .slice aos ls cs, .slice aop lp cp] 27)).cell? ⟨w.heap.size, 1, none⟩ = some (.string s.prod) := by rw [cell_of_row _ _ 1 _ _ _ HR1.out]; rfl
      have c2 : (w.alloc (.cells #[.string s.id, .string s.prod, .int .i64 s.q, .string s.holder, .slice aou lu cu, .slice aoi li ci, .int .i64 s.idx, .slice aos ls cs, .slice aop lp cp] 27)).cell? ⟨w.heap.size, 2, none⟩ = some (.int .i64 s.q) := by rw [cell_of_row _ _ 2 _ _ _ HR1.out]; rfl
      have c3 : (w.alloc (.cells #[.string s.id, .string s.prod, .int .i64 s.q, .string s.holder, .slice aou lu cu, .slice aoi li ci, .int .i64 s.idx, .slice aos ls cs, .slice aop lp cp] 27)).cell? ⟨w.heap.size, 3, none⟩ = some (.string s.holder) := by rw [cell_of_row _ _ 3 _ _ _ HR1.out]; rfl
      have c4 : (w.alloc (.cells #[.string s.id, .string s.prod, .int .i64 s.q, .string s.holder, .slice aou lu cu, .slice aoi li ci, .int .i64 s.idx, .slice aos ls cs, .slice aop lp cp] 27)).cell? ⟨w.heap.size, 4, none⟩ = some (.slice aou lu cu) := by rw [cell_of_row _ _ 4 _ _ _ HR1.out]; rfl
      have c5 : (w.alloc (.cells #[.string s.id, .string s.prod, .int .i64 s.q, .string s.holder, .slice aou lu cu, .slice aoi li ci, .int .i64 s.idx, .slice aos ls cs, .slice aop lp cp] 27)).cell? ⟨w.heap.size, 5, none⟩ = some (.slice aoi li ci) := by rw [cell_of_row _ _ 5 _ _ _ HR1.out]; rfl
      go_enter Tryz.func7, Tryz.ntmps7
      go_wp2_with fail
      refine (rident_calls s.id (by omega) _).mono ?_
      rintro e w1 ⟨rfl, rfl⟩
      rw [HV0.out]
      go_wp2_with fail
      refine (rident_calls s.prod (by omega) _).mono ?_
      rintro e w1 ⟨rfl, rfl⟩
      rw [HV1.out]
      go_wp2_with fail
      refine (rq_calls s.q _).mono ?_
      rintro e w1 ⟨rfl, rfl⟩
      rw [HV2.out]
      go_wp2_with fail
      refine (ris_calls s.holder (by omega) _).mono ?_
      rintro e w1 ⟨rfl, rfl⟩
      rw [HV3.out]
      go_wp2
      go_ret
      exact ⟨congrArg (fun b => Ending.returned (Value.bool b)) HF.out.symm, HB1.out⟩
     have hd0 : decide ((lu : Int) < 1) = false := decide_eq_false (by omega)
     have hn0 : decide (lu = 0) = false := decide_eq_false (by omega)
     by_cases ht1 : lu ≤ 12
     rotate_left
     ·have hd1 : decide ((12 : Int) < (lu : Int)) = true := decide_eq_true (by omega)
      have HF : Hid (properB s = false) := Lib.hid (by rw [HPR.out, HV0.out, HV1.out, HV2.out, HV3.out, decide_eq_true ht0, decide_eq_false ht1]; simp)
      have c0 : (w.alloc (.cells #[.string s.id, .string s.prod, .int .i64 s.q, .string s.holder, .slice aou lu cu, .slice aoi li ci, .int .i64 s.idx, .slice aos ls cs, .slice aop lp cp] 27)).cell? ⟨w.heap.size, 0, none⟩ = some (.string s.id) := by rw [cell_of_row _ _ 0 _ _ _ HR1.out]; rfl
      have c1 : (w.alloc (.cells #[.string s.id, .string s.prod, .int .i64 s.q, .string s.holder, .slice aou lu cu, .slice aoi li ci, .int .i64 s.idx, .slice aos ls cs, .slice aop lp cp] 27)).cell? ⟨w.heap.size, 1, none⟩ = some (.string s.prod) := by rw [cell_of_row _ _ 1 _ _ _ HR1.out]; rfl
      have c2 : (w.alloc (.cells #[.string s.id, .string s.prod, .int .i64 s.q, .string s.holder, .slice aou lu cu, .slice aoi li ci, .int .i64 s.idx, .slice aos ls cs, .slice aop lp cp] 27)).cell? ⟨w.heap.size, 2, none⟩ = some (.int .i64 s.q) := by rw [cell_of_row _ _ 2 _ _ _ HR1.out]; rfl
      have c3 : (w.alloc (.cells #[.string s.id, .string s.prod, .int .i64 s.q, .string s.holder, .slice aou lu cu, .slice aoi li ci, .int .i64 s.idx, .slice aos ls cs, .slice aop lp cp] 27)).cell? ⟨w.heap.size, 3, none⟩ = some (.string s.holder) := by rw [cell_of_row _ _ 3 _ _ _ HR1.out]; rfl
      have c4 : (w.alloc (.cells #[.string s.id, .string s.prod, .int .i64 s.q, .string s.holder, .slice aou lu cu, .slice aoi li ci, .int .i64 s.idx, .slice aos ls cs, .slice aop lp cp] 27)).cell? ⟨w.heap.size, 4, none⟩ = some (.slice aou lu cu) := by rw [cell_of_row _ _ 4 _ _ _ HR1.out]; rfl
      have c5 : (w.alloc (.cells #[.string s.id, .string s.prod, .int .i64 s.q, .string s.holder, .slice aou lu cu, .slice aoi li ci, .int .i64 s.idx, .slice aos ls cs, .slice aop lp cp] 27)).cell? ⟨w.heap.size, 5, none⟩ = some (.slice aoi li ci) := by rw [cell_of_row _ _ 5 _ _ _ HR1.out]; rfl
      go_enter Tryz.func7, Tryz.ntmps7
      go_wp2_with fail
      refine (rident_calls s.id (by omega) _).mono ?_
      rintro e w1 ⟨rfl, rfl⟩
      rw [HV0.out]
      go_wp2_with fail
      refine (rident_calls s.prod (by omega) _).mono ?_
      rintro e w1 ⟨rfl, rfl⟩
      rw [HV1.out]
      go_wp2_with fail
      refine (rq_calls s.q _).mono ?_
      rintro e w1 ⟨rfl, rfl⟩
      rw [HV2.out]
      go_wp2_with fail
      refine (ris_calls s.holder (by omega) _).mono ?_
      rintro e w1 ⟨rfl, rfl⟩
      rw [HV3.out]
      go_wp2
      go_ret
      exact ⟨congrArg (fun b => Ending.returned (Value.bool b)) HF.out.symm, HB1.out⟩
     have hd1 : decide ((12 : Int) < (lu : Int)) = false := decide_eq_false (by omega)
     by_cases ht2 : li ≤ 12
     rotate_left
     ·have hd2 : decide ((12 : Int) < (li : Int)) = true := decide_eq_true (by omega)
      have HF : Hid (properB s = false) := Lib.hid (by rw [HPR.out, HV0.out, HV1.out, HV2.out, HV3.out, decide_eq_true ht0, decide_eq_true ht1, decide_eq_false ht2]; simp)
      have c0 : (w.alloc (.cells #[.string s.id, .string s.prod, .int .i64 s.q, .string s.holder, .slice aou lu cu, .slice aoi li ci, .int .i64 s.idx, .slice aos ls cs, .slice aop lp cp] 27)).cell? ⟨w.heap.size, 0, none⟩ = some (.string s.id) := by rw [cell_of_row _ _ 0 _ _ _ HR1.out]; rfl
      have c1 : (w.alloc (.cells #[.string s.id, .string s.prod, .int .i64 s.q, .string s.holder, .slice aou lu cu, .slice aoi li ci, .int .i64 s.idx, .slice aos ls cs, .slice aop lp cp] 27)).cell? ⟨w.heap.size, 1, none⟩ = some (.string s.prod) := by rw [cell_of_row _ _ 1 _ _ _ HR1.out]; rfl
      have c2 : (w.alloc (.cells #[.string s.id, .string s.prod, .int .i64 s.q, .string s.holder, .slice aou lu cu, .slice aoi li ci, .int .i64 s.idx, .slice aos ls cs, .slice aop lp cp] 27)).cell? ⟨w.heap.size, 2, none⟩ = some (.int .i64 s.q) := by rw [cell_of_row _ _ 2 _ _ _ HR1.out]; rfl
      have c3 : (w.alloc (.cells #[.string s.id, .string s.prod, .int .i64 s.q, .string s.holder, .slice aou lu cu, .slice aoi li ci, .int .i64 s.idx, .slice aos ls cs, .slice aop lp cp] 27)).cell? ⟨w.heap.size, 3, none⟩ = some (.string s.holder) := by rw [cell_of_row _ _ 3 _ _ _ HR1.out]; rfl
      have c4 : (w.alloc (.cells #[.string s.id, .string s.prod, .int .i64 s.q, .string s.holder, .slice aou lu cu, .slice aoi li ci, .int .i64 s.idx, .slice aos ls cs, .slice aop lp cp] 27)).cell? ⟨w.heap.size, 4, none⟩ = some (.slice aou lu cu) := by rw [cell_of_row _ _ 4 _ _ _ HR1.out]; rfl
      have c5 : (w.alloc (.cells #[.string s.id, .string s.prod, .int .i64 s.q, .string s.holder, .slice aou lu cu, .slice aoi li ci, .int .i64 s.idx, .slice aos ls cs, .slice aop lp cp] 27)).cell? ⟨w.heap.size, 5, none⟩ = some (.slice aoi li ci) := by rw [cell_of_row _ _ 5 _ _ _ HR1.out]; rfl
      go_enter Tryz.func7, Tryz.ntmps7
      go_wp2_with fail
      refine (rident_calls s.id (by omega) _).mono ?_
      rintro e w1 ⟨rfl, rfl⟩
      rw [HV0.out]
      go_wp2_with fail
      refine (rident_calls s.prod (by omega) _).mono ?_
      rintro e w1 ⟨rfl, rfl⟩
      rw [HV1.out]
      go_wp2_with fail
      refine (rq_calls s.q _).mono ?_
      rintro e w1 ⟨rfl, rfl⟩
      rw [HV2.out]
      go_wp2_with fail
      refine (ris_calls s.holder (by omega) _).mono ?_
      rintro e w1 ⟨rfl, rfl⟩
      rw [HV3.out]
      go_wp2
      go_ret
      exact ⟨congrArg (fun b => Ending.returned (Value.bool b)) HF.out.symm, HB1.out⟩
     have hd2 : decide ((12 : Int) < (li : Int)) = false := decide_eq_false (by omega)
     have HPR2 : Hid (properB s = (usesOk s.uses && inpsOk s.inputs)) := Lib.hid (by rw [HPR.out, HV0.out, HV1.out, HV2.out, HV3.out, decide_eq_true ht0, decide_eq_true ht1, decide_eq_true ht2]; simp)
     have c0 : (w.alloc (.cells #[.string s.id, .string s.prod, .int .i64 s.q, .string s.holder, .slice aou lu cu, .slice aoi li ci, .int .i64 s.idx, .slice aos ls cs, .slice aop lp cp] 27)).cell? ⟨w.heap.size, 0, none⟩ = some (.string s.id) := by rw [cell_of_row _ _ 0 _ _ _ HR1.out]; rfl
     have c1 : (w.alloc (.cells #[.string s.id, .string s.prod, .int .i64 s.q, .string s.holder, .slice aou lu cu, .slice aoi li ci, .int .i64 s.idx, .slice aos ls cs, .slice aop lp cp] 27)).cell? ⟨w.heap.size, 1, none⟩ = some (.string s.prod) := by rw [cell_of_row _ _ 1 _ _ _ HR1.out]; rfl
     have c2 : (w.alloc (.cells #[.string s.id, .string s.prod, .int .i64 s.q, .string s.holder, .slice aou lu cu, .slice aoi li ci, .int .i64 s.idx, .slice aos ls cs, .slice aop lp cp] 27)).cell? ⟨w.heap.size, 2, none⟩ = some (.int .i64 s.q) := by rw [cell_of_row _ _ 2 _ _ _ HR1.out]; rfl
     have c3 : (w.alloc (.cells #[.string s.id, .string s.prod, .int .i64 s.q, .string s.holder, .slice aou lu cu, .slice aoi li ci, .int .i64 s.idx, .slice aos ls cs, .slice aop lp cp] 27)).cell? ⟨w.heap.size, 3, none⟩ = some (.string s.holder) := by rw [cell_of_row _ _ 3 _ _ _ HR1.out]; rfl
     have c4 : (w.alloc (.cells #[.string s.id, .string s.prod, .int .i64 s.q, .string s.holder, .slice aou lu cu, .slice aoi li ci, .int .i64 s.idx, .slice aos ls cs, .slice aop lp cp] 27)).cell? ⟨w.heap.size, 4, none⟩ = some (.slice aou lu cu) := by rw [cell_of_row _ _ 4 _ _ _ HR1.out]; rfl
     have c5 : (w.alloc (.cells #[.string s.id, .string s.prod, .int .i64 s.q, .string s.holder, .slice aou lu cu, .slice aoi li ci, .int .i64 s.idx, .slice aos ls cs, .slice aop lp cp] 27)).cell? ⟨w.heap.size, 5, none⟩ = some (.slice aoi li ci) := by rw [cell_of_row _ _ 5 _ _ _ HR1.out]; rfl
     go_enter Tryz.func7, Tryz.ntmps7
     go_wp2_with fail
     refine (rident_calls s.id (by omega) _).mono ?_
     rintro e w1 ⟨rfl, rfl⟩
     rw [HV0.out]
     go_wp2_with fail
     refine (rident_calls s.prod (by omega) _).mono ?_
     rintro e w1 ⟨rfl, rfl⟩
     rw [HV1.out]
     go_wp2_with fail
     refine (rq_calls s.q _).mono ?_
     rintro e w1 ⟨rfl, rfl⟩
     rw [HV2.out]
     go_wp2_with fail
     refine (ris_calls s.holder (by omega) _).mono ?_
     rintro e w1 ⟨rfl, rfl⟩
     rw [HV3.out]
     go_wp2_with fail
     generalize hgw : (w.alloc (.cells #[.string s.id, .string s.prod, .int .i64 s.q, .string s.holder, .slice aou lu cu, .slice aoi li ci, .int .i64 s.idx, .slice aos ls cs, .slice aop lp cp] 27)) = w1 at *
     clear hgw
     have HRR : Hid (w1.heap[w.heap.size]? = some (.cells #[.string s.id, .string s.prod, .int .i64 s.q, .string s.holder, .slice aou lu cu, .slice aoi li ci, .int .i64 s.idx, .slice aos ls cs, .slice aop lp cp] 27 (0, 0))) := Lib.hid HR1.out
     have HZ1 : Hid (w.heap.size < w1.heap.size) := Lib.hid hz1
     clear c0 c1 c2 c3 HR1 hz1
     have HLT : Hid (1 ≤ lu ∧ lu ≤ 12 ∧ li ≤ 12) := Lib.hid ⟨ht0, ht1, ht2⟩
     clear hd0 hn0 hd1 hd2 HPR
     go_loopw [3] (fun vi W => ∃ i : Nat, vi = .int .i64 (i : Int) ∧ i ≤ lu ∧ Hid (Below w1.heap.size w1 W ∧ ∀ j, j < i → useOk s.uses j = true)) (fun vi _ => lu - (RowKit.intOf vi).toNat)
     case atStart => exact ⟨0, rfl, by omega, Lib.hid ⟨Below.refl _ _, fun j hj => by omega⟩⟩
     case round =>
      obtain ⟨i, rfl, hi, HI⟩ := hrel
      have HRW : Hid (wr.heap[w.heap.size]? = some (.cells #[.string s.id, .string s.prod, .int .i64 s.q, .string s.holder, .slice aou lu cu, .slice aoi li ci, .int .i64 s.idx, .slice aos ls cs, .slice aop lp cp] 27 (0, 0))) := Lib.hid ((HI.out.1.block _ HZ1.out).trans HRR.out)
      have HBW : Hid (Below w.heap.size w wr) := Lib.hid (HB1.out.trans (HI.out.1.mono HB1.out.size))
      have HSW := Lib.hid (HS1.out.on HI.out.1)
      have HZW : Hid (w.heap.size < wr.heap.size) := Lib.hid (Array.getElem?_eq_some_iff.1 HRW.out).1
      clear c4 c5
      have c4 : wr.cell? ⟨w.heap.size, 4, none⟩ = some (.slice aou lu cu) := by rw [cell_of_row _ _ 4 _ _ _ HRW.out]; rfl
      have c5 : wr.cell? ⟨w.heap.size, 5, none⟩ = some (.slice aoi li ci) := by rw [cell_of_row _ _ 5 _ _ _ HRW.out]; rfl
      by_cases hlt : i < lu
      ·obtain ⟨b, o, cx, he, hbl, hcl⟩ := strc_lt2 HSW.out.uses i (by rw [← HLU.out]; exact hlt)
       simp only [Value.slice.injEq] at he
       obtain ⟨rfl, hx1, hx2⟩ := he
       clear hx1 hx2
       have hsz := getD_size HZ.out.uses i
       have hlt' : (i : Int) < (lu : Int) := by omega
       obtain ⟨t, htE⟩ : ∃ t, t = s.uses.getD i ByteArray.empty := ⟨_, rfl⟩
       rw [← htE] at hcl hsz
       have HT := Lib.hid htE
       have HCL := Lib.hid hcl
       clear htE hcl
       have hwr : wr.heap.size ≤ wr.heap.size := Nat.le_refl _
       cases hid : identB t with
       | false =>
        have HF : Hid (properB s = false) := Lib.hid (proper_no1 (range_no (by rw [← HLU.out]; exact hlt) (by unfold useOk; rw [← HT.out, hid]; rfl)))
        have HID := Lib.hid hid
        clear hid HI HT
        go_wp2_with fail
        clear c4 c5
        have k4 := cell_regrown (show wr.cell? ⟨w.heap.size, 4, none⟩ = some (.slice (some ⟨b, o, none⟩) lu cu) by rw [cell_of_row _ _ 4 _ _ _ HRW.out]; rfl)
        have kt := cell_regrown HCL.out
        have cI : ∀ d os, Calls Tryz.prog 26 #[.string t] (grow (redrawn wr d) os) fun e w'' => e = .returned (.bool false) ∧ ∃ p : Regrown, w'' = grow (redrawn wr p.d) p.os := fun d os => by
         have h1 := rident_calls t (by omega) (grow (redrawn wr d) os)
         rw [HID.out] at h1
         exact h1.mono fun e w' ⟨he, hw⟩ => ⟨he, ⟨d, os⟩, hw⟩
        refine wp_region_quiet_below (by kernel_rfl) (by kernel_rfl) ?_
        repeat (first | go_big_quiet_step (exact cI _ _) | quiet_step (exact cI _ _))
        refine wpQuiet_nil ?_
        intro _ hw'
        obtain ⟨⟨dq, osq⟩, hw''⟩ := hw'
        subst hw''
        have hbq := below_regrown wr dq osq
        clear k4 kt cI
        generalize grow (redrawn wr dq) osq = w3 at *
        have HB3 := Lib.hid (HBW.out.trans (hbq.mono HBW.out.size))
        go_wp2
        go_ret
        exact ⟨congrArg (fun b => Ending.returned (Value.bool b)) HF.out.symm, HB3.out⟩
       | true =>
        have HID := Lib.hid hid
        clear hid
        by_cases hi0 : i = 0
        ·have hd0 : decide ((0 : Int) < (i : Int)) = false := decide_eq_false (by omega)
         have hdn : decide (0 < i) = false := decide_eq_false (by omega)
         have HN : Hid (∀ j, j < i + 1 → useOk s.uses j = true) := Lib.hid (fun j hj => by
          have : j = i := by omega
          rw [this]; unfold useOk; rw [← HT.out, HID.out, decide_eq_true hi0]; rfl)
         have HI1 := Lib.hid HI.out.1
         clear HI HT hi0
         go_wp2_with fail
         clear c4 c5
         have k4 := cell_regrown (show wr.cell? ⟨w.heap.size, 4, none⟩ = some (.slice (some ⟨b, o, none⟩) lu cu) by rw [cell_of_row _ _ 4 _ _ _ HRW.out]; rfl)
         have kt := cell_regrown HCL.out
         have cI : ∀ d os, Calls Tryz.prog 26 #[.string t] (grow (redrawn wr d) os) fun e w'' => e = .returned (.bool true) ∧ ∃ p : Regrown, w'' = grow (redrawn wr p.d) p.os := fun d os => by
          have h1 := rident_calls t (by omega) (grow (redrawn wr d) os)
          rw [HID.out] at h1
          exact h1.mono fun e w' ⟨he, hw⟩ => ⟨he, ⟨d, os⟩, hw⟩
         refine wp_region_quiet_below (by kernel_rfl) (by kernel_rfl) ?_
         repeat (first | go_big_quiet_step (exact cI _ _) | quiet_step (exact cI _ _))
         refine wpQuiet_nil ?_
         intro _ hw'
         obtain ⟨⟨dq, osq⟩, hw''⟩ := hw'
         subst hw''
         have hbq := below_regrown wr dq osq
         clear k4 kt cI
         generalize grow (redrawn wr dq) osq = w3 at *
         have HI3 : Hid (Below w1.heap.size w1 w3) := Lib.hid (HI1.out.trans (hbq.mono HI1.out.size))
         clear hbq
         go_wp2
         go_round
         case rel => exact ⟨i + 1, by go_num, by omega, Lib.hid ⟨HI3.out, HN.out⟩⟩
         case measure => simp only [RowKit.intOf]; omega
        ·obtain ⟨j, rfl⟩ : ∃ j, i = j + 1 := ⟨i - 1, by omega⟩
         obtain ⟨b2, o2, cx2, he2, hbl2, hcl2⟩ := strc_lt2 HSW.out.uses j (by rw [← HLU.out]; omega)
         simp only [Value.slice.injEq, Option.some.injEq, Addr.mk.injEq] at he2
         obtain ⟨⟨rfl, rfl, _⟩, hx1, hx2⟩ := he2
         clear hx1 hx2
         obtain ⟨p, hpE⟩ : ∃ p, p = s.uses.getD j ByteArray.empty := ⟨_, rfl⟩
         rw [← hpE] at hcl2
         have HP := Lib.hid hpE
         have HCL2 := Lib.hid hcl2
         clear hpE hcl2
         have hd0 : decide ((0 : Int) < ((j + 1 : Nat) : Int)) = true := decide_eq_true (by omega)
         have hjl : (j : Int) < (lu : Int) := by omega
         have hj0 : (0 : Int) ≤ (j : Int) := by omega
         cases hle : leB t p with
         | true =>
          have HF : Hid (properB s = false) := Lib.hid (proper_no1 (range_no (by rw [← HLU.out]; exact hlt) (by unfold useOk; rw [← HT.out, Nat.add_sub_cancel, ← HP.out, hle]; simp)))
          have HLE := Lib.hid hle
          clear HI HT HP hle
          go_wp2_with fail
          clear c4 c5
          have k4 := cell_regrown (show wr.cell? ⟨w.heap.size, 4, none⟩ = some (.slice (some ⟨b, o, none⟩) lu cu) by rw [cell_of_row _ _ 4 _ _ _ HRW.out]; rfl)
          have kt := cell_regrown HCL.out
          have kp := cell_regrown HCL2.out
          have hle' : (Op.bytesLess t.toList p.toList || t.toList == p.toList) = true := HLE.out
          have cI : ∀ d os, Calls Tryz.prog 26 #[.string t] (grow (redrawn wr d) os) fun e w'' => e = .returned (.bool true) ∧ ∃ p : Regrown, w'' = grow (redrawn wr p.d) p.os := fun d os => by
           have h1 := rident_calls t (by omega) (grow (redrawn wr d) os)
           rw [HID.out] at h1
           exact h1.mono fun e w' ⟨he, hw⟩ => ⟨he, ⟨d, os⟩, hw⟩
          refine wp_region_quiet_below (by kernel_rfl) (by kernel_rfl) ?_
          repeat (first | go_big_quiet_step (exact cI _ _) | quiet_step (exact cI _ _))
          refine wpQuiet_nil ?_
          intro _ hw'
          obtain ⟨⟨dq, osq⟩, hw''⟩ := hw'
          subst hw''
          have hbq := below_regrown wr dq osq
          clear k4 kt cI kp hle'
          generalize grow (redrawn wr dq) osq = w3 at *
          have HB3 := Lib.hid (HBW.out.trans (hbq.mono HBW.out.size))
          go_wp2
          go_ret
          exact ⟨congrArg (fun b => Ending.returned (Value.bool b)) HF.out.symm, HB3.out⟩
         | false =>
          have HN : Hid (∀ k, k < j + 1 + 1 → useOk s.uses k = true) := Lib.hid (fun k hk => by
           rcases Nat.lt_succ_iff_lt_or_eq.1 hk with h | h
           ·exact HI.out.2 k h
           ·subst h; unfold useOk; rw [← HT.out, HID.out, Nat.add_sub_cancel, ← HP.out, hle]; simp)
          have HLE := Lib.hid hle
          have HI1 := Lib.hid HI.out.1
          clear HI HT HP hle
          go_wp2_with fail
          clear c4 c5
          have k4 := cell_regrown (show wr.cell? ⟨w.heap.size, 4, none⟩ = some (.slice (some ⟨b, o, none⟩) lu cu) by rw [cell_of_row _ _ 4 _ _ _ HRW.out]; rfl)
          have kt := cell_regrown HCL.out
          have kp := cell_regrown HCL2.out
          have hle' : (Op.bytesLess t.toList p.toList || t.toList == p.toList) = false := HLE.out
          have cI : ∀ d os, Calls Tryz.prog 26 #[.string t] (grow (redrawn wr d) os) fun e w'' => e = .returned (.bool true) ∧ ∃ p : Regrown, w'' = grow (redrawn wr p.d) p.os := fun d os => by
           have h1 := rident_calls t (by omega) (grow (redrawn wr d) os)
           rw [HID.out] at h1
           exact h1.mono fun e w' ⟨he, hw⟩ => ⟨he, ⟨d, os⟩, hw⟩
          refine wp_region_quiet_below (by kernel_rfl) (by kernel_rfl) ?_
          repeat (first | go_big_quiet_step (exact cI _ _) | quiet_step (exact cI _ _))
          refine wpQuiet_nil ?_
          intro _ hw'
          obtain ⟨⟨dq, osq⟩, hw''⟩ := hw'
          subst hw''
          have hbq := below_regrown wr dq osq
          clear k4 kt cI kp hle'
          generalize grow (redrawn wr dq) osq = w3 at *
          have HI3 : Hid (Below w1.heap.size w1 w3) := Lib.hid (HI1.out.trans (hbq.mono HI1.out.size))
          clear hbq
          go_wp2
          go_round
          case rel => exact ⟨j + 1 + 1, by go_num, by omega, Lib.hid ⟨HI3.out, HN.out⟩⟩
          case measure => simp only [RowKit.intOf]; omega
      ·have HAU : Hid (usesOk s.uses = true) := Lib.hid (range_all (fun j hj => HI.out.2 j (by have := HLU.out; omega)))
       have HPR3 : Hid (properB s = inpsOk s.inputs) := Lib.hid (by rw [HPR2.out, HAU.out, Bool.true_and])
       clear HI HS1 HB1 HRR HZ1 HPR2 HAU
       generalize wr = w4 at *
       go_wp2_with fail
       clear c4 c5
       go_loopw [4] (fun vi W => ∃ i : Nat, vi = .int .i64 (i : Int) ∧ i ≤ li ∧ Hid (Below w4.heap.size w4 W ∧ ∀ j, j < i → inpOk s.inputs j = true)) (fun vi _ => li - (RowKit.intOf vi).toNat)
       case atStart => exact ⟨0, rfl, by omega, Lib.hid ⟨Below.refl _ _, fun j hj => by omega⟩⟩
       case round =>
        obtain ⟨i, rfl, hi2, HI⟩ := hrel
        have HRQ : Hid (wr.heap[w.heap.size]? = some (.cells #[.string s.id, .string s.prod, .int .i64 s.q, .string s.holder, .slice aou lu cu, .slice aoi li ci, .int .i64 s.idx, .slice aos ls cs, .slice aop lp cp] 27 (0, 0))) := Lib.hid ((HI.out.1.block _ HZW.out).trans HRW.out)
        have HBQ : Hid (Below w.heap.size w wr) := Lib.hid (HBW.out.trans (HI.out.1.mono HBW.out.size))
        have HSQ := Lib.hid (HSW.out.inputs.on HI.out.1)
        have HZQ : Hid (w.heap.size < wr.heap.size) := Lib.hid (Array.getElem?_eq_some_iff.1 HRQ.out).1
        have c5 : wr.cell? ⟨w.heap.size, 5, none⟩ = some (.slice aoi li ci) := by rw [cell_of_row _ _ 5 _ _ _ HRQ.out]; rfl
        by_cases hlt : i < li
        ·obtain ⟨b, o, cx, he, hbl, hcl, hcl2⟩ := HSQ.out.at i (by rw [← HLI.out]; exact hlt)
         simp only [Value.slice.injEq] at he
         obtain ⟨rfl, hx1, hx2⟩ := he
         clear hx1 hx2
         have hsz := inp_le HZ.out.inputs i
         have hlt' : (i : Int) < (li : Int) := by omega
         obtain ⟨t, htE⟩ : ∃ t, t = (s.inputs.getD i nilInp).1 := ⟨_, rfl⟩
         obtain ⟨q, hqE⟩ : ∃ q, q = (s.inputs.getD i nilInp).2 := ⟨_, rfl⟩
         rw [← htE] at hcl hsz
         rw [← hqE] at hcl2
         have HT := Lib.hid htE
         have HQ := Lib.hid hqE
         clear htE hqE
         cases hid : identB t with
         | false =>
          have HF : Hid (properB s = false) := Lib.hid (by rw [HPR3.out]; exact range_no (by rw [← HLI.out]; exact hlt) (by unfold inpOk; rw [← HT.out, hid]; rfl))
          have HID := Lib.hid hid
          clear hid HI
          go_wp2_with fail
          refine (rident_calls t (by omega) wr).mono ?_
          rintro e wr ⟨rfl, rfl⟩
          rw [HID.out]
          go_wp2
          go_ret
          exact ⟨congrArg (fun b => Ending.returned (Value.bool b)) HF.out.symm, HBQ.out⟩
         | true =>
          have HID := Lib.hid hid
          clear hid
          cases hqu : quantB q with
          | false =>
           have HF : Hid (properB s = false) := Lib.hid (by rw [HPR3.out]; exact range_no (by rw [← HLI.out]; exact hlt) (by unfold inpOk; rw [← HT.out, ← HQ.out, HID.out, hqu]; rfl))
           have HQU := Lib.hid hqu
           clear hqu HI
           go_wp2_with fail
           refine (rident_calls t (by omega) wr).mono ?_
           rintro e wr ⟨rfl, rfl⟩
           rw [HID.out]
           go_wp2_with fail
           refine (rq_calls q wr).mono ?_
           rintro e wr ⟨rfl, rfl⟩
           rw [HQU.out]
           go_wp2
           go_ret
           exact ⟨congrArg (fun b => Ending.returned (Value.bool b)) HF.out.symm, HBQ.out⟩
          | true =>
           have HQU := Lib.hid hqu
           have HI1 := Lib.hid HI.out.1
           have HI2 := Lib.hid HI.out.2
           clear hqu HI
           go_wp2_with fail
           refine (rident_calls t (by omega) wr).mono ?_
           rintro e wr ⟨rfl, rfl⟩
           rw [HID.out]
           go_wp2_with fail
           refine (rq_calls q wr).mono ?_
           rintro e wr ⟨rfl, rfl⟩
           rw [HQU.out]
           go_wp2_with fail
           have HCT := Lib.hid hcl
           clear c5 hcl hcl2
           generalize wr = w5 at *
           go_loopw [5] (fun vk W => ∃ k : Nat, vk = .int .i64 (k : Int) ∧ k ≤ i ∧ Hid (Below w5.heap.size w5 W ∧ ∀ j, j < k → (s.inputs.getD j nilInp).1 ≠ t)) (fun vk _ => i - (RowKit.intOf vk).toNat)
           case atStart => exact ⟨0, rfl, by omega, Lib.hid ⟨Below.refl _ _, fun j hj => by omega⟩⟩
           case round =>
            obtain ⟨k, rfl, hk, HK⟩ := hrel
            have HRK : Hid (wr.heap[w.heap.size]? = some (.cells #[.string s.id, .string s.prod, .int .i64 s.q, .string s.holder, .slice aou lu cu, .slice (some ⟨b, o, none⟩) li ci, .int .i64 s.idx, .slice aos ls cs, .slice aop lp cp] 27 (0, 0))) := Lib.hid ((HK.out.1.block _ HZQ.out).trans HRQ.out)
            have HBK : Hid (Below w.heap.size w wr) := Lib.hid (HBQ.out.trans (HK.out.1.mono HBQ.out.size))
            by_cases hlt3 : k < i
            ·have c5 : wr.cell? ⟨w.heap.size, 5, none⟩ = some (.slice (some ⟨b, o, none⟩) li ci) := by rw [cell_of_row _ _ 5 _ _ _ HRK.out]; rfl
             obtain ⟨b2, o2, cx2, he2, hbl2, hck, hck2⟩ := HSQ.out.at k (by rw [← HLI.out]; omega)
             simp only [Value.slice.injEq, Option.some.injEq, Addr.mk.injEq] at he2
             obtain ⟨⟨rfl, rfl, _⟩, hx1, hx2⟩ := he2
             clear hx1 hx2 hck2
             obtain ⟨u, huE⟩ : ∃ u, u = (s.inputs.getD k nilInp).1 := ⟨_, rfl⟩
             rw [← huE] at hck
             have HU := Lib.hid huE
             have cu1 : wr.cell? ⟨b, o + k * 2, none⟩ = some (.string u) := by rw [HK.out.1.cell (p := ⟨b, o + k * 2, none⟩) hbl]; exact hck
             have ct1 : wr.cell? ⟨b, o + i * 2, none⟩ = some (.string t) := by rw [HK.out.1.cell (p := ⟨b, o + i * 2, none⟩) hbl]; exact HCT.out
             clear huE hck
             have hkl : (k : Int) < (li : Int) := by omega
             have hki : (k : Int) < (i : Int) := by omega
             by_cases hut : u = t
             ·have HF : Hid (properB s = false) := Lib.hid (by
               rw [HPR3.out]
               exact range_no (by rw [← HLI.out]; exact hlt) (by unfold inpOk; rw [← HT.out, any_take_yes hlt3 (by rw [← HLI.out]; omega) (HU.out.symm.trans hut)]; simp))
              subst hut
              clear HK
              go_wp2_with fail
              go_quiet (fail)
              go_wp2
              go_ret
              exact ⟨congrArg (fun b => Ending.returned (Value.bool b)) HF.out.symm, below_drewN HBK.out _⟩
             ·have hne := strne hut
              have HN : Hid (∀ j, j < k + 1 → (s.inputs.getD j nilInp).1 ≠ t) := Lib.hid (fun j hj => by
               rcases Nat.lt_succ_iff_lt_or_eq.1 hj with h | h
               ·exact HK.out.2 j h
               ·subst h; rw [← HU.out]; exact hut)
              have HK1 := Lib.hid HK.out.1
              clear HK hut
              go_wp2_with fail
              go_quiet (fail)
              clear c5 cu1 ct1
              go_wp2
              go_round
              case rel => exact ⟨k + 1, by go_num, by omega, Lib.hid ⟨below_drewN HK1.out _, HN.out⟩⟩
              case measure => simp only [RowKit.intOf]; omega
            ·have HN : Hid (∀ j, j < i + 1 → inpOk s.inputs j = true) := Lib.hid (fun j hj => by
              rcases Nat.lt_succ_iff_lt_or_eq.1 hj with h | h
              ·exact HI2.out j h
              ·subst h
               unfold inpOk
               rw [← HT.out, ← HQ.out, HID.out, HQU.out, any_take_no (fun a ha => HK.out.2 a (by omega))]; rfl)
             have HI3 : Hid (Below w4.heap.size w4 wr) := Lib.hid (HI1.out.trans (HK.out.1.mono HI1.out.size))
             have hnk : ¬ ((k : Int) < (i : Int)) := by omega
             clear HK
             go_wp2
             go_round
             case rel => exact ⟨i + 1, by go_num, by omega, Lib.hid ⟨HI3.out, HN.out⟩⟩
             case measure => simp only [RowKit.intOf]; omega
        ·have HF : Hid (properB s = true) := Lib.hid (by rw [HPR3.out]; exact range_all (fun j hj => HI.out.2 j (by have := HLI.out; omega)))
         clear HI
         go_wp2
         go_ret
         exact ⟨congrArg (fun b => Ending.returned (Value.bool b)) HF.out.symm, HBQ.out⟩
end Go.Proofs.YtnkepmfgmfeabaaGreatDoor
set_option linter.unusedVariables false
namespace Go.Proofs.YtnkepmfgmfeabaaGreatDoor
open Go Go.RowKit

theorem two_boxes (w : World) (xs ys : Array Value) (T U : TypeId) : ((w.alloc (.cells xs T)).alloc (.cells ys U)).heap[w.heap.size]? = some (.cells xs T (0, 0)) ∧ ((w.alloc (.cells xs T)).alloc (.cells ys U)).heap[w.heap.size + 1]? = some (.cells ys U (0, 0)) ∧
  Below w.heap.size w ((w.alloc (.cells xs T)).alloc (.cells ys U)) := by
 refine ⟨?_, ?_, ((Below.refl _ w).alloc (Nat.le_refl _) _).alloc (by simp) _⟩
 ·show ((w.heap.push (.cells xs T)).push (.cells ys U))[w.heap.size]? = _
  rw [Array.getElem?_push, if_neg (by simp)]; simp
 ·show ((w.heap.push (.cells xs T)).push (.cells ys U))[w.heap.size + 1]? = _
  rw [Array.getElem?_push, if_pos (by simp)]
theorem same_no {a b : Stm} (h : ¬ (a.id = b.id ∧ a.prod = b.prod ∧ a.q = b.q ∧ a.holder = b.holder ∧ a.uses = b.uses ∧ a.inputs = b.inputs)) : sameSt a b = false := by
 cases hs : sameSt a b with
 | false => rfl
 | true =>
  unfold sameSt at hs
  simp only [Bool.and_eq_true, decide_eq_true_eq] at hs
  exact absurd ⟨hs.1.1.1.1.1, hs.1.1.1.1.2, hs.1.1.1.2, hs.1.1.2, hs.1.2, hs.2⟩ h
set_option maxRecDepth 100000 in
set_option maxHeartbeats 8000000 in
theorem same29_calls (a b : Stm) (vau vai vas vap vbu vbi vbs vbp : Value) (w : World) (hA : StmAt w a vau vai vas vap) (hB : StmAt w b vbu vbi vbs vbp) :
  Calls Tryz.prog 8 #[.agg (stmCells a vau vai vas vap), .agg (stmCells b vbu vbi vbs vbp)] w fun e w' => e = .returned (.bool (sameSt a b)) ∧ Below w.heap.size w w' := by
 obtain ⟨ida, proda, qa, hola, usesa, inpa, idxa, siga, patha⟩ := a
 obtain ⟨idb, prodb, qb, holb, usesb, inpb, idxb, sigb, pathb⟩ := b
 simp only [stmCells]
 have hau : IsStrC w vau usesa := hA.uses
 obtain ⟨aoau, cau, rfl⟩ := strc_form hau
 have hai : IsInp w vai inpa := hA.inputs
 obtain ⟨aoai, cai, rfl⟩ := hai.form
 have has : IsStrC w vas siga := hA.sig
 obtain ⟨aoas, cas, rfl⟩ := strc_form has
 have hap : IsStrC w vap patha := hA.path
 obtain ⟨aoap, cap, rfl⟩ := strc_form hap
 have zlau := strc_len hau
 have zlai := hai.len
 obtain ⟨lau, hlau⟩ : ∃ l, l = usesa.length := ⟨_, rfl⟩
 obtain ⟨lia, hlai⟩ : ∃ l, l = inpa.length := ⟨_, rfl⟩
 obtain ⟨las, hlas⟩ : ∃ l, l = siga.length := ⟨_, rfl⟩
 obtain ⟨lap, hlap⟩ : ∃ l, l = patha.length := ⟨_, rfl⟩
 rw [← hlau] at zlau
 rw [← hlai] at zlai
 clear hA
 have hbu : IsStrC w vbu usesb := hB.uses
 obtain ⟨aobu, cbu, rfl⟩ := strc_form hbu
 have hbi : IsInp w vbi inpb := hB.inputs
 obtain ⟨aobi, cbi, rfl⟩ := hbi.form
 have hbs : IsStrC w vbs sigb := hB.sig
 obtain ⟨aobs, cbs, rfl⟩ := strc_form hbs
 have hbp : IsStrC w vbp pathb := hB.path
 obtain ⟨aobp, cbp, rfl⟩ := strc_form hbp
 have zlbu := strc_len hbu
 have zlbi := hbi.len
 obtain ⟨lbu, hlbu⟩ : ∃ l, l = usesb.length := ⟨_, rfl⟩
 obtain ⟨lib, hlbi⟩ : ∃ l, l = inpb.length := ⟨_, rfl⟩
 obtain ⟨lbs, hlbs⟩ : ∃ l, l = sigb.length := ⟨_, rfl⟩
 obtain ⟨lbp, hlbp⟩ : ∃ l, l = pathb.length := ⟨_, rfl⟩
 rw [← hlbu] at zlbu
 rw [← hlbi] at zlbi
 clear hB
 rw [← hlau, ← hlai, ← hlas, ← hlap, ← hlbu, ← hlbi, ← hlbs, ← hlbp]
 rw [← hlau] at hau
 rw [← hlai] at hai
 have HLau := Lib.hid hlau
 have HLai := Lib.hid hlai
 clear hlau hlai hlas hlap has hap
 rw [← hlbu] at hbu
 rw [← hlbi] at hbi
 have HLbu := Lib.hid hlbu
 have HLbi := Lib.hid hlbi
 clear hlbu hlbi hlbs hlbp hbs hbp
 by_cases h0 : ida = idb
 rotate_left
 ·have HF := Lib.hid (same_no (a := ⟨ida, proda, qa, hola, usesa, inpa, idxa, siga, patha⟩) (b := ⟨idb, prodb, qb, holb, usesb, inpb, idxb, sigb, pathb⟩) (fun hx => h0 hx.1))
  have e0 : (ida.toList == idb.toList) = false := strne h0
  clear h0
  obtain ⟨hr1, hr2, hb1⟩ := two_boxes w #[.string ida, .string proda, .int .i64 qa, .string hola, .slice aoau lau cau, .slice aoai lia cai, .int .i64 idxa, .slice aoas las cas, .slice aoap lap cap] #[.string idb, .string prodb, .int .i64 qb, .string holb, .slice aobu lbu cbu, .slice aobi lib cbi, .int .i64 idxb, .slice aobs lbs cbs, .slice aobp lbp cbp] 27 27
  have HR1 := Lib.hid hr1
  have HR2 := Lib.hid hr2
  have HB1 := Lib.hid hb1
  have HAU := Lib.hid (hau.on hb1)
  have HAI := Lib.hid (hai.on hb1)
  have HBU := Lib.hid (hbu.on hb1)
  have HBI := Lib.hid (hbi.on hb1)
  clear hr1 hr2 hb1 hau hai hbu hbi
  have a0 : ((w.alloc (.cells #[.string ida, .string proda, .int .i64 qa, .string hola, .slice aoau lau cau, .slice aoai lia cai, .int .i64 idxa, .slice aoas las cas, .slice aoap lap cap] 27)).alloc (.cells #[.string idb, .string prodb, .int .i64 qb, .string holb, .slice aobu lbu cbu, .slice aobi lib cbi, .int .i64 idxb, .slice aobs lbs cbs, .slice aobp lbp cbp] 27)).cell? ⟨w.heap.size, 0, none⟩ = some (.string ida) := by rw [cell_of_row _ _ 0 _ _ _ HR1.out]; rfl
  have b0 : ((w.alloc (.cells #[.string ida, .string proda, .int .i64 qa, .string hola, .slice aoau lau cau, .slice aoai lia cai, .int .i64 idxa, .slice aoas las cas, .slice aoap lap cap] 27)).alloc (.cells #[.string idb, .string prodb, .int .i64 qb, .string holb, .slice aobu lbu cbu, .slice aobi lib cbi, .int .i64 idxb, .slice aobs lbs cbs, .slice aobp lbp cbp] 27)).cell? ⟨w.heap.size + 1, 0, none⟩ = some (.string idb) := by rw [cell_of_row _ _ 0 _ _ _ HR2.out]; rfl
  have a1 : ((w.alloc (.cells #[.string ida, .string proda, .int .i64 qa, .string hola, .slice aoau lau cau, .slice aoai lia cai, .int .i64 idxa, .slice aoas las cas, .slice aoap lap cap] 27)).alloc (.cells #[.string idb, .string prodb, .int .i64 qb, .string holb, .slice aobu lbu cbu, .slice aobi lib cbi, .int .i64 idxb, .slice aobs lbs cbs, .slice aobp lbp cbp] 27)).cell? ⟨w.heap.size, 1, none⟩ = some (.string proda) := by rw [cell_of_row _ _ 1 _ _ _ HR1.out]; rfl
  have b1 : ((w.alloc (.cells #[.string ida, .string proda, .int .i64 qa, .string hola, .slice aoau lau cau, .slice aoai lia cai, .int .i64 idxa, .slice aoas las cas, .slice aoap lap cap] 27)).alloc (.cells #[.string idb, .string prodb, .int .i64 qb, .string holb, .slice aobu lbu cbu, .slice aobi lib cbi, .int .i64 idxb, .slice aobs lbs cbs, .slice aobp lbp cbp] 27)).cell? ⟨w.heap.size + 1, 1, none⟩ = some (.string prodb) := by rw [cell_of_row _ _ 1 _ _ _ HR2.out]; rfl
  have a2 : ((w.alloc (.cells #[.string ida, .string proda, .int .i64 qa, .string hola, .slice aoau lau cau, .slice aoai lia cai, .int .i64 idxa, .slice aoas las cas, .slice aoap lap cap] 27)).alloc (.cells #[.string idb, .string prodb, .int .i64 qb, .string holb, .slice aobu lbu cbu, .slice aobi lib cbi, .int .i64 idxb, .slice aobs lbs cbs, .slice aobp lbp cbp] 27)).cell? ⟨w.heap.size, 2, none⟩ = some (.int .i64 qa) := by rw [cell_of_row _ _ 2 _ _ _ HR1.out]; rfl
  have b2 : ((w.alloc (.cells #[.string ida, .string proda, .int .i64 qa, .string hola, .slice aoau lau cau, .slice aoai lia cai, .int .i64 idxa, .slice aoas las cas, .slice aoap lap cap] 27)).alloc (.cells #[.string idb, .string prodb, .int .i64 qb, .string holb, .slice aobu lbu cbu, .slice aobi lib cbi, .int .i64 idxb, .slice aobs lbs cbs, .slice aobp lbp cbp] 27)).cell? ⟨w.heap.size + 1, 2, none⟩ = some (.int .i64 qb) := by rw [cell_of_row _ _ 2 _ _ _ HR2.out]; rfl
  have a3 : ((w.alloc (.cells #[.string ida, .string proda, .int .i64 qa, .string hola, .slice aoau lau cau, .slice aoai lia cai, .int .i64 idxa, .slice aoas las cas, .slice aoap lap cap] 27)).alloc (.cells #[.string idb, .string prodb, .int .i64 qb, .string holb, .slice aobu lbu cbu, .slice aobi lib cbi, .int .i64 idxb, .slice aobs lbs cbs, .slice aobp lbp cbp] 27)).cell? ⟨w.heap.size, 3, none⟩ = some (.string hola) := by rw [cell_of_row _ _ 3 _ _ _ HR1.out]; rfl
  have b3 : ((w.alloc (.cells #[.string ida, .string proda, .int .i64 qa, .string hola, .slice aoau lau cau, .slice aoai lia cai, .int .i64 idxa, .slice aoas las cas, .slice aoap lap cap] 27)).alloc (.cells #[.string idb, .string prodb, .int .i64 qb, .string holb, .slice aobu lbu cbu, .slice aobi lib cbi, .int .i64 idxb, .slice aobs lbs cbs, .slice aobp lbp cbp] 27)).cell? ⟨w.heap.size + 1, 3, none⟩ = some (.string holb) := by rw [cell_of_row _ _ 3 _ _ _ HR2.out]; rfl
  have a4 : ((w.alloc (.cells #[.string ida, .string proda, .int .i64 qa, .string hola, .slice aoau lau cau, .slice aoai lia cai, .int .i64 idxa, .slice aoas las cas, .slice aoap lap cap] 27)).alloc (.cells #[.string idb, .string prodb, .int .i64 qb, .string holb, .slice aobu lbu cbu, .slice aobi lib cbi, .int .i64 idxb, .slice aobs lbs cbs, .slice aobp lbp cbp] 27)).cell? ⟨w.heap.size, 4, none⟩ = some (.slice aoau lau cau) := by rw [cell_of_row _ _ 4 _ _ _ HR1.out]; rfl
  have b4 : ((w.alloc (.cells #[.string ida, .string proda, .int .i64 qa, .string hola, .slice aoau lau cau, .slice aoai lia cai, .int .i64 idxa, .slice aoas las cas, .slice aoap lap cap] 27)).alloc (.cells #[.string idb, .string prodb, .int .i64 qb, .string holb, .slice aobu lbu cbu, .slice aobi lib cbi, .int .i64 idxb, .slice aobs lbs cbs, .slice aobp lbp cbp] 27)).cell? ⟨w.heap.size + 1, 4, none⟩ = some (.slice aobu lbu cbu) := by rw [cell_of_row _ _ 4 _ _ _ HR2.out]; rfl
  have a5 : ((w.alloc (.cells #[.string ida, .string proda, .int .i64 qa, .string hola, .slice aoau lau cau, .slice aoai lia cai, .int .i64 idxa, .slice aoas las cas, .slice aoap lap cap] 27)).alloc (.cells #[.string idb, .string prodb, .int .i64 qb, .string holb, .slice aobu lbu cbu, .slice aobi lib cbi, .int .i64 idxb, .slice aobs lbs cbs, .slice aobp lbp cbp] 27)).cell? ⟨w.heap.size, 5, none⟩ = some (.slice aoai lia cai) := by rw [cell_of_row _ _ 5 _ _ _ HR1.out]; rfl
  have b5 : ((w.alloc (.cells #[.string ida, .string proda, .int .i64 qa, .string hola, .slice aoau lau cau, .slice aoai lia cai, .int .i64 idxa, .slice aoas las cas, .slice aoap lap cap] 27)).alloc (.cells #[.string idb, .string prodb, .int .i64 qb, .string holb, .slice aobu lbu cbu, .slice aobi lib cbi, .int .i64 idxb, .slice aobs lbs cbs, .slice aobp lbp cbp] 27)).cell? ⟨w.heap.size + 1, 5, none⟩ = some (.slice aobi lib cbi) := by rw [cell_of_row _ _ 5 _ _ _ HR2.out]; rfl
  go_enter Tryz.func8, Tryz.ntmps8
  go_wp2
  go_ret
  exact ⟨congrArg (fun b => Ending.returned (Value.bool b)) HF.out.symm, HB1.out⟩
 subst h0
 by_cases h1 : proda = prodb
 rotate_left
 ·have HF := Lib.hid (same_no (a := ⟨ida, proda, qa, hola, usesa, inpa, idxa, siga, patha⟩) (b := ⟨ida, prodb, qb, holb, usesb, inpb, idxb, sigb, pathb⟩) (fun hx => h1 hx.2.1))
  have e1 : (proda.toList == prodb.toList) = false := strne h1
  clear h1
  obtain ⟨hr1, hr2, hb1⟩ := two_boxes w #[.string ida, .string proda, .int .i64 qa, .string hola, .slice aoau lau cau, .slice aoai lia cai, .int .i64 idxa, .slice aoas las cas, .slice aoap lap cap] #[.string ida, .string prodb, .int .i64 qb, .string holb, .slice aobu lbu cbu, .slice aobi lib cbi, .int .i64 idxb, .slice aobs lbs cbs, .slice aobp lbp cbp] 27 27
  have HR1 := Lib.hid hr1
  have HR2 := Lib.hid hr2
  have HB1 := Lib.hid hb1
  have HAU := Lib.hid (hau.on hb1)
  have HAI := Lib.hid (hai.on hb1)
  have HBU := Lib.hid (hbu.on hb1)
  have HBI := Lib.hid (hbi.on hb1)
  clear hr1 hr2 hb1 hau hai hbu hbi
  have a0 : ((w.alloc (.cells #[.string ida, .string proda, .int .i64 qa, .string hola, .slice aoau lau cau, .slice aoai lia cai, .int .i64 idxa, .slice aoas las cas, .slice aoap lap cap] 27)).alloc (.cells #[.string ida, .string prodb, .int .i64 qb, .string holb, .slice aobu lbu cbu, .slice aobi lib cbi, .int .i64 idxb, .slice aobs lbs cbs, .slice aobp lbp cbp] 27)).cell? ⟨w.heap.size, 0, none⟩ = some (.string ida) := by rw [cell_of_row _ _ 0 _ _ _ HR1.out]; rfl
  have b0 : ((w.alloc (.cells #[.string ida, .string proda, .int .i64 qa, .string hola, .slice aoau lau cau, .slice aoai lia cai, .int .i64 idxa, .slice aoas las cas, .slice aoap lap cap] 27)).alloc (.cells #[.string ida, .string prodb, .int .i64 qb, .string holb, .slice aobu lbu cbu, .slice aobi lib cbi, .int .i64 idxb, .slice aobs lbs cbs, .slice aobp lbp cbp] 27)).cell? ⟨w.heap.size + 1, 0, none⟩ = some (.string ida) := by rw [cell_of_row _ _ 0 _ _ _ HR2.out]; rfl
  have a1 : ((w.alloc (.cells #[.string ida, .string proda, .int .i64 qa, .string hola, .slice aoau lau cau, .slice aoai lia cai, .int .i64 idxa, .slice aoas las cas, .slice aoap lap cap] 27)).alloc (.cells #[.string ida, .string prodb, .int .i64 qb, .string holb, .slice aobu lbu cbu, .slice aobi lib cbi, .int .i64 idxb, .slice aobs lbs cbs, .slice aobp lbp cbp] 27)).cell? ⟨w.heap.size, 1, none⟩ = some (.string proda) := by rw [cell_of_row _ _ 1 _ _ _ HR1.out]; rfl
  have b1 : ((w.alloc (.cells #[.string ida, .string proda, .int .i64 qa, .string hola, .slice aoau lau cau, .slice aoai lia cai, .int .i64 idxa, .slice aoas las cas, .slice aoap lap cap] 27)).alloc (.cells #[.string ida, .string prodb, .int .i64 qb, .string holb, .slice aobu lbu cbu, .slice aobi lib cbi, .int .i64 idxb, .slice aobs lbs cbs, .slice aobp lbp cbp] 27)).cell? ⟨w.heap.size + 1, 1, none⟩ = some (.string prodb) := by rw [cell_of_row _ _ 1 _ _ _ HR2.out]; rfl
  have a2 : ((w.alloc (.cells #[.string ida, .string proda, .int .i64 qa, .string hola, .slice aoau lau cau, .slice aoai lia cai, .int .i64 idxa, .slice aoas las cas, .slice aoap lap cap] 27)).alloc (.cells #[.string ida, .string prodb, .int .i64 qb, .string holb, .slice aobu lbu cbu, .slice aobi lib cbi, .int .i64 idxb, .slice aobs lbs cbs, .slice aobp lbp cbp] 27)).cell? ⟨w.heap.size, 2, none⟩ = some (.int .i64 qa) := by rw [cell_of_row _ _ 2 _ _ _ HR1.out]; rfl
  have b2 : ((w.alloc (.cells #[.string ida, .string proda, .int .i64 qa, .string hola, .slice aoau lau cau, .slice aoai lia cai, .int .i64 idxa, .slice aoas las cas, .slice aoap lap cap] 27)).alloc (.cells #[.string ida, .string prodb, .int .i64 qb, .string holb, .slice aobu lbu cbu, .slice aobi lib cbi, .int .i64 idxb, .slice aobs lbs cbs, .slice aobp lbp cbp] 27)).cell? ⟨w.heap.size + 1, 2, none⟩ = some (.int .i64 qb) := by rw [cell_of_row _ _ 2 _ _ _ HR2.out]; rfl
  have a3 : ((w.alloc (.cells #[.string ida, .string proda, .int .i64 qa, .string hola, .slice aoau lau cau, .slice aoai lia cai, .int .i64 idxa, .slice aoas las cas, .slice aoap lap cap] 27)).alloc (.cells #[.string ida, .string prodb, .int .i64 qb, .string holb, .slice aobu lbu cbu, .slice aobi lib cbi, .int .i64 idxb, .slice aobs lbs cbs, .slice aobp lbp cbp] 27)).cell? ⟨w.heap.size, 3, none⟩ = some (.string hola) := by rw [cell_of_row _ _ 3 _ _ _ HR1.out]; rfl
  have b3 : ((w.alloc (.cells #[.string ida, .string proda, .int .i64 qa, .string hola, .slice aoau lau cau, .slice aoai lia cai, .int .i64 idxa, .slice aoas las cas, .slice aoap lap cap] 27)).alloc (.cells #[.string ida, .string prodb, .int .i64 qb, .string holb, .slice aobu lbu cbu, .slice aobi lib cbi, .int .i64 idxb, .slice aobs lbs cbs, .slice aobp lbp cbp] 27)).cell? ⟨w.heap.size + 1, 3, none⟩ = some (.string holb) := by rw [cell_of_row _ _ 3 _ _ _ HR2.out]; rfl
  have a4 : ((w.alloc (.cells #[.string ida, .string proda, .int .i64 qa, .string hola, .slice aoau lau cau, .slice aoai lia cai, .int .i64 idxa, .slice aoas las cas, .slice aoap lap cap] 27)).alloc (.cells #[.string ida, .string prodb, .int .i64 qb, .string holb, .slice aobu lbu cbu, .slice aobi lib cbi, .int .i64 idxb, .slice aobs lbs cbs, .slice aobp lbp cbp] 27)).cell? ⟨w.heap.size, 4, none⟩ = some (.slice aoau lau cau) := by rw [cell_of_row _ _ 4 _ _ _ HR1.out]; rfl
  have b4 : ((w.alloc (.cells #[.string ida, .string proda, .int .i64 qa, .string hola, .slice aoau lau cau, .slice aoai lia cai, .int .i64 idxa, .slice aoas las cas, .slice aoap lap cap] 27)).alloc (.cells #[.string ida, .string prodb, .int .i64 qb, .string holb, .slice aobu lbu cbu, .slice aobi lib cbi, .int .i64 idxb, .slice aobs lbs cbs, .slice aobp lbp cbp] 27)).cell? ⟨w.heap.size + 1, 4, none⟩ = some (.slice aobu lbu cbu) := by rw [cell_of_row _ _ 4 _ _ _ HR2.out]; rfl
  have a5 : ((w.alloc (.cells #[.string ida, .string proda, .int .i64 qa, .string hola, .slice aoau lau cau, .slice aoai lia cai, .int .i64 idxa, .slice aoas las cas, .slice aoap lap cap] 27)).alloc (.cells #[.string ida, .string prodb, .int .i64 qb, .string holb, .slice aobu lbu cbu, .slice aobi lib cbi, .int .i64 idxb, .slice aobs lbs cbs, .slice aobp lbp cbp] 27)).cell? ⟨w.heap.size, 5, none⟩ = some (.slice aoai lia cai) := by rw [cell_of_row _ _ 5 _ _ _ HR1.out]; rfl
  have b5 : ((w.alloc (.cells #[.string ida, .string proda, .int .i64 qa, .string hola, .slice aoau lau cau, .slice aoai lia cai, .int .i64 idxa, .slice aoas las cas, .slice aoap lap cap] 27)).alloc (.cells #[.string ida, .string prodb, .int .i64 qb, .string holb, .slice aobu lbu cbu, .slice aobi lib cbi, .int .i64 idxb, .slice aobs lbs cbs, .slice aobp lbp cbp] 27)).cell? ⟨w.heap.size + 1, 5, none⟩ = some (.slice aobi lib cbi) := by rw [cell_of_row _ _ 5 _ _ _ HR2.out]; rfl
  go_enter Tryz.func8, Tryz.ntmps8
  go_wp2
  go_ret
  exact ⟨congrArg (fun b => Ending.returned (Value.bool b)) HF.out.symm, HB1.out⟩
 subst h1
 by_cases h2 : qa = qb
 rotate_left
 ·have HF := Lib.hid (same_no (a := ⟨ida, proda, qa, hola, usesa, inpa, idxa, siga, patha⟩) (b := ⟨ida, proda, qb, holb, usesb, inpb, idxb, sigb, pathb⟩) (fun hx => h2 hx.2.2.1))
  have e2 : (qa == qb) = false := by rw [beq_eq_false_iff_ne]; exact h2
  have f2 : (qa != qb) = true := by simp [h2]
  have g2 : decide (qa = qb) = false := decide_eq_false h2
  obtain ⟨hr1, hr2, hb1⟩ := two_boxes w #[.string ida, .string proda, .int .i64 qa, .string hola, .slice aoau lau cau, .slice aoai lia cai, .int .i64 idxa, .slice aoas las cas, .slice aoap lap cap] #[.string ida, .string proda, .int .i64 qb, .string holb, .slice aobu lbu cbu, .slice aobi lib cbi, .int .i64 idxb, .slice aobs lbs cbs, .slice aobp lbp cbp] 27 27
  have HR1 := Lib.hid hr1
  have HR2 := Lib.hid hr2
  have HB1 := Lib.hid hb1
  have HAU := Lib.hid (hau.on hb1)
  have HAI := Lib.hid (hai.on hb1)
  have HBU := Lib.hid (hbu.on hb1)
  have HBI := Lib.hid (hbi.on hb1)
  clear hr1 hr2 hb1 hau hai hbu hbi
  have a0 : ((w.alloc (.cells #[.string ida, .string proda, .int .i64 qa, .string hola, .slice aoau lau cau, .slice aoai lia cai, .int .i64 idxa, .slice aoas las cas, .slice aoap lap cap] 27)).alloc (.cells #[.string ida, .string proda, .int .i64 qb, .string holb, .slice aobu lbu cbu, .slice aobi lib cbi, .int .i64 idxb, .slice aobs lbs cbs, .slice aobp lbp cbp] 27)).cell? ⟨w.heap.size, 0, none⟩ = some (.string ida) := by rw [cell_of_row _ _ 0 _ _ _ HR1.out]; rfl
  have b0 : ((w.alloc (.cells #[.string ida, .string proda, .int .i64 qa, .string hola, .slice aoau lau cau, .slice aoai lia cai, .int .i64 idxa, .slice aoas las cas, .slice aoap lap cap] 27)).alloc (.cells #[.string ida, .string proda, .int .i64 qb, .string holb, .slice aobu lbu cbu, .slice aobi lib cbi, .int .i64 idxb, .slice aobs lbs cbs, .slice aobp lbp cbp] 27)).cell? ⟨w.heap.size + 1, 0, none⟩ = some (.string ida) := by rw [cell_of_row _ _ 0 _ _ _ HR2.out]; rfl
  have a1 : ((w.alloc (.cells #[.string ida, .string proda, .int .i64 qa, .string hola, .slice aoau lau cau, .slice aoai lia cai, .int .i64 idxa, .slice aoas las cas, .slice aoap lap cap] 27)).alloc (.cells #[.string ida, .string proda, .int .i64 qb, .string holb, .slice aobu lbu cbu, .slice aobi lib cbi, .int .i64 idxb, .slice aobs lbs cbs, .slice aobp lbp cbp] 27)).cell? ⟨w.heap.size, 1, none⟩ = some (.string proda) := by rw [cell_of_row _ _ 1 _ _ _ HR1.out]; rfl
  have b1 : ((w.alloc (.cells #[.string ida, .string proda, .int .i64 qa, .string hola, .slice aoau lau cau, .slice aoai lia cai, .int .i64 idxa, .slice aoas las cas, .slice aoap lap cap] 27)).alloc (.cells #[.string ida, .string proda, .int .i64 qb, .string holb, .slice aobu lbu cbu, .slice aobi lib cbi, .int .i64 idxb, .slice aobs lbs cbs, .slice aobp lbp cbp] 27)).cell? ⟨w.heap.size + 1, 1, none⟩ = some (.string proda) := by rw [cell_of_row _ _ 1 _ _ _ HR2.out]; rfl
  have a2 : ((w.alloc (.cells #[.string ida, .string proda, .int .i64 qa, .string hola, .slice aoau lau cau, .slice aoai lia cai, .int .i64 idxa, .slice aoas las cas, .slice aoap lap cap] 27)).alloc (.cells #[.string ida, .string proda, .int .i64 qb, .string holb, .slice aobu lbu cbu, .slice aobi lib cbi, .int .i64 idxb, .slice aobs lbs cbs, .slice aobp lbp cbp] 27)).cell? ⟨w.heap.size, 2, none⟩ = some (.int .i64 qa) := by rw [cell_of_row _ _ 2 _ _ _ HR1.out]; rfl
  have b2 : ((w.alloc (.cells #[.string ida, .string proda, .int .i64 qa, .string hola, .slice aoau lau cau, .slice aoai lia cai, .int .i64 idxa, .slice aoas las cas, .slice aoap lap cap] 27)).alloc (.cells #[.string ida, .string proda, .int .i64 qb, .string holb, .slice aobu lbu cbu, .slice aobi lib cbi, .int .i64 idxb, .slice aobs lbs cbs, .slice aobp lbp cbp] 27)).cell? ⟨w.heap.size + 1, 2, none⟩ = some (.int .i64 qb) := by rw [cell_of_row _ _ 2 _ _ _ HR2.out]; rfl
  have a3 : ((w.alloc (.cells #[.string ida, .string proda, .int .i64 qa, .string hola, .slice aoau lau cau, .slice aoai lia cai, .int .i64 idxa, .slice aoas las cas, .slice aoap lap cap] 27)).alloc (.cells #[.string ida, .string proda, .int .i64 qb, .string holb, .slice aobu lbu cbu, .slice aobi lib cbi, .int .i64 idxb, .slice aobs lbs cbs, .slice aobp lbp cbp] 27)).cell? ⟨w.heap.size, 3, none⟩ = some (.string hola) := by rw [cell_of_row _ _ 3 _ _ _ HR1.out]; rfl
  have b3 : ((w.alloc (.cells #[.string ida, .string proda, .int .i64 qa, .string hola, .slice aoau lau cau, .slice aoai lia cai, .int .i64 idxa, .slice aoas las cas, .slice aoap lap cap] 27)).alloc (.cells #[.string ida, .string proda, .int .i64 qb, .string holb, .slice aobu lbu cbu, .slice aobi lib cbi, .int .i64 idxb, .slice aobs lbs cbs, .slice aobp lbp cbp] 27)).cell? ⟨w.heap.size + 1, 3, none⟩ = some (.string holb) := by rw [cell_of_row _ _ 3 _ _ _ HR2.out]; rfl
  have a4 : ((w.alloc (.cells #[.string ida, .string proda, .int .i64 qa, .string hola, .slice aoau lau cau, .slice aoai lia cai, .int .i64 idxa, .slice aoas las cas, .slice aoap lap cap] 27)).alloc (.cells #[.string ida, .string proda, .int .i64 qb, .string holb, .slice aobu lbu cbu, .slice aobi lib cbi, .int .i64 idxb, .slice aobs lbs cbs, .slice aobp lbp cbp] 27)).cell? ⟨w.heap.size, 4, none⟩ = some (.slice aoau lau cau) := by rw [cell_of_row _ _ 4 _ _ _ HR1.out]; rfl
  have b4 : ((w.alloc (.cells #[.string ida, .string proda, .int .i64 qa, .string hola, .slice aoau lau cau, .slice aoai lia cai, .int .i64 idxa, .slice aoas las cas, .slice aoap lap cap] 27)).alloc (.cells #[.string ida, .string proda, .int .i64 qb, .string holb, .slice aobu lbu cbu, .slice aobi lib cbi, .int .i64 idxb, .slice aobs lbs cbs, .slice aobp lbp cbp] 27)).cell? ⟨w.heap.size + 1, 4, none⟩ = some (.slice aobu lbu cbu) := by rw [cell_of_row _ _ 4 _ _ _ HR2.out]; rfl
  have a5 : ((w.alloc (.cells #[.string ida, .string proda, .int .i64 qa, .string hola, .slice aoau lau cau, .slice aoai lia cai, .int .i64 idxa, .slice aoas las cas, .slice aoap lap cap] 27)).alloc (.cells #[.string ida, .string proda, .int .i64 qb, .string holb, .slice aobu lbu cbu, .slice aobi lib cbi, .int .i64 idxb, .slice aobs lbs cbs, .slice aobp lbp cbp] 27)).cell? ⟨w.heap.size, 5, none⟩ = some (.slice aoai lia cai) := by rw [cell_of_row _ _ 5 _ _ _ HR1.out]; rfl
  have b5 : ((w.alloc (.cells #[.string ida, .string proda, .int .i64 qa, .string hola, .slice aoau lau cau, .slice aoai lia cai, .int .i64 idxa, .slice aoas las cas, .slice aoap lap cap] 27)).alloc (.cells #[.string ida, .string proda, .int .i64 qb, .string holb, .slice aobu lbu cbu, .slice aobi lib cbi, .int .i64 idxb, .slice aobs lbs cbs, .slice aobp lbp cbp] 27)).cell? ⟨w.heap.size + 1, 5, none⟩ = some (.slice aobi lib cbi) := by rw [cell_of_row _ _ 5 _ _ _ HR2.out]; rfl
  go_enter Tryz.func8, Tryz.ntmps8
  go_wp2
  go_ret
  exact ⟨congrArg (fun b => Ending.returned (Value.bool b)) HF.out.symm, HB1.out⟩
 subst h2
 by_cases h3 : hola = holb
 rotate_left
 ·have HF := Lib.hid (same_no (a := ⟨ida, proda, qa, hola, usesa, inpa, idxa, siga, patha⟩) (b := ⟨ida, proda, qa, holb, usesb, inpb, idxb, sigb, pathb⟩) (fun hx => h3 hx.2.2.2.1))
  have e3 : (hola.toList == holb.toList) = false := strne h3
  clear h3
  obtain ⟨hr1, hr2, hb1⟩ := two_boxes w #[.string ida, .string proda, .int .i64 qa, .string hola, .slice aoau lau cau, .slice aoai lia cai, .int .i64 idxa, .slice aoas las cas, .slice aoap lap cap] #[.string ida, .string proda, .int .i64 qa, .string holb, .slice aobu lbu cbu, .slice aobi lib cbi, .int .i64 idxb, .slice aobs lbs cbs, .slice aobp lbp cbp] 27 27
  have HR1 := Lib.hid hr1
  have HR2 := Lib.hid hr2
  have HB1 := Lib.hid hb1
  have HAU := Lib.hid (hau.on hb1)
  have HAI := Lib.hid (hai.on hb1)
  have HBU := Lib.hid (hbu.on hb1)
  have HBI := Lib.hid (hbi.on hb1)
  clear hr1 hr2 hb1 hau hai hbu hbi
  have a0 : ((w.alloc (.cells #[.string ida, .string proda, .int .i64 qa, .string hola, .slice aoau lau cau, .slice aoai lia cai, .int .i64 idxa, .slice aoas las cas, .slice aoap lap cap] 27)).alloc (.cells #[.string ida, .string proda, .int .i64 qa, .string holb, .slice aobu lbu cbu, .slice aobi lib cbi, .int .i64 idxb, .slice aobs lbs cbs, .slice aobp lbp cbp] 27)).cell? ⟨w.heap.size, 0, none⟩ = some (.string ida) := by rw [cell_of_row _ _ 0 _ _ _ HR1.out]; rfl
  have b0 : ((w.alloc (.cells #[.string ida, .string proda, .int .i64 qa, .string hola, .slice aoau lau cau, .slice aoai lia cai, .int .i64 idxa, .slice aoas las cas, .slice aoap lap cap] 27)).alloc (.cells #[.string ida, .string proda, .int .i64 qa, .string holb, .slice aobu lbu cbu, .slice aobi lib cbi, .int .i64 idxb, .slice aobs lbs cbs, .slice aobp lbp cbp] 27)).cell? ⟨w.heap.size + 1, 0, none⟩ = some (.string ida) := by rw [cell_of_row _ _ 0 _ _ _ HR2.out]; rfl
  have a1 : ((w.alloc (.cells #[.string ida, .string proda, .int .i64 qa, .string hola, .slice aoau lau cau, .slice aoai lia cai, .int .i64 idxa, .slice aoas las cas, .slice aoap lap cap] 27)).alloc (.cells #[.string ida, .string proda, .int .i64 qa, .string holb, .slice aobu lbu cbu, .slice aobi lib cbi, .int .i64 idxb, .slice aobs lbs cbs, .slice aobp lbp cbp] 27)).cell? ⟨w.heap.size, 1, none⟩ = some (.string proda) := by rw [cell_of_row _ _ 1 _ _ _ HR1.out]; rfl
  have b1 : ((w.alloc (.cells #[.string ida, .string proda, .int .i64 qa, .string hola, .slice aoau lau cau, .slice aoai lia cai, .int .i64 idxa, .slice aoas las cas, .slice aoap lap cap] 27)).alloc (.cells #[.string ida, .string proda, .int .i64 qa, .string holb, .slice aobu lbu cbu, .slice aobi lib cbi, .int .i64 idxb, .slice aobs lbs cbs, .slice aobp lbp cbp] 27)).cell? ⟨w.heap.size + 1, 1, none⟩ = some (.string proda) := by rw [cell_of_row _ _ 1 _ _ _ HR2.out]; rfl
  have a2 : ((w.alloc (.cells #[.string ida, .string proda, .int .i64 qa, .string hola, .slice aoau lau cau, .slice aoai lia cai, .int .i64 idxa, .slice aoas las cas, .slice aoap lap cap] 27)).alloc (.cells #[.string ida, .string proda, .int .i64 qa, .string holb, .slice aobu lbu cbu, .slice aobi lib cbi, .int .i64 idxb, .slice aobs lbs cbs, .slice aobp lbp cbp] 27)).cell? ⟨w.heap.size, 2, none⟩ = some (.int .i64 qa) := by rw [cell_of_row _ _ 2 _ _ _ HR1.out]; rfl
  have b2 : ((w.alloc (.cells #[.string ida, .string proda, .int .i64 qa, .string hola, .slice aoau lau cau, .slice aoai lia cai, .int .i64 idxa, .slice aoas las cas, .slice aoap lap cap] 27)).alloc (.cells #[.string ida, .string proda, .int .i64 qa, .string holb, .slice aobu lbu cbu, .slice aobi lib cbi, .int .i64 idxb, .slice aobs lbs cbs, .slice aobp lbp cbp] 27)).cell? ⟨w.heap.size + 1, 2, none⟩ = some (.int .i64 qa) := by rw [cell_of_row _ _ 2 _ _ _ HR2.out]; rfl
  have a3 : ((w.alloc (.cells #[.string ida, .string proda, .int .i64 qa, .string hola, .slice aoau lau cau, .slice aoai lia cai, .int .i64 idxa, .slice aoas las cas, .slice aoap lap cap] 27)).alloc (.cells #[.string ida, .string proda, .int .i64 qa, .string holb, .slice aobu lbu cbu, .slice aobi lib cbi, .int .i64 idxb, .slice aobs lbs cbs, .slice aobp lbp cbp] 27)).cell? ⟨w.heap.size, 3, none⟩ = some (.string hola) := by rw [cell_of_row _ _ 3 _ _ _ HR1.out]; rfl
  have b3 : ((w.alloc (.cells #[.string ida, .string proda, .int .i64 qa, .string hola, .slice aoau lau cau, .slice aoai lia cai, .int .i64 idxa, .slice aoas las cas, .slice aoap lap cap] 27)).alloc (.cells #[.string ida, .string proda, .int .i64 qa, .string holb, .slice aobu lbu cbu, .slice aobi lib cbi, .int .i64 idxb, .slice aobs lbs cbs, .slice aobp lbp cbp] 27)).cell? ⟨w.heap.size + 1, 3, none⟩ = some (.string holb) := by rw [cell_of_row _ _ 3 _ _ _ HR2.out]; rfl
  have a4 : ((w.alloc (.cells #[.string ida, .string proda, .int .i64 qa, .string hola, .slice aoau lau cau, .slice aoai lia cai, .int .i64 idxa, .slice aoas las cas, .slice aoap lap cap] 27)).alloc (.cells #[.string ida, .string proda, .int .i64 qa, .string holb, .slice aobu lbu cbu, .slice aobi lib cbi, .int .i64 idxb, .slice aobs lbs cbs, .slice aobp lbp cbp] 27)).cell? ⟨w.heap.size, 4, none⟩ = some (.slice aoau lau cau) := by rw [cell_of_row _ _ 4 _ _ _ HR1.out]; rfl
  have b4 : ((w.alloc (.cells #[.string ida, .string proda, .int .i64 qa, .string hola, .slice aoau lau cau, .slice aoai lia cai, .int .i64 idxa, .slice aoas las cas, .slice aoap lap cap] 27)).alloc (.cells #[.string ida, .string proda, .int .i64 qa, .string holb, .slice aobu lbu cbu, .slice aobi lib cbi, .int .i64 idxb, .slice aobs lbs cbs, .slice aobp lbp cbp] 27)).cell? ⟨w.heap.size + 1, 4, none⟩ = some (.slice aobu lbu cbu) := by rw [cell_of_row _ _ 4 _ _ _ HR2.out]; rfl
  have a5 : ((w.alloc (.cells #[.string ida, .string proda, .int .i64 qa, .string hola, .slice aoau lau cau, .slice aoai lia cai, .int .i64 idxa, .slice aoas las cas, .slice aoap lap cap] 27)).alloc (.cells #[.string ida, .string proda, .int .i64 qa, .string holb, .slice aobu lbu cbu, .slice aobi lib cbi, .int .i64 idxb, .slice aobs lbs cbs, .slice aobp lbp cbp] 27)).cell? ⟨w.heap.size, 5, none⟩ = some (.slice aoai lia cai) := by rw [cell_of_row _ _ 5 _ _ _ HR1.out]; rfl
  have b5 : ((w.alloc (.cells #[.string ida, .string proda, .int .i64 qa, .string hola, .slice aoau lau cau, .slice aoai lia cai, .int .i64 idxa, .slice aoas las cas, .slice aoap lap cap] 27)).alloc (.cells #[.string ida, .string proda, .int .i64 qa, .string holb, .slice aobu lbu cbu, .slice aobi lib cbi, .int .i64 idxb, .slice aobs lbs cbs, .slice aobp lbp cbp] 27)).cell? ⟨w.heap.size + 1, 5, none⟩ = some (.slice aobi lib cbi) := by rw [cell_of_row _ _ 5 _ _ _ HR2.out]; rfl
  go_enter Tryz.func8, Tryz.ntmps8
  go_wp2
  go_ret
  exact ⟨congrArg (fun b => Ending.returned (Value.bool b)) HF.out.symm, HB1.out⟩
 subst h3
 by_cases h4 : usesa = usesb
 rotate_left
 ·have HF := Lib.hid (same_no (a := ⟨ida, proda, qa, hola, usesa, inpa, idxa, siga, patha⟩) (b := ⟨ida, proda, qa, hola, usesb, inpb, idxb, sigb, pathb⟩) (fun hx => h4 hx.2.2.2.2.1))
  have HU : Hid (sameB usesa usesb = false) := Lib.hid (decide_eq_false h4)
  clear h4
  obtain ⟨hr1, hr2, hb1⟩ := two_boxes w #[.string ida, .string proda, .int .i64 qa, .string hola, .slice aoau lau cau, .slice aoai lia cai, .int .i64 idxa, .slice aoas las cas, .slice aoap lap cap] #[.string ida, .string proda, .int .i64 qa, .string hola, .slice aobu lbu cbu, .slice aobi lib cbi, .int .i64 idxb, .slice aobs lbs cbs, .slice aobp lbp cbp] 27 27
  have HR1 := Lib.hid hr1
  have HR2 := Lib.hid hr2
  have HB1 := Lib.hid hb1
  have HAU := Lib.hid (hau.on hb1)
  have HAI := Lib.hid (hai.on hb1)
  have HBU := Lib.hid (hbu.on hb1)
  have HBI := Lib.hid (hbi.on hb1)
  clear hr1 hr2 hb1 hau hai hbu hbi
  have a0 : ((w.alloc (.cells #[.string ida, .string proda, .int .i64 qa, .string hola, .slice aoau lau cau, .slice aoai lia cai, .int .i64 idxa, .slice aoas las cas, .slice aoap lap cap] 27)).alloc (.cells #[.string ida, .string proda, .int .i64 qa, .string hola, .slice aobu lbu cbu, .slice aobi lib cbi, .int .i64 idxb, .slice aobs lbs cbs, .slice aobp lbp cbp] 27)).cell? ⟨w.heap.size, 0, none⟩ = some (.string ida) := by rw [cell_of_row _ _ 0 _ _ _ HR1.out]; rfl
  have b0 : ((w.alloc (.cells #[.string ida, .string proda, .int .i64 qa, .string hola, .slice aoau lau cau, .slice aoai lia cai, .int .i64 idxa, .slice aoas las cas, .slice aoap lap cap] 27)).alloc (.cells #[.string ida, .string proda, .int .i64 qa, .string hola, .slice aobu lbu cbu, .slice aobi lib cbi, .int .i64 idxb, .slice aobs lbs cbs, .slice aobp lbp cbp] 27)).cell? ⟨w.heap.size + 1, 0, none⟩ = some (.string ida) := by rw [cell_of_row _ _ 0 _ _ _ HR2.out]; rfl
  have a1 : ((w.alloc (.cells #[.string ida, .string proda, .int .i64 qa, .string hola, .slice aoau lau cau, .slice aoai lia cai, .int .i64 idxa, .slice aoas las cas, .slice aoap lap cap] 27)).alloc (.cells #[.string ida, .string proda, .int .i64 qa, .string hola, .slice aobu lbu cbu, .slice aobi lib cbi, .int .i64 idxb, .slice aobs lbs cbs, .slice aobp lbp cbp] 27)).cell? ⟨w.heap.size, 1, none⟩ = some (.string proda) := by rw [cell_of_row _ _ 1 _ _ _ HR1.out]; rfl
  have b1 : ((w.alloc (.cells #[.string ida, .string proda, .int .i64 qa, .string hola, .slice aoau lau cau, .slice aoai lia cai, .int .i64 idxa, .slice aoas las cas, .slice aoap lap cap] 27)).alloc (.cells #[.string ida, .string proda, .int .i64 qa, .string hola, .slice aobu lbu cbu, .slice aobi lib cbi, .int .i64 idxb, .slice aobs lbs cbs, .slice aobp lbp cbp] 27)).cell? ⟨w.heap.size + 1, 1, none⟩ = some (.string proda) := by rw [cell_of_row _ _ 1 _ _ _ HR2.out]; rfl
  have a2 : ((w.alloc (.cells #[.string ida, .string proda, .int .i64 qa, .string hola, .slice aoau lau cau, .slice aoai lia cai, .int .i64 idxa, .slice aoas las cas, .slice aoap lap cap] 27)).alloc (.cells #[.string ida, .string proda, .int .i64 qa, .string hola, .slice aobu lbu cbu, .slice aobi lib cbi, .int .i64 idxb, .slice aobs lbs cbs, .slice aobp lbp cbp] 27)).cell? ⟨w.heap.size, 2, none⟩ = some (.int .i64 qa) := by rw [cell_of_row _ _ 2 _ _ _ HR1.out]; rfl
  have b2 : ((w.alloc (.cells #[.string ida, .string proda, .int .i64 qa, .string hola, .slice aoau lau cau, .slice aoai lia cai, .int .i64 idxa, .slice aoas las cas, .slice aoap lap cap] 27)).alloc (.cells #[.string ida, .string proda, .int .i64 qa, .string hola, .slice aobu lbu cbu, .slice aobi lib cbi, .int .i64 idxb, .slice aobs lbs cbs, .slice aobp lbp cbp] 27)).cell? ⟨w.heap.size + 1, 2, none⟩ = some (.int .i64 qa) := by rw [cell_of_row _ _ 2 _ _ _ HR2.out]; rfl
  have a3 : ((w.alloc (.cells #[.string ida, .string proda, .int .i64 qa, .string hola, .slice aoau lau cau, .slice aoai lia cai, .int .i64 idxa, .slice aoas las cas, .slice aoap lap cap] 27)).alloc (.cells #[.string ida, .string proda, .int .i64 qa, .string hola, .slice aobu lbu cbu, .slice aobi lib cbi, .int .i64 idxb, .slice aobs lbs cbs, .slice aobp lbp cbp] 27)).cell? ⟨w.heap.size, 3, none⟩ = some (.string hola) := by rw [cell_of_row _ _ 3 _ _ _ HR1.out]; rfl
  have b3 : ((w.alloc (.cells #[.string ida, .string proda, .int .i64 qa, .string hola, .slice aoau lau cau, .slice aoai lia cai, .int .i64 idxa, .slice aoas las cas, .slice aoap lap cap] 27)).alloc (.cells #[.string ida, .string proda, .int .i64 qa, .string hola, .slice aobu lbu cbu, .slice aobi lib cbi, .int .i64 idxb, .slice aobs lbs cbs, .slice aobp lbp cbp] 27)).cell? ⟨w.heap.size + 1, 3, none⟩ = some (.string hola) := by rw [cell_of_row _ _ 3 _ _ _ HR2.out]; rfl
  have a4 : ((w.alloc (.cells #[.string ida, .string proda, .int .i64 qa, .string hola, .slice aoau lau cau, .slice aoai lia cai, .int .i64 idxa, .slice aoas las cas, .slice aoap lap cap] 27)).alloc (.cells #[.string ida, .string proda, .int .i64 qa, .string hola, .slice aobu lbu cbu, .slice aobi lib cbi, .int .i64 idxb, .slice aobs lbs cbs, .slice aobp lbp cbp] 27)).cell? ⟨w.heap.size, 4, none⟩ = some (.slice aoau lau cau) := by rw [cell_of_row _ _ 4 _ _ _ HR1.out]; rfl
  have b4 : ((w.alloc (.cells #[.string ida, .string proda, .int .i64 qa, .string hola, .slice aoau lau cau, .slice aoai lia cai, .int .i64 idxa, .slice aoas las cas, .slice aoap lap cap] 27)).alloc (.cells #[.string ida, .string proda, .int .i64 qa, .string hola, .slice aobu lbu cbu, .slice aobi lib cbi, .int .i64 idxb, .slice aobs lbs cbs, .slice aobp lbp cbp] 27)).cell? ⟨w.heap.size + 1, 4, none⟩ = some (.slice aobu lbu cbu) := by rw [cell_of_row _ _ 4 _ _ _ HR2.out]; rfl
  have a5 : ((w.alloc (.cells #[.string ida, .string proda, .int .i64 qa, .string hola, .slice aoau lau cau, .slice aoai lia cai, .int .i64 idxa, .slice aoas las cas, .slice aoap lap cap] 27)).alloc (.cells #[.string ida, .string proda, .int .i64 qa, .string hola, .slice aobu lbu cbu, .slice aobi lib cbi, .int .i64 idxb, .slice aobs lbs cbs, .slice aobp lbp cbp] 27)).cell? ⟨w.heap.size, 5, none⟩ = some (.slice aoai lia cai) := by rw [cell_of_row _ _ 5 _ _ _ HR1.out]; rfl
  have b5 : ((w.alloc (.cells #[.string ida, .string proda, .int .i64 qa, .string hola, .slice aoau lau cau, .slice aoai lia cai, .int .i64 idxa, .slice aoas las cas, .slice aoap lap cap] 27)).alloc (.cells #[.string ida, .string proda, .int .i64 qa, .string hola, .slice aobu lbu cbu, .slice aobi lib cbi, .int .i64 idxb, .slice aobs lbs cbs, .slice aobp lbp cbp] 27)).cell? ⟨w.heap.size + 1, 5, none⟩ = some (.slice aobi lib cbi) := by rw [cell_of_row _ _ 5 _ _ _ HR2.out]; rfl
  go_enter Tryz.func8, Tryz.ntmps8
  go_wp2_with fail
  generalize hgw : ((w.alloc (.cells #[.string ida, .string proda, .int .i64 qa, .string hola, .slice aoau lau cau, .slice aoai lia cai, .int .i64 idxa, .slice aoas las cas, .slice aoap lap cap] 27)).alloc (.cells #[.string ida, .string proda, .int .i64 qa, .string hola, .slice aobu lbu cbu, .slice aobi lib cbi, .int .i64 idxb, .slice aobs lbs cbs, .slice aobp lbp cbp] 27)) = w1 at *
  clear hgw a0 a1 a2 a3 a4 a5 b0 b1 b2 b3 b4 b5
  refine (texts_calls _ _ usesa usesb w1 HAU.out.strs HBU.out.strs).mono ?_
  rintro e w2 ⟨rfl, hq⟩
  rw [HU.out]
  have HB3 := Lib.hid (HB1.out.trans (hq.mono HB1.out.size))
  have HR3 := Lib.hid ((hq.block _ (Array.getElem?_eq_some_iff.1 HR1.out).1).trans HR1.out)
  have HR4 := Lib.hid ((hq.block _ (Array.getElem?_eq_some_iff.1 HR2.out).1).trans HR2.out)
  have HAI3 := Lib.hid (HAI.out.on hq)
  have HBI3 := Lib.hid (HBI.out.on hq)
  clear hq HR1 HR2 HB1 HAU HAI HBU HBI
  have a5 : w2.cell? ⟨w.heap.size, 5, none⟩ = some (.slice aoai lia cai) := by rw [cell_of_row _ _ 5 _ _ _ HR3.out]; rfl
  have b5 : w2.cell? ⟨w.heap.size + 1, 5, none⟩ = some (.slice aobi lib cbi) := by rw [cell_of_row _ _ 5 _ _ _ HR4.out]; rfl
  go_wp2
  go_ret
  exact ⟨congrArg (fun b => Ending.returned (Value.bool b)) HF.out.symm, HB3.out⟩
 have HU : Hid (sameB usesa usesb = true) := Lib.hid (decide_eq_true h4)
 have H4E := Lib.hid h4
 clear h4
 by_cases h5 : lia = lib
 rotate_left
 ·have HF := Lib.hid (same_no (a := ⟨ida, proda, qa, hola, usesa, inpa, idxa, siga, patha⟩) (b := ⟨ida, proda, qa, hola, usesb, inpb, idxb, sigb, pathb⟩) (fun hx => h5 (by rw [HLai.out, HLbi.out]; exact congrArg List.length hx.2.2.2.2.2)))
  have e5 : ((lia : Int) == (lib : Int)) = false := by rw [beq_eq_false_iff_ne]; omega
  obtain ⟨hr1, hr2, hb1⟩ := two_boxes w #[.string ida, .string proda, .int .i64 qa, .string hola, .slice aoau lau cau, .slice aoai lia cai, .int .i64 idxa, .slice aoas las cas, .slice aoap lap cap] #[.string ida, .string proda, .int .i64 qa, .string hola, .slice aobu lbu cbu, .slice aobi lib cbi, .int .i64 idxb, .slice aobs lbs cbs, .slice aobp lbp cbp] 27 27
  have HR1 := Lib.hid hr1
  have HR2 := Lib.hid hr2
  have HB1 := Lib.hid hb1
  have HAU := Lib.hid (hau.on hb1)
  have HAI := Lib.hid (hai.on hb1)
  have HBU := Lib.hid (hbu.on hb1)
  have HBI := Lib.hid (hbi.on hb1)
  clear hr1 hr2 hb1 hau hai hbu hbi
  have a0 : ((w.alloc (.cells #[.string ida, .string proda, .int .i64 qa, .string hola, .slice aoau lau cau, .slice aoai lia cai, .int .i64 idxa, .slice aoas las cas, .slice aoap lap cap] 27)).alloc (.cells #[.string ida, .string proda, .int .i64 qa, .string hola, .slice aobu lbu cbu, .slice aobi lib cbi, .int .i64 idxb, .slice aobs lbs cbs, .slice aobp lbp cbp] 27)).cell? ⟨w.heap.size, 0, none⟩ = some (.string ida) := by rw [cell_of_row _ _ 0 _ _ _ HR1.out]; rfl
  have b0 : ((w.alloc (.cells #[.string ida, .string proda, .int .i64 qa, .string hola, .slice aoau lau cau, .slice aoai lia cai, .int .i64 idxa, .slice aoas las cas, .slice aoap lap cap] 27)).alloc (.cells #[.string ida, .string proda, .int .i64 qa, .string hola, .slice aobu lbu cbu, .slice aobi lib cbi, .int .i64 idxb, .slice aobs lbs cbs, .slice aobp lbp cbp] 27)).cell? ⟨w.heap.size + 1, 0, none⟩ = some (.string ida) := by rw [cell_of_row _ _ 0 _ _ _ HR2.out]; rfl
  have a1 : ((w.alloc (.cells #[.string ida, .string proda, .int .i64 qa, .string hola, .slice aoau lau cau, .slice aoai lia cai, .int .i64 idxa, .slice aoas las cas, .slice aoap lap cap] 27)).alloc (.cells #[.string ida, .string proda, .int .i64 qa, .string hola, .slice aobu lbu cbu, .slice aobi lib cbi, .int .i64 idxb, .slice aobs lbs cbs, .slice aobp lbp cbp] 27)).cell? ⟨w.heap.size, 1, none⟩ = some (.string proda) := by rw [cell_of_row _ _ 1 _ _ _ HR1.out]; rfl
  have b1 : ((w.alloc (.cells #[.string ida, .string proda, .int .i64 qa, .string hola, .slice aoau lau cau, .slice aoai lia cai, .int .i64 idxa, .slice aoas las cas, .slice aoap lap cap] 27)).alloc (.cells #[.string ida, .string proda, .int .i64 qa, .string hola, .slice aobu lbu cbu, .slice aobi lib cbi, .int .i64 idxb, .slice aobs lbs cbs, .slice aobp lbp cbp] 27)).cell? ⟨w.heap.size + 1, 1, none⟩ = some (.string proda) := by rw [cell_of_row _ _ 1 _ _ _ HR2.out]; rfl
  have a2 : ((w.alloc (.cells #[.string ida, .string proda, .int .i64 qa, .string hola, .slice aoau lau cau, .slice aoai lia cai, .int .i64 idxa, .slice aoas las cas, .slice aoap lap cap] 27)).alloc (.cells #[.string ida, .string proda, .int .i64 qa, .string hola, .slice aobu lbu cbu, .slice aobi lib cbi, .int .i64 idxb, .slice aobs lbs cbs, .slice aobp lbp cbp] 27)).cell? ⟨w.heap.size, 2, none⟩ = some (.int .i64 qa) := by rw [cell_of_row _ _ 2 _ _ _ HR1.out]; rfl
  have b2 : ((w.alloc (.cells #[.string ida, .string proda, .int .i64 qa, .string hola, .slice aoau lau cau, .slice aoai lia cai, .int .i64 idxa, .slice aoas las cas, .slice aoap lap cap] 27)).alloc (.cells #[.string ida, .string proda, .int .i64 qa, .string hola, .slice aobu lbu cbu, .slice aobi lib cbi, .int .i64 idxb, .slice aobs lbs cbs, .slice aobp lbp cbp] 27)).cell? ⟨w.heap.size + 1, 2, none⟩ = some (.int .i64 qa) := by rw [cell_of_row _ _ 2 _ _ _ HR2.out]; rfl
  have a3 : ((w.alloc (.cells #[.string ida, .string proda, .int .i64 qa, .string hola, .slice aoau lau cau, .slice aoai lia cai, .int .i64 idxa, .slice aoas las cas, .slice aoap lap cap] 27)).alloc (.cells #[.string ida, .string proda, .int .i64 qa, .string hola, .slice aobu lbu cbu, .slice aobi lib cbi, .int .i64 idxb, .slice aobs lbs cbs, .slice aobp lbp cbp] 27)).cell? ⟨w.heap.size, 3, none⟩ = some (.string hola) := by rw [cell_of_row _ _ 3 _ _ _ HR1.out]; rfl
  have b3 : ((w.alloc (.cells #[.string ida, .string proda, .int .i64 qa, .string hola, .slice aoau lau cau, .slice aoai lia cai, .int .i64 idxa, .slice aoas las cas, .slice aoap lap cap] 27)).alloc (.cells #[.string ida, .string proda, .int .i64 qa, .string hola, .slice aobu lbu cbu, .slice aobi lib cbi, .int .i64 idxb, .slice aobs lbs cbs, .slice aobp lbp cbp] 27)).cell? ⟨w.heap.size + 1, 3, none⟩ = some (.string hola) := by rw [cell_of_row _ _ 3 _ _ _ HR2.out]; rfl
  have a4 : ((w.alloc (.cells #[.string ida, .string proda, .int .i64 qa, .string hola, .slice aoau lau cau, .slice aoai lia cai, .int .i64 idxa, .slice aoas las cas, .slice aoap lap cap] 27)).alloc (.cells #[.string ida, .string proda, .int .i64 qa, .string hola, .slice aobu lbu cbu, .slice aobi lib cbi, .int .i64 idxb, .slice aobs lbs cbs, .slice aobp lbp cbp] 27)).cell? ⟨w.heap.size, 4, none⟩ = some (.slice aoau lau cau) := by rw [cell_of_row _ _ 4 _ _ _ HR1.out]; rfl
  have b4 : ((w.alloc (.cells #[.string ida, .string proda, .int .i64 qa, .string hola, .slice aoau lau cau, .slice aoai lia cai, .int .i64 idxa, .slice aoas las cas, .slice aoap lap cap] 27)).alloc (.cells #[.string ida, .string proda, .int .i64 qa, .string hola, .slice aobu lbu cbu, .slice aobi lib cbi, .int .i64 idxb, .slice aobs lbs cbs, .slice aobp lbp cbp] 27)).cell? ⟨w.heap.size + 1, 4, none⟩ = some (.slice aobu lbu cbu) := by rw [cell_of_row _ _ 4 _ _ _ HR2.out]; rfl
  have a5 : ((w.alloc (.cells #[.string ida, .string proda, .int .i64 qa, .string hola, .slice aoau lau cau, .slice aoai lia cai, .int .i64 idxa, .slice aoas las cas, .slice aoap lap cap] 27)).alloc (.cells #[.string ida, .string proda, .int .i64 qa, .string hola, .slice aobu lbu cbu, .slice aobi lib cbi, .int .i64 idxb, .slice aobs lbs cbs, .slice aobp lbp cbp] 27)).cell? ⟨w.heap.size, 5, none⟩ = some (.slice aoai lia cai) := by rw [cell_of_row _ _ 5 _ _ _ HR1.out]; rfl
  have b5 : ((w.alloc (.cells #[.string ida, .string proda, .int .i64 qa, .string hola, .slice aoau lau cau, .slice aoai lia cai, .int .i64 idxa, .slice aoas las cas, .slice aoap lap cap] 27)).alloc (.cells #[.string ida, .string proda, .int .i64 qa, .string hola, .slice aobu lbu cbu, .slice aobi lib cbi, .int .i64 idxb, .slice aobs lbs cbs, .slice aobp lbp cbp] 27)).cell? ⟨w.heap.size + 1, 5, none⟩ = some (.slice aobi lib cbi) := by rw [cell_of_row _ _ 5 _ _ _ HR2.out]; rfl
  go_enter Tryz.func8, Tryz.ntmps8
  go_wp2_with fail
  generalize hgw : ((w.alloc (.cells #[.string ida, .string proda, .int .i64 qa, .string hola, .slice aoau lau cau, .slice aoai lia cai, .int .i64 idxa, .slice aoas las cas, .slice aoap lap cap] 27)).alloc (.cells #[.string ida, .string proda, .int .i64 qa, .string hola, .slice aobu lbu cbu, .slice aobi lib cbi, .int .i64 idxb, .slice aobs lbs cbs, .slice aobp lbp cbp] 27)) = w1 at *
  clear hgw a0 a1 a2 a3 a4 a5 b0 b1 b2 b3 b4 b5
  refine (texts_calls _ _ usesa usesb w1 HAU.out.strs HBU.out.strs).mono ?_
  rintro e w2 ⟨rfl, hq⟩
  rw [HU.out]
  have HB3 := Lib.hid (HB1.out.trans (hq.mono HB1.out.size))
  have HR3 := Lib.hid ((hq.block _ (Array.getElem?_eq_some_iff.1 HR1.out).1).trans HR1.out)
  have HR4 := Lib.hid ((hq.block _ (Array.getElem?_eq_some_iff.1 HR2.out).1).trans HR2.out)
  have HAI3 := Lib.hid (HAI.out.on hq)
  have HBI3 := Lib.hid (HBI.out.on hq)
  clear hq HR1 HR2 HB1 HAU HAI HBU HBI
  have a5 : w2.cell? ⟨w.heap.size, 5, none⟩ = some (.slice aoai lia cai) := by rw [cell_of_row _ _ 5 _ _ _ HR3.out]; rfl
  have b5 : w2.cell? ⟨w.heap.size + 1, 5, none⟩ = some (.slice aobi lib cbi) := by rw [cell_of_row _ _ 5 _ _ _ HR4.out]; rfl
  go_wp2
  go_ret
  exact ⟨congrArg (fun b => Ending.returned (Value.bool b)) HF.out.symm, HB3.out⟩
 subst h5
 obtain ⟨hr1, hr2, hb1⟩ := two_boxes w #[.string ida, .string proda, .int .i64 qa, .string hola, .slice aoau lau cau, .slice aoai lia cai, .int .i64 idxa, .slice aoas las cas, .slice aoap lap cap] #[.string ida, .string proda, .int .i64 qa, .string hola, .slice aobu lbu cbu, .slice aobi lia cbi, .int .i64 idxb, .slice aobs lbs cbs, .slice aobp lbp cbp] 27 27
 have HR1 := Lib.hid hr1
 have HR2 := Lib.hid hr2
 have HB1 := Lib.hid hb1
 have HAU := Lib.hid (hau.on hb1)
 have HAI := Lib.hid (hai.on hb1)
 have HBU := Lib.hid (hbu.on hb1)
 have HBI := Lib.hid (hbi.on hb1)
 clear hr1 hr2 hb1 hau hai hbu hbi
 have a0 : ((w.alloc (.cells #[.string ida, .string proda, .int .i64 qa, .string hola, .slice aoau lau cau, .slice aoai lia cai, .int .i64 idxa, .slice aoas las cas, .slice aoap lap cap] 27)).alloc (.cells #[.string ida, .string proda, .int .i64 qa, .string hola, .slice aobu lbu cbu, .slice aobi lia cbi, .int .i64 idxb, .slice aobs lbs cbs, .slice aobp lbp cbp] 27)).cell? ⟨w.heap.size, 0, none⟩ = some (.string ida) := by rw [cell_of_row _ _ 0 _ _ _ HR1.out]; rfl
 have b0 : ((w.alloc (.cells #[.string ida, .string proda, .int .i64 qa, .string hola, .slice aoau lau cau, .slice aoai lia cai, .int .i64 idxa, .slice aoas las cas, .slice aoap lap cap] 27)).alloc (.cells #[.string ida, .string proda, .int .i64 qa, .string hola, .slice aobu lbu cbu, .slice aobi lia cbi, .int .i64 idxb, .slice aobs lbs cbs, .slice aobp lbp cbp] 27)).cell? ⟨w.heap.size + 1, 0, none⟩ = some (.string ida) := by rw [cell_of_row _ _ 0 _ _ _ HR2.out]; rfl
 have a1 : ((w.alloc (.cells #[.string ida, .string proda, .int .i64 qa, .string hola, .slice aoau lau cau, .slice aoai lia cai, .int .i64 idxa, .slice aoas las cas, .slice aoap lap cap] 27)).alloc (.cells #[.string ida, .string proda, .int .i64 qa, .string hola, .slice aobu lbu cbu, .slice aobi lia cbi, .int .i64 idxb, .slice aobs lbs cbs, .slice aobp lbp cbp] 27)).cell? ⟨w.heap.size, 1, none⟩ = some (.string proda) := by rw [cell_of_row _ _ 1 _ _ _ HR1.out]; rfl
 have b1 : ((w.alloc (.cells #[.string ida, .string proda, .int .i64 qa, .string hola, .slice aoau lau cau, .slice aoai lia cai, .int .i64 idxa, .slice aoas las cas, .slice aoap lap cap] 27)).alloc (.cells #[.string ida, .string proda, .int .i64 qa, .string hola, .slice aobu lbu cbu, .slice aobi lia cbi, .int .i64 idxb, .slice aobs lbs cbs, .slice aobp lbp cbp] 27)).cell? ⟨w.heap.size + 1, 1, none⟩ = some (.string proda) := by rw [cell_of_row _ _ 1 _ _ _ HR2.out]; rfl
 have a2 : ((w.alloc (.cells #[.string ida, .string proda, .int .i64 qa, .string hola, .slice aoau lau cau, .slice aoai lia cai, .int .i64 idxa, .slice aoas las cas, .slice aoap lap cap] 27)).alloc (.cells #[.string ida, .string proda, .int .i64 qa, .string hola, .slice aobu lbu cbu, .slice aobi lia cbi, .int .i64 idxb, .slice aobs lbs cbs, .slice aobp lbp cbp] 27)).cell? ⟨w.heap.size, 2, none⟩ = some (.int .i64 qa) := by rw [cell_of_row _ _ 2 _ _ _ HR1.out]; rfl
 have b2 : ((w.alloc (.cells #[.string ida, .string proda, .int .i64 qa, .string hola, .slice aoau lau cau, .slice aoai lia cai, .int .i64 idxa, .slice aoas las cas, .slice aoap lap cap] 27)).alloc (.cells #[.string ida, .string proda, .int .i64 qa, .string hola, .slice aobu lbu cbu, .slice aobi lia cbi, .int .i64 idxb, .slice aobs lbs cbs, .slice aobp lbp cbp] 27)).cell? ⟨w.heap.size + 1, 2, none⟩ = some (.int .i64 qa) := by rw [cell_of_row _ _ 2 _ _ _ HR2.out]; rfl
 have a3 : ((w.alloc (.cells #[.string ida, .string proda, .int .i64 qa, .string hola, .slice aoau lau cau, .slice aoai lia cai, .int .i64 idxa, .slice aoas las cas, .slice aoap lap cap] 27)).alloc (.cells #[.string ida, .string proda, .int .i64 qa, .string hola, .slice aobu lbu cbu, .slice aobi lia cbi, .int .i64 idxb, .slice aobs lbs cbs, .slice aobp lbp cbp] 27)).cell? ⟨w.heap.size, 3, none⟩ = some (.string hola) := by rw [cell_of_row _ _ 3 _ _ _ HR1.out]; rfl
 have b3 : ((w.alloc (.cells #[.string ida, .string proda, .int .i64 qa, .string hola, .slice aoau lau cau, .slice aoai lia cai, .int .i64 idxa, .slice aoas las cas, .slice aoap lap cap] 27)).alloc (.cells #[.string ida, .string proda, .int .i64 qa, .string hola, .slice aobu lbu cbu, .slice aobi lia cbi, .int .i64 idxb, .slice aobs lbs cbs, .slice aobp lbp cbp] 27)).cell? ⟨w.heap.size + 1, 3, none⟩ = some (.string hola) := by rw [cell_of_row _ _ 3 _ _ _ HR2.out]; rfl
 have a4 : ((w.alloc (.cells #[.string ida, .string proda, .int .i64 qa, .string hola, .slice aoau lau cau, .slice aoai lia cai, .int .i64 idxa, .slice aoas las cas, .slice aoap lap cap] 27)).alloc (.cells #[.string ida, .string proda, .int .i64 qa, .string hola, .slice aobu lbu cbu, .slice aobi lia cbi, .int .i64 idxb, .slice aobs lbs cbs, .slice aobp lbp cbp] 27)).cell? ⟨w.heap.size, 4, none⟩ = some (.slice aoau lau cau) := by rw [cell_of_row _ _ 4 _ _ _ HR1.out]; rfl
 have b4 : ((w.alloc (.cells #[.string ida, .string proda, .int .i64 qa, .string hola, .slice aoau lau cau, .slice aoai lia cai, .int .i64 idxa, .slice aoas las cas, .slice aoap lap cap] 27)).alloc (.cells #[.string ida, .string proda, .int .i64 qa, .string hola, .slice aobu lbu cbu, .slice aobi lia cbi, .int .i64 idxb, .slice aobs lbs cbs, .slice aobp lbp cbp] 27)).cell? ⟨w.heap.size + 1, 4, none⟩ = some (.slice aobu lbu cbu) := by rw [cell_of_row _ _ 4 _ _ _ HR2.out]; rfl
 have a5 : ((w.alloc (.cells #[.string ida, .string proda, .int .i64 qa, .string hola, .slice aoau lau cau, .slice aoai lia cai, .int .i64 idxa, .slice aoas las cas, .slice aoap lap cap] 27)).alloc (.cells #[.string ida, .string proda, .int .i64 qa, .string hola, .slice aobu lbu cbu, .slice aobi lia cbi, .int .i64 idxb, .slice aobs lbs cbs, .slice aobp lbp cbp] 27)).cell? ⟨w.heap.size, 5, none⟩ = some (.slice aoai lia cai) := by rw [cell_of_row _ _ 5 _ _ _ HR1.out]; rfl
 have b5 : ((w.alloc (.cells #[.string ida, .string proda, .int .i64 qa, .string hola, .slice aoau lau cau, .slice aoai lia cai, .int .i64 idxa, .slice aoas las cas, .slice aoap lap cap] 27)).alloc (.cells #[.string ida, .string proda, .int .i64 qa, .string hola, .slice aobu lbu cbu, .slice aobi lia cbi, .int .i64 idxb, .slice aobs lbs cbs, .slice aobp lbp cbp] 27)).cell? ⟨w.heap.size + 1, 5, none⟩ = some (.slice aobi lia cbi) := by rw [cell_of_row _ _ 5 _ _ _ HR2.out]; rfl
 go_enter Tryz.func8, Tryz.ntmps8
 go_wp2_with fail
 generalize hgw : ((w.alloc (.cells #[.string ida, .string proda, .int .i64 qa, .string hola, .slice aoau lau cau, .slice aoai lia cai, .int .i64 idxa, .slice aoas las cas, .slice aoap lap cap] 27)).alloc (.cells #[.string ida, .string proda, .int .i64 qa, .string hola, .slice aobu lbu cbu, .slice aobi lia cbi, .int .i64 idxb, .slice aobs lbs cbs, .slice aobp lbp cbp] 27)) = w1 at *
 clear hgw a0 a1 a2 a3 a4 a5 b0 b1 b2 b3 b4 b5
 refine (texts_calls _ _ usesa usesb w1 HAU.out.strs HBU.out.strs).mono ?_
 rintro e w2 ⟨rfl, hq⟩
 rw [HU.out]
 have HB3 := Lib.hid (HB1.out.trans (hq.mono HB1.out.size))
 have HR3 := Lib.hid ((hq.block _ (Array.getElem?_eq_some_iff.1 HR1.out).1).trans HR1.out)
 have HR4 := Lib.hid ((hq.block _ (Array.getElem?_eq_some_iff.1 HR2.out).1).trans HR2.out)
 have HAI3 := Lib.hid (HAI.out.on hq)
 have HBI3 := Lib.hid (HBI.out.on hq)
 clear hq HR1 HR2 HB1 HAU HAI HBU HBI
 have a5 : w2.cell? ⟨w.heap.size, 5, none⟩ = some (.slice aoai lia cai) := by rw [cell_of_row _ _ 5 _ _ _ HR3.out]; rfl
 have b5 : w2.cell? ⟨w.heap.size + 1, 5, none⟩ = some (.slice aobi lia cbi) := by rw [cell_of_row _ _ 5 _ _ _ HR4.out]; rfl
 go_wp2_with fail
 clear a5 b5
 go_loopw [5] (fun vi W => ∃ i : Nat, vi = .int .i64 (i : Int) ∧ i ≤ lia ∧ Hid (Below w2.heap.size w2 W ∧ ∀ j, j < i → inpa.getD j nilInp = inpb.getD j nilInp)) (fun vi _ => lia - (RowKit.intOf vi).toNat)
 case atStart => exact ⟨0, rfl, by omega, Lib.hid ⟨Below.refl _ _, fun j hj => by omega⟩⟩
 case round =>
  obtain ⟨i, rfl, hi, HI⟩ := hrel
  have HRA : Hid (wr.heap[w.heap.size]? = _) := Lib.hid ((HI.out.1.block _ (Array.getElem?_eq_some_iff.1 HR3.out).1).trans HR3.out)
  have HRB : Hid (wr.heap[w.heap.size + 1]? = _) := Lib.hid ((HI.out.1.block _ (Array.getElem?_eq_some_iff.1 HR4.out).1).trans HR4.out)
  have HBW : Hid (Below w.heap.size w wr) := Lib.hid (HB3.out.trans (HI.out.1.mono HB3.out.size))
  have a5 : wr.cell? ⟨w.heap.size, 5, none⟩ = some (.slice aoai lia cai) := by rw [cell_of_row _ _ 5 _ _ _ HRA.out]; rfl
  have b5 : wr.cell? ⟨w.heap.size + 1, 5, none⟩ = some (.slice aobi lia cbi) := by rw [cell_of_row _ _ 5 _ _ _ HRB.out]; rfl
  by_cases hlt : i < lia
  ·obtain ⟨ba, oa, ca, hea, hba, ha1, ha2⟩ := (HAI3.out.on HI.out.1).at i (by rw [← HLai.out]; exact hlt)
   obtain ⟨bb, ob, cb, heb, hbb, hb1, hb2⟩ := (HBI3.out.on HI.out.1).at i (by rw [← HLbi.out]; exact hlt)
   simp only [Value.slice.injEq] at hea heb
   obtain ⟨rfl, hx1, hx2⟩ := hea
   obtain ⟨rfl, hy1, hy2⟩ := heb
   clear hx1 hx2 hy1 hy2
   have hlt' : (i : Int) < (lia : Int) := by omega
   obtain ⟨x, hxE⟩ : ∃ x, x = inpa.getD i nilInp := ⟨_, rfl⟩
   obtain ⟨y, hyE⟩ : ∃ y, y = inpb.getD i nilInp := ⟨_, rfl⟩
   rw [← hxE] at ha1 ha2
   rw [← hyE] at hb1 hb2
   have HX := Lib.hid hxE
   have HY := Lib.hid hyE
   clear hxE hyE
   obtain ⟨x1, x2⟩ := x
   obtain ⟨y1, y2⟩ := y
   simp only [] at ha1 ha2 hb1 hb2
   have hnq := neq_input x1 y1 x2 y2
   by_cases he : x1 = y1 ∧ x2 = y2
   ·obtain ⟨rfl, rfl⟩ := he
    have HN : Hid (∀ j, j < i + 1 → inpa.getD j nilInp = inpb.getD j nilInp) := Lib.hid (fun j hj => by
     rcases Nat.lt_succ_iff_lt_or_eq.1 hj with h | h
     ·exact HI.out.2 j h
     ·subst h; rw [← HX.out, ← HY.out])
    have HI1 := Lib.hid HI.out.1
    clear HI HX HY
    simp only [decide_true, Bool.and_true, Bool.not_true] at hnq
    go_wp2_with fail
    go_quiet (fail)
    clear a5 b5 ha1 ha2 hb1 hb2 hnq
    go_wp2
    go_round
    case rel => exact ⟨i + 1, by go_num, by omega, Lib.hid ⟨below_drewN HI1.out _, HN.out⟩⟩
    case measure => simp only [RowKit.intOf]; omega
   ·have HF := Lib.hid (same_no (a := ⟨ida, proda, qa, hola, usesa, inpa, idxa, siga, patha⟩) (b := ⟨ida, proda, qa, hola, usesb, inpb, idxb, sigb, pathb⟩) (fun hx => he (by
     have e := hx.2.2.2.2.2
     have e2 : inpa = inpb := e
     have e3 := HX.out.trans ((congrArg (fun l : List (ByteArray × Int) => l.getD i nilInp) e2).trans HY.out.symm)
     exact Prod.mk.inj e3)))
    have hd : (!(decide (x1 = y1) && decide (x2 = y2))) = true := by
     by_cases h1 : x1 = y1
     ·have h2 : ¬ x2 = y2 := fun h2 => he ⟨h1, h2⟩
      simp [h2]
     ·simp [h1]
    rw [hd] at hnq
    clear HI HX HY he hd
    go_wp2_with fail
    go_quiet (fail)
    go_wp2
    go_ret
    exact ⟨congrArg (fun b => Ending.returned (Value.bool b)) HF.out.symm, below_drewN HBW.out _⟩
  ·have HF : Hid (sameSt ⟨ida, proda, qa, hola, usesa, inpa, idxa, siga, patha⟩ ⟨ida, proda, qa, hola, usesb, inpb, idxb, sigb, pathb⟩ = true) := Lib.hid (by
    have e : inpa = inpb := List.ext_getElem (HLai.out.symm.trans HLbi.out) fun j h1 h2 => by
     have := HI.out.2 j (by have := HLai.out; omega)
     simpa [List.getD, List.getElem?_eq_getElem h1, List.getElem?_eq_getElem h2] using this
    unfold sameSt
    rw [H4E.out, e]; simp)
   clear HI
   go_wp2
   go_ret
   exact ⟨congrArg (fun b => Ending.returned (Value.bool b)) HF.out.symm, HBW.out⟩
end Go.Proofs.YtnkepmfgmfeabaaGreatDoor
set_option linter.unusedVariables false
set_option linter.unusedSimpArgs false
namespace Go.Proofs.YtnkepmfgmfeabaaGreatDoor
open Go Go.RowKit
namespace Av

/-! The elder contracts, in the engine's words. -/
theorem strs_c {w : World} {imm : Nat → Prop} (hi : ∀ b, imm b → b < w.heap.size) {l : List ByteArray} {v : Value} (h : PRep w imm (strsP l) v) : IsStrC w v l := by
 simp only [strsP, PRep, List.length_map] at h
 obtain ⟨ao, cap, h1, h2, h3, h4⟩ := h
 refine ⟨ao, cap, h1, h2, h3, fun i hlt => ?_⟩
 rcases h4 with h4 | ⟨b, o, rfl, h5, h6⟩
 ·simp at h4; subst h4; simp at hlt
 ·refine ⟨b, o, rfl, hi b h5, ?_⟩
  have := (h6.get (i := i) (by simpa using hlt)).2
  rw [show (l.map fun s => [PD.v (.string s)]).getD i [] = [.v (.string (l.getD i ByteArray.empty))] by simp [List.getD, hlt]] at this
  simp only [PCells, PRep, Nat.mul_one] at this
  obtain ⟨⟨_, c, h7, rfl, _⟩, _⟩ := this
  exact h7
theorem inps_c {w : World} {imm : Nat → Prop} (hi : ∀ b, imm b → b < w.heap.size) {l : List (ByteArray × Int)} {v : Value} (h : PRep w imm (inpsP l) v) : IsInp w v l := by
 simp only [inpsP, PRep, List.length_map] at h
 obtain ⟨ao, cap, h1, h2, h3, h4⟩ := h
 refine ⟨ao, cap, h1, h2, h3, fun i hlt => ?_⟩
 rcases h4 with h4 | ⟨b, o, rfl, h5, h6⟩
 ·simp at h4; subst h4; simp at hlt
 ·have := (h6.get (i := i) (by simpa using hlt)).2
  rw [show (l.map fun x => [PD.v (.string x.1), PD.v (.int .i64 x.2)]).getD i [] = [.v (.string (l.getD i nilInp).1), .v (.int .i64 (l.getD i nilInp).2)] by simp [List.getD, hlt]] at this
  simp only [PCells, PRep] at this
  obtain ⟨⟨_, c, h7, rfl, _⟩, ⟨_, c2, h8, rfl, _⟩, _⟩ := this
  exact ⟨b, o, rfl, hi b h5, h7, h8⟩
theorem imm_lt {s : St} {b : Nat} (h : s.imm b) : b < s.w.heap.size := h.1
theorem arr1 {vs : Array Value} {a : Value} (h : vs.toList = [a]) : vs = #[a] := Array.toList_inj.1 h
/-- the arguments, written out -/
theorem args_str {s : St} {r : List AV} {x : ByteArray} {vs : List Value} (h : RepL s (.d (.v (.string x)) :: r) vs) : ∃ t, vs = .string x :: t ∧ RepL s r t ∧ x.size ≤ 9223372036854775807 := by
 simp only [RepL, Rep, PRep] at h
 obtain ⟨_, t, rfl, ⟨rfl, h1⟩, h2⟩ := h
 exact ⟨t, rfl, h2, h1⟩
theorem args_int {s : St} {r : List AV} {k : IntKind} {n : Int} {vs : List Value} (h : RepL s (.d (.v (.int k n)) :: r) vs) : ∃ t, vs = .int k n :: t ∧ RepL s r t := by
 simp only [RepL, Rep, PRep] at h
 obtain ⟨_, t, rfl, ⟨rfl, h1⟩, h2⟩ := h
 exact ⟨t, rfl, h2⟩
theorem args_strs {s : St} {r : List AV} {l : List ByteArray} {vs : List Value} (h : RepL s (.d (strsP l) :: r) vs) : ∃ v t, vs = v :: t ∧ IsStrC s.w v l ∧ RepL s r t := by
 simp only [RepL, Rep] at h
 obtain ⟨v, t, rfl, h1, h2⟩ := h
 exact ⟨v, t, rfl, strs_c (fun b => imm_lt) h1, h2⟩
theorem args_nil {s : St} {vs : List Value} (h : RepL s [] vs) : vs = [] := by simpa only [RepL] using h
theorem args_stm {s : St} {r : List AV} {x : Stm} {vs : List Value} (h : RepL s (.agg ((stmC x).map .d) :: r) vs) : ∃ vu vi ws wp t, vs = .agg (stmCells x vu vi ws wp) :: t ∧ StmAt s.w x vu vi ws wp ∧ RepL s r t := by
 simp only [RepL] at h
 obtain ⟨v, t, rfl, h1, h2⟩ := h
 simp only [Rep, stmC, List.map_cons, List.map_nil] at h1
 obtain ⟨c, rfl, h1⟩ := h1
 obtain ⟨t1, e1, h1, _⟩ := args_str h1
 obtain ⟨t2, e2, h1, _⟩ := args_str h1
 obtain ⟨t3, e3, h1⟩ := args_int h1
 obtain ⟨t4, e4, h1, _⟩ := args_str h1
 obtain ⟨vu, t5, e5, hu, h1⟩ := args_strs h1
 simp only [RepL, Rep] at h1
 obtain ⟨vi, t6, e6, hi, h1⟩ := h1
 have h1 : RepL s [.d (.v (.int .i64 x.idx)), .d (strsP x.sig), .d (strsP x.path)] t6 := by simp only [RepL, Rep]; exact h1
 obtain ⟨t7, e7, h1⟩ := args_int h1
 obtain ⟨ws, t8, e8, hs, h1⟩ := args_strs h1
 obtain ⟨wp, t9, e9, hp, h1⟩ := args_strs h1
 have e10 := args_nil h1
 subst e10 e9 e8 e7 e6 e5 e4 e3 e2
 refine ⟨vu, vi, ws, wp, t, ?_, ⟨hu, inps_c (fun b => imm_lt) hi, hs, hp⟩, h2⟩
 congr 2
 exact Array.toList_inj.1 e1
theorem pure_scalar {P : Program} {base : World} {f : FuncId} {args : List AV} {x : Value} (hcall : ∀ (vs : Array Value) (w : World), (callFunc f vs).run P w = .ok (.enter f vs) w) (hx : small x)
  (h : ∀ (s : St) (vs : Array Value), Sim base s → RepL s args vs.toList → Calls P f vs s.w fun e w' => e = .returned x ∧ Below s.w.heap.size s.w w') : PureA P base f args (.d (.v x)) :=
 pure_of_calls hcall fun s vs hs ha => (h s vs hs ha).mono fun e w' ⟨h1, h2⟩ => ⟨x, h1, h2, by simp only [PRep]; exact ⟨trivial, hx⟩⟩
section
variable {base : World} (hT : Tabs base)
theorem tabs_s {s : St} (hs : Sim base s) (hT : Tabs base) : Tabs s.w := hT.on hs.below
theorem decimal_a (base : World) (n : Nat) (hn : n ≤ 9223372036854775807) : PureA Tryz.prog base 30 [.d (.v (.int .i64 (n : Int)))] (.d (.v (.string (decS n)))) :=
 pure_scalar Tryz.call30 (by have := decS_size n hn; show _ ≤ _; omega) fun s vs hs ha => by
  obtain ⟨t, e, ha⟩ := args_int ha
  rw [args_nil ha] at e
  rw [arr1 e]
  exact (decimal_calls n hn s.w).mono fun e w' ⟨h1, h2⟩ => ⟨h1, by rw [h2]; exact Below.refl _ _⟩
include hT in
theorem list_a (l : List ByteArray) (hJ : (joinB l).length ≤ 140737488355328) : PureA Tryz.prog base 32 [.d (strsP l)] (.d (.v (.string (dg l)))) :=
 pure_scalar Tryz.call32 (by show (dg l).size ≤ _; have : (dg l).size = 16 := sumS_size _; omega) fun s vs hs ha => by
  obtain ⟨v, t, e, hv, ha⟩ := args_strs ha
  rw [args_nil ha] at e
  rw [arr1 e]
  exact list_calls v l s.w hv.strs hJ (tabs_s hs hT)
theorem is_a (base : World) (t : ByteArray) (ht : t.size ≤ 4611686018427387904) : PureA Tryz.prog base 38 [.d (.v (.string t))] (.d (.v (.bool (isS t)))) :=
 pure_scalar Tryz.call38 trivial fun s vs hs ha => by
  obtain ⟨_, e, ha, _⟩ := args_str ha
  rw [args_nil ha] at e
  rw [arr1 e]
  exact is_calls t ht s.w
theorem proper_a (base : World) (x : Stm) (hZ : x.Sized 4611686018427387904) : PureA Tryz.prog base 42 [.agg ((stmC x).map .d)] (.d (.v (.bool (properB x)))) :=
 pure_scalar Tryz.call42 trivial fun s vs hs ha => by
  obtain ⟨vu, vi, ws, wp, t, e, hS, ha⟩ := args_stm ha
  rw [args_nil ha] at e
  rw [arr1 e]
  exact eproper_calls x vu vi ws wp s.w hS hZ
theorem short_a (base : World) (x : Stm) (hZ : x.Sized 9223372036854775807) : PureA Tryz.prog base 6 [.agg ((stmC x).map .d)] (.d (.v (.bool (shortS x)))) :=
 pure_scalar Tryz.call6 trivial fun s vs hs ha => by
  obtain ⟨vu, vi, ws, wp, t, e, hS, ha⟩ := args_stm ha
  rw [args_nil ha] at e
  rw [arr1 e]
  exact short29_calls x vu vi ws wp s.w hS hZ
include hT in
theorem verify_a (pub m : ByteArray) (idx : Int) (sig path : List ByteArray) (hpub : pub.size ≤ 1099511627776) (hm : m.size ≤ 1099511627776) (hss : ∀ s ∈ sig, s.size ≤ 1099511627776) (hps : ∀ s ∈ path, s.size ≤ 1099511627776) :
  PureA Tryz.prog base 78 [.d (.v (.string pub)), .d (.v (.string m)), .agg [.d (.v (.int .i64 idx)), .d (strsP sig), .d (strsP path)]] (.d (.v (.bool (verT pub m idx sig path)))) :=
 pure_scalar Tryz.call78 trivial fun s vs hs ha => by
  obtain ⟨t1, e1, ha, _⟩ := args_str ha
  obtain ⟨t2, rfl, ha, _⟩ := args_str ha
  simp only [RepL] at ha
  obtain ⟨va, t3, rfl, h1, hz⟩ := ha
  simp only [Rep] at h1
  obtain ⟨c, rfl, h1⟩ := h1
  have h1 : RepL s [.d (.v (.int .i64 idx)), .d (strsP sig), .d (strsP path)] c.toList := h1
  obtain ⟨t4, e4, h1⟩ := args_int h1
  obtain ⟨ws, t5, rfl, hsg, h1⟩ := args_strs h1
  obtain ⟨wp, t6, rfl, hpt, h1⟩ := args_strs h1
  rw [args_nil h1] at e4
  rw [hz] at e1
  have e5 : vs = #[.string pub, .string m, .agg c] := Array.toList_inj.1 e1
  have e6 : c = #[.int .i64 idx, ws, wp] := Array.toList_inj.1 e4
  rw [e5, e6]
  exact verify_calls pub m idx ws wp sig path s.w hpub hm hsg hpt hss hps (tabs_s hs hT)
end
end Av
end Go.Proofs.YtnkepmfgmfeabaaGreatDoor
set_option linter.unusedVariables false
set_option linter.unusedSimpArgs false
namespace Go.Proofs.YtnkepmfgmfeabaaGreatDoor
open Go Go.RowKit
namespace Av

theorem pairs_succ {l : List (ByteArray × Int)} {k : Nat} (h : k < l.length) : pairsT (l.take (k + 1)) = pairsT (l.take k) ++ [l[k].1, decI l[k].2] := by
 rw [List.take_succ_eq_append_getElem h]
 unfold pairsT
 rw [List.flatMap_append]
 simp
theorem pairs_len (l : List (ByteArray × Int)) : (pairsT l).length = 2 * l.length := by
 induction l with
 | nil => rfl
 | cons x l ih => simp [pairsT] at *; omega
/-- a row of texts of one's own -/
def rowS (l : List ByteArray) : AObj := .row 9 1 0 (dI (l.map fun s => [.v (.string s)]))
theorem fields_a (base : World) (x : Stm) (hq : 0 ≤ x.q) (hqi : ∀ y ∈ x.inputs, 0 ≤ y.2) (hlu : x.uses.length ≤ 1000000) (hli : x.inputs.length ≤ 1000000) :
  PureA Tryz.prog base 10 [.agg ((stmC x).map .d)] (.d (strsP (fieldsT x))) := by
 refine pure_enter ttOk Tryz.call10 Tryz.func10 rfl fun H hB hb hF => ?_
 rw [Tryz.results10, Tryz.ntmps10]
 simp only [arr_list, List.length_cons, List.length_nil, List.replicate, List.cons_append, List.nil_append, Nat.reduceAdd, Nat.reduceSub]
 simp only [stmC, List.map_cons, List.map_nil, fctL, fctA, fctP, inpsP, fctI_map, fctC, and_true] at hF
 obtain ⟨hF1, hF2, hF3, hF4, hF5, hF6, hF7, hF8, hF9⟩ := hF
 obtain ⟨n, hn⟩ := Int.eq_ofNat_of_zero_le hq
 rw [hn] at hF3
 have hn2 := (small_i64.1 hF3).2
 rw [show stmC x = [.v (.string x.id), .v (.string x.prod), .v (.int .i64 (n : Int)), .v (.string x.holder), strsP x.uses, inpsP x.inputs, .v (.int .i64 x.idx), strsP x.sig, strsP x.path] by unfold stmC; rw [hn]]
 repeat refine aw_seq ?_
 refine aw_run ttOk (by kernel_rfl) (by simp only [erun, eall, estep, avs, tts, Nat.reduceAdd, Nat.reduceMul, Nat.reduceSub, Nat.reduceEqDiff, Nat.reduceLT, Nat.reduceLeDiff, Int.reduceToNat, Int.reduceLE, Int.reduceLT, Int.toNat_natCast, reduceCtorEq, strsP, inpsP] <;> first | with_reducible rfl | rfl) ?_
 repeat refine aw_seq ?_
 refine aw_draw 15 ttOk mixed (by kernel_rfl) (by kernel_rfl) (by kernel_rfl) ?_
 refine ahops_runT 6 (by simp only [hrun, hstep, avs, tts, Nat.reduceAdd, Nat.reduceMul, Nat.reduceSub, Nat.reduceEqDiff, Nat.reduceLT, Nat.reduceLeDiff, Int.reduceToNat, Int.reduceLE, Int.reduceLT, Int.toNat_natCast, reduceCtorEq] <;> first | with_reducible rfl | rfl) ?_
 refine ahops_pure rfl (by simp only [avs] <;> rfl) (decimal_a base n (by omega)) trivial (by simp only [avs] <;> rfl) ?_
 refine ahops_runT 5 (by simp only [hrun, hstep, avs, tts, Nat.reduceAdd, Nat.reduceMul, Nat.reduceSub, Nat.reduceEqDiff, Nat.reduceLT, Nat.reduceLeDiff, Int.reduceToNat, Int.reduceLE, Int.reduceLT, Int.toNat_natCast, reduceCtorEq] <;> first | with_reducible rfl | rfl) ?_
 refine ahops_pure rfl (by simp only [avs] <;> rfl) (decimal_a base x.uses.length (by omega)) trivial (by simp only [avs] <;> rfl) ?_
 refine ahops_runT 2 (by simp only [hrun, hstep, avs, tts, Nat.reduceAdd, Nat.reduceMul, Nat.reduceSub, Nat.reduceEqDiff, Nat.reduceLT, Nat.reduceLeDiff, Int.reduceToNat, Int.reduceLE, Int.reduceLT, Int.toNat_natCast, reduceCtorEq] <;> first | with_reducible rfl | rfl) ?_
 refine ahops_nil ?_
 refine aops_run 0 (by simp only [erun, eall, estep, avs, tts, Nat.reduceAdd, Nat.reduceMul, Nat.reduceSub, Nat.reduceEqDiff, Nat.reduceLT, Nat.reduceLeDiff, Int.reduceToNat, Int.reduceLE, Int.reduceLT, Int.toNat_natCast, reduceCtorEq] <;> first | with_reducible rfl | rfl) ?_
 refine aops_nil ?_
 have b1 : 6 + x.uses.length ≤ 9223372036854775807 := by omega
 have b2 : (6 + x.uses.length) * 16 ≤ 140737488355328 := by omega
 repeat refine aw_seq ?_
 refine aw_run ttOk (by kernel_rfl) (by simp only [erun, eall, estep, avs, tts, Nat.reduceAdd, Nat.reduceMul, Nat.reduceSub, Nat.reduceEqDiff, Nat.reduceLT, Nat.reduceLeDiff, Int.reduceToNat, Int.reduceLE, Int.reduceLT, Int.toNat_natCast, reduceCtorEq, b1, b2] <;> first | with_reducible rfl | rfl) ?_
 repeat refine aw_seq ?_
 refine aw_run ttOk (by kernel_rfl) (by simp only [erun, eall, estep, avs, tts, Nat.reduceAdd, Nat.reduceMul, Nat.reduceSub, Nat.reduceEqDiff, Nat.reduceLT, Nat.reduceLeDiff, Int.reduceToNat, Int.reduceLE, Int.reduceLT, Int.toNat_natCast, reduceCtorEq] <;> first | with_reducible rfl | rfl) ?_
 have hrow : ∀ (u : List ByteArray), [[AV.d (PD.v (.string sStatement))], [.d (.v (.string x.id))], [.d (.v (.string x.prod))], [.d (.v (.string (decS n)))], [.d (.v (.string x.holder))], [.d (.v (.string (decS x.uses.length)))]] ++ (u.map fun s => [PD.v (.string s)]).map (fun it => it.map AV.d) = dI (([sStatement, x.id, x.prod, decS n, x.holder, decS x.uses.length] ++ u).map fun s => [PD.v (.string s)]) := fun u => rfl
 have hfs : fieldsT x = [sStatement, x.id, x.prod, decS n, x.holder, decS x.uses.length] ++ x.uses ++ pairsT x.inputs := by unfold fieldsT decI; rw [hn]; rfl
 generalize hhd : [sStatement, x.id, x.prod, decS n, x.holder, decS x.uses.length] ++ x.uses = hd at hfs
 have hdl : hd.length = 6 + x.uses.length := by rw [← hhd]; simp; omega
 refine aw_block (aw_loop (fun m env H' => ∃ k, m = x.inputs.length - k ∧ k ≤ x.inputs.length ∧ H' = H ++ [.box 27 [.d (.v (.string x.id)), .d (.v (.string x.prod)), .d (.v (.int .i64 (n : Int))), .d (.v (.string x.holder)), .d (strsP x.uses), .d (inpsP x.inputs), .d (.v (.int .i64 x.idx)), .d (strsP x.sig), .d (strsP x.path)], rowS (hd ++ pairsT (x.inputs.take k))] ∧ env = [.undef, .ptr H.length 0, .undef, .ms (H.length + 1) 0 (hd ++ pairsT (x.inputs.take k)).length, .d (.v (.int .i64 (k : Int))), .undef, .undef, .undef, .undef, .undef, .undef, .undef, .undef, .undef, .undef, .undef, .undef, .undef, .undef, .undef, .undef, .undef, .undef, .undef, .undef, .undef, .undef, .undef, .undef, .undef, .undef, .undef, .undef, .undef, .undef, .undef, .undef, .undef, .undef, .undef, .undef, .undef, .undef, .undef, .undef, .undef, .undef]) ?_ ⟨0, rfl, Nat.zero_le _, rfl, rfl⟩ ?_)
 ·refine ⟨?_, .inl ?_⟩
  ·simp [EnvLe, pairsT, hdl]
  ·rw [show x.inputs.take 0 = [] from rfl, show pairsT [] = [] from rfl, List.append_nil, ← hhd]
   rfl
 rintro m env H' ⟨k, rfl, hk, rfl, rfl⟩ hN
 unfold rowS
 repeat refine aw_seq ?_
 refine aw_run ttOk (by kernel_rfl) (by simp only [erun, eall, estep, avs, tts, Nat.reduceAdd, Nat.reduceMul, Nat.reduceSub, Nat.reduceEqDiff, Nat.reduceLT, Nat.reduceLeDiff, Int.reduceToNat, Int.reduceLE, Int.reduceLT, Int.toNat_natCast, reduceCtorEq, strsP, inpsP] <;> first | with_reducible rfl | rfl) ?_
 repeat refine aw_seq ?_
 refine aw_cond rfl rfl (fun hb => ?_) fun hb => ?_
 ·have hlt : k < x.inputs.length := by simpa using hb
  have hix : (0 : Int) ≤ (k : Int) := by omega
  obtain ⟨q, hq⟩ := Int.eq_ofNat_of_zero_le (hqi _ (List.getElem_mem hlt))
  have hq2 : q ≤ 9223372036854775807 := by
   have := (hF6.2 _ (List.getElem_mem hlt)).2
   rw [hq, small_i64] at this
   omega
  have hgd : (x.inputs.map fun x => [PD.v (.string x.1), PD.v (.int .i64 x.2)]).getD k [] = [.v (.string x.inputs[k].1), .v (.int .i64 (q : Int))] := by simp [hlt, hq]
  have hpl := pairs_len (x.inputs.take k)
  rw [List.length_take, Nat.min_eq_left hk] at hpl
  refine aw_skip ?_
  repeat refine aw_seq ?_
  refine aw_block ?_
  repeat refine aw_seq ?_
  refine aw_draw 15 ttOk mixed (by kernel_rfl) (by kernel_rfl) (by kernel_rfl) ?_
  refine ahops_runT 13 (by simp only [hrun, hstep, avs, tts, Nat.reduceAdd, Nat.reduceMul, Nat.reduceSub, Nat.reduceEqDiff, Nat.reduceLT, Nat.reduceLeDiff, Int.reduceToNat, Int.reduceLE, Int.reduceLT, Int.toNat_natCast, reduceCtorEq, hgd, hix, hlt] <;> first | with_reducible rfl | rfl) ?_
  refine ahops_pure rfl (by simp only [avs] <;> rfl) (decimal_a base q hq2) trivial (by simp only [avs] <;> rfl) ?_
  refine ahops_runT 1 (by simp only [hrun, hstep, avs, tts, Nat.reduceAdd, Nat.reduceMul, Nat.reduceSub, Nat.reduceEqDiff, Nat.reduceLT, Nat.reduceLeDiff, Int.reduceToNat, Int.reduceLE, Int.reduceLT, Int.toNat_natCast, reduceCtorEq] <;> first | with_reducible rfl | rfl) ?_
  have b3 : 6 + x.uses.length + 2 * k + 2 ≤ 9223372036854775807 := by omega
  have b4 : (6 + x.uses.length + 2 * k + 2) * 16 ≤ 140737488355328 := by omega
  refine ahops_nil ?_
  refine aops_run 2 (by simp only [erun, eall, estep, avs, tts, Nat.reduceAdd, Nat.reduceMul, Nat.reduceSub, Nat.reduceEqDiff, Nat.reduceLT, Nat.reduceLeDiff, Int.reduceToNat, Int.reduceLE, Int.reduceLT, Int.toNat_natCast, reduceCtorEq, dI_len, hdl, hpl, b3, b4] <;> first | with_reducible rfl | rfl) ?_
  refine aops_nil ?_
  repeat refine aw_seq ?_
  refine aw_run ttOk (by kernel_rfl) (by simp only [erun, eall, estep, avs, tts, Nat.reduceAdd, Nat.reduceMul, Nat.reduceSub, Nat.reduceEqDiff, Nat.reduceLT, Nat.reduceLeDiff, Int.reduceToNat, Int.reduceLE, Int.reduceLT, Int.toNat_natCast, reduceCtorEq, wrap_succ hlt (by omega : x.inputs.length ≤ 9223372036854775807)] <;> first | with_reducible rfl | rfl) ?_
  have hps := pairs_succ hlt
  have hdq : decI x.inputs[k].2 = decS q := by unfold decI; rw [hq]; rfl
  rw [hdq] at hps
  have hl2 : (hd ++ pairsT (x.inputs.take (k + 1))).length = 6 + x.uses.length + 2 * k + 2 := by rw [hps, List.length_append, List.length_append, hdl, hpl]; simp; omega
  refine ⟨x.inputs.length - (k + 1), _, _, by omega, ⟨?_, .inr ⟨by simp, ?_, .more hB (.cons ?_ (.cons (bel_dI _) .nil)), ?_⟩⟩, k + 1, rfl, hlt, rfl, rfl⟩
  ·simp [EnvLe, hl2]
  ·simp [belL, AV.bel]
  ·simp [AObj.bel, belL, AV.bel]
  ·refine ⟨[.row 9 1 0 [[.d (.v (.string x.inputs[k].1))], [.d (.v (.string (decS q)))]]], ?_⟩
   rw [hps]
   simp only [← List.append_assoc, List.map_append, ← dI_app]
   simp only [List.append_assoc]
   rfl
 ·refine aw_exit ?_
  have hkl : k = x.inputs.length := by simp at hb; omega
  subst hkl
  repeat refine aw_seq ?_
  refine aw_run ttOk (by kernel_rfl) (by simp only [erun, eall, estep, avs, tts, Nat.reduceAdd, Nat.reduceMul, Nat.reduceSub, Nat.reduceEqDiff, Nat.reduceLT, Nat.reduceLeDiff, Int.reduceToNat, Int.reduceLE, Int.reduceLT, Int.toNat_natCast, reduceCtorEq] <;> first | with_reducible rfl | rfl) ?_
  refine aw_ret ⟨_, rfl, _, rfl, ?_⟩
  have hpl := pairs_len x.inputs
  rw [List.take_length]
  simp only [avs, sealA, unI_dI, dI_len, hfs, strsP, hpl]
  exact if_neg (by omega)
end Av
end Go.Proofs.YtnkepmfgmfeabaaGreatDoor
set_option linter.unusedVariables false
set_option linter.unusedSimpArgs false
namespace Go.Proofs.YtnkepmfgmfeabaaGreatDoor
open Go Go.RowKit
namespace Av
section
variable {base : World} (hT : Tabs base)
include hT in
theorem itoa_a (n : Nat) (hn : n ≤ 9223372036854775807) : PureA Tryz.prog base 31 [.d (.v (.int .i64 (n : Int)))] (.d (.v (.string (decS n)))) :=
 pure_scalar Tryz.call31 (by have := decS_size n hn; show _ ≤ _; omega) fun s vs hs ha => by
  obtain ⟨t, e, ha⟩ := args_int ha
  rw [args_nil ha] at e
  rw [arr1 e]
  exact (itoa_calls n hn s.w (tabs_s hs hT)).mono fun e w' ⟨h1, h2⟩ => ⟨h1, h2⟩
include hT in
theorem message_a (x : Stm) (hq : 0 ≤ x.q) (hqi : ∀ y ∈ x.inputs, 0 ≤ y.2) (hlu : x.uses.length ≤ 1000000) (hli : x.inputs.length ≤ 1000000) (hJ : (joinB (fieldsT x)).length ≤ 140737488355328) :
  PureA Tryz.prog base 11 [.agg ((stmC x).map .d)] (.d (.v (.string (messT x)))) := by
 refine pure_enter ttOk Tryz.call11 Tryz.func11 rfl fun H hB hb hF => ?_
 rw [Tryz.results11, Tryz.ntmps11]
 simp only [arr_list, List.length_cons, List.length_nil, List.replicate, List.cons_append, List.nil_append, Nat.reduceAdd, Nat.reduceSub]
 simp only [stmC, List.map_cons, List.map_nil, fctL, fctA, fctP, inpsP, fctI_map, fctC, and_true] at hF
 obtain ⟨hF1, hF2, hF3, hF4, hF5, hF6, hF7, hF8, hF9⟩ := hF
 obtain ⟨n, hn⟩ := Int.eq_ofNat_of_zero_le hq
 rw [hn] at hF3
 have hn2 := (small_i64.1 hF3).2
 rw [show stmC x = [.v (.string x.id), .v (.string x.prod), .v (.int .i64 (n : Int)), .v (.string x.holder), strsP x.uses, inpsP x.inputs, .v (.int .i64 x.idx), strsP x.sig, strsP x.path] by unfold stmC; rw [hn]]
 repeat refine aw_seq ?_
 refine aw_run ttOk (by kernel_rfl) (by simp only [erun, eall, estep, avs, tts, Nat.reduceAdd, Nat.reduceMul, Nat.reduceSub, Nat.reduceEqDiff, Nat.reduceLT, Nat.reduceLeDiff, Int.reduceToNat, Int.reduceLE, Int.reduceLT, Int.toNat_natCast, reduceCtorEq, strsP, inpsP] <;> first | with_reducible rfl | rfl) ?_
 have b1 : 6 + x.uses.length ≤ 9223372036854775807 := by omega
 have b2 : (6 + x.uses.length) * 16 ≤ 140737488355328 := by omega
 repeat refine aw_seq ?_
 refine aw_draw 16 ttOk mixed (by kernel_rfl) (by kernel_rfl) (by kernel_rfl) ?_
 refine ahops_runT 6 (by simp only [hrun, hstep, avs, tts, Nat.reduceAdd, Nat.reduceMul, Nat.reduceSub, Nat.reduceEqDiff, Nat.reduceLT, Nat.reduceLeDiff, Int.reduceToNat, Int.reduceLE, Int.reduceLT, Int.toNat_natCast, reduceCtorEq] <;> first | with_reducible rfl | rfl) ?_
 refine ahops_pure rfl (by simp only [avs] <;> rfl) (itoa_a hT n (by omega)) trivial (by simp only [avs] <;> rfl) ?_
 refine ahops_runT 5 (by simp only [hrun, hstep, avs, tts, Nat.reduceAdd, Nat.reduceMul, Nat.reduceSub, Nat.reduceEqDiff, Nat.reduceLT, Nat.reduceLeDiff, Int.reduceToNat, Int.reduceLE, Int.reduceLT, Int.toNat_natCast, reduceCtorEq] <;> first | with_reducible rfl | rfl) ?_
 refine ahops_pure rfl (by simp only [avs] <;> rfl) (itoa_a hT x.uses.length (by omega)) trivial (by simp only [avs] <;> rfl) ?_
 refine ahops_runT 3 (by simp only [hrun, hstep, avs, tts, Nat.reduceAdd, Nat.reduceMul, Nat.reduceSub, Nat.reduceEqDiff, Nat.reduceLT, Nat.reduceLeDiff, Int.reduceToNat, Int.reduceLE, Int.reduceLT, Int.toNat_natCast, reduceCtorEq] <;> first | with_reducible rfl | rfl) ?_
 refine ahops_nil ?_
 refine aops_run 2 (by simp only [erun, eall, estep, avs, tts, Nat.reduceAdd, Nat.reduceMul, Nat.reduceSub, Nat.reduceEqDiff, Nat.reduceLT, Nat.reduceLeDiff, Int.reduceToNat, Int.reduceLE, Int.reduceLT, Int.toNat_natCast, reduceCtorEq, b1, b2] <;> first | with_reducible rfl | rfl) ?_
 refine aops_nil ?_
 repeat refine aw_seq ?_
 refine aw_run ttOk (by kernel_rfl) (by simp only [erun, eall, estep, avs, tts, Nat.reduceAdd, Nat.reduceMul, Nat.reduceSub, Nat.reduceEqDiff, Nat.reduceLT, Nat.reduceLeDiff, Int.reduceToNat, Int.reduceLE, Int.reduceLT, Int.toNat_natCast, reduceCtorEq] <;> first | with_reducible rfl | rfl) ?_
 have hfs : fieldsT x = [sStatement, x.id, x.prod, decS n, x.holder, decS x.uses.length] ++ x.uses ++ pairsT x.inputs := by unfold fieldsT decI; rw [hn]; rfl
 generalize hhd : [sStatement, x.id, x.prod, decS n, x.holder, decS x.uses.length] ++ x.uses = hd at hfs
 have hdl : hd.length = 6 + x.uses.length := by rw [← hhd]; simp; omega
 refine aw_block (aw_loop (fun m env H' => ∃ k, m = x.inputs.length - k ∧ k ≤ x.inputs.length ∧ H' = H ++ [.box 27 [.d (.v (.string x.id)), .d (.v (.string x.prod)), .d (.v (.int .i64 (n : Int))), .d (.v (.string x.holder)), .d (strsP x.uses), .d (inpsP x.inputs), .d (.v (.int .i64 x.idx)), .d (strsP x.sig), .d (strsP x.path)], rowS (hd ++ pairsT (x.inputs.take k))] ∧ env = .undef :: .ptr H.length 0 :: .undef :: .ms (H.length + 1) 0 (hd ++ pairsT (x.inputs.take k)).length :: List.replicate 20 .undef ++ [.d (inpsP x.inputs), .d (.v (.int .i64 (x.inputs.length : Int))), .d (.v (.int .i64 (k : Int)))] ++ List.replicate 14 .undef) ?_ ⟨0, rfl, Nat.zero_le _, rfl, rfl⟩ ?_)
 ·refine ⟨?_, .inl ?_⟩
  ·simp [EnvLe, pairsT, hdl, inpsP, List.replicate]
  ·rw [show x.inputs.take 0 = [] from rfl, show pairsT [] = [] from rfl, List.append_nil, ← hhd]
   rfl
 rintro m env H' ⟨k, rfl, hk, rfl, rfl⟩ hN
 unfold rowS
 simp only [List.replicate, List.cons_append, List.nil_append]
 repeat refine aw_seq ?_
 refine aw_run ttOk (by kernel_rfl) (by simp only [erun, eall, estep, avs, tts, Nat.reduceAdd, Nat.reduceMul, Nat.reduceSub, Nat.reduceEqDiff, Nat.reduceLT, Nat.reduceLeDiff, Int.reduceToNat, Int.reduceLE, Int.reduceLT, Int.toNat_natCast, reduceCtorEq, strsP, inpsP] <;> first | with_reducible rfl | rfl) ?_
 repeat refine aw_seq ?_
 refine aw_cond rfl rfl (fun hb => ?_) fun hb => ?_
 ·have hlt : k < x.inputs.length := by simpa using hb
  have hix : (0 : Int) ≤ (k : Int) := by omega
  obtain ⟨q, hq⟩ := Int.eq_ofNat_of_zero_le (hqi _ (List.getElem_mem hlt))
  have hq2 : q ≤ 9223372036854775807 := by
   have := (hF6.2 _ (List.getElem_mem hlt)).2
   rw [hq, small_i64] at this
   omega
  have hgd : (x.inputs.map fun x => [PD.v (.string x.1), PD.v (.int .i64 x.2)]).getD k [] = [.v (.string x.inputs[k].1), .v (.int .i64 (q : Int))] := by simp [hlt, hq]
  have hpl := pairs_len (x.inputs.take k)
  rw [List.length_take, Nat.min_eq_left hk] at hpl
  refine aw_skip ?_
  repeat refine aw_seq ?_
  refine aw_block ?_
  repeat refine aw_seq ?_
  refine aw_run ttOk (by kernel_rfl) (by simp only [erun, eall, estep, avs, tts, Nat.reduceAdd, Nat.reduceMul, Nat.reduceSub, Nat.reduceEqDiff, Nat.reduceLT, Nat.reduceLeDiff, Int.reduceToNat, Int.reduceLE, Int.reduceLT, Int.toNat_natCast, reduceCtorEq, hgd, hix, hlt] <;> first | with_reducible rfl | rfl) ?_
  repeat refine aw_seq ?_
  refine aw_draw 7 ttOk mixed (by kernel_rfl) (by kernel_rfl) (by kernel_rfl) ?_
  refine ahops_runT 5 (by simp only [hrun, hstep, avs, tts, Nat.reduceAdd, Nat.reduceMul, Nat.reduceSub, Nat.reduceEqDiff, Nat.reduceLT, Nat.reduceLeDiff, Int.reduceToNat, Int.reduceLE, Int.reduceLT, Int.toNat_natCast, reduceCtorEq] <;> first | with_reducible rfl | rfl) ?_
  refine ahops_pure rfl (by simp only [avs] <;> rfl) (itoa_a hT q hq2) trivial (by simp only [avs] <;> rfl) ?_
  refine ahops_runT 1 (by simp only [hrun, hstep, avs, tts, Nat.reduceAdd, Nat.reduceMul, Nat.reduceSub, Nat.reduceEqDiff, Nat.reduceLT, Nat.reduceLeDiff, Int.reduceToNat, Int.reduceLE, Int.reduceLT, Int.toNat_natCast, reduceCtorEq] <;> first | with_reducible rfl | rfl) ?_
  have b3 : 6 + x.uses.length + 2 * k + 2 ≤ 9223372036854775807 := by omega
  have b4 : (6 + x.uses.length + 2 * k + 2) * 16 ≤ 140737488355328 := by omega
  refine ahops_nil ?_
  refine aops_run 2 (by simp only [erun, eall, estep, avs, tts, Nat.reduceAdd, Nat.reduceMul, Nat.reduceSub, Nat.reduceEqDiff, Nat.reduceLT, Nat.reduceLeDiff, Int.reduceToNat, Int.reduceLE, Int.reduceLT, Int.toNat_natCast, reduceCtorEq, dI_len, hdl, hpl, b3, b4] <;> first | with_reducible rfl | rfl) ?_
  refine aops_nil ?_
  repeat refine aw_seq ?_
  refine aw_run ttOk (by kernel_rfl) (by simp only [erun, eall, estep, avs, tts, Nat.reduceAdd, Nat.reduceMul, Nat.reduceSub, Nat.reduceEqDiff, Nat.reduceLT, Nat.reduceLeDiff, Int.reduceToNat, Int.reduceLE, Int.reduceLT, Int.toNat_natCast, reduceCtorEq, wrap_succ hlt (by omega : x.inputs.length ≤ 9223372036854775807)] <;> first | with_reducible rfl | rfl) ?_
  have hps := pairs_succ hlt
  have hdq : decI x.inputs[k].2 = decS q := by unfold decI; rw [hq]; rfl
  rw [hdq] at hps
  have hl2 : (hd ++ pairsT (x.inputs.take (k + 1))).length = 6 + x.uses.length + 2 * k + 2 := by rw [hps, List.length_append, List.length_append, hdl, hpl]; simp; omega
  refine ⟨x.inputs.length - (k + 1), _, _, by omega, ⟨?_, .inr ⟨by simp, ?_, .more hB (.cons ?_ (.cons (bel_dI _) .nil)), ?_⟩⟩, k + 1, rfl, hlt, rfl, rfl⟩
  ·simp [EnvLe, hl2, List.replicate, inpsP]
  ·simp [belL, AV.bel, List.replicate]
  ·simp [AObj.bel, belL, AV.bel]
  ·refine ⟨[.box 52 [.d (.v (.string x.inputs[k].1)), .d (.v (.int .i64 (q : Int)))], .row 9 1 0 [[.d (.v (.string x.inputs[k].1))], [.d (.v (.string (decS q)))]]], ?_⟩
   rw [hps]
   simp only [← List.append_assoc, List.map_append, ← dI_app]
   simp only [List.append_assoc]
   rfl
 ·refine aw_exit ?_
  have hkl : k = x.inputs.length := by simp at hb; omega
  subst hkl
  have hpl := pairs_len x.inputs
  rw [List.take_length, ← hfs]
  have hlf : hd.length + (pairsT x.inputs).length = (fieldsT x).length := by rw [hfs, List.length_append]
  repeat refine aw_seq ?_
  refine aw_region ttOk (by kernel_rfl) ?_
  refine aops_run 1 (by simp only [erun, eall, estep, avs, tts, Nat.reduceAdd, Nat.reduceMul, Nat.reduceSub, Nat.reduceEqDiff, Nat.reduceLT, Nat.reduceLeDiff, Int.reduceToNat, Int.reduceLE, Int.reduceLT, Int.toNat_natCast, reduceCtorEq] <;> first | with_reducible rfl | rfl) ?_
  refine aops_view rfl (by simp only [avs] <;> rfl) (list_a hT (fieldsT x) hJ) (by simp only [avs, tts, Nat.reduceAdd, Nat.reduceMul, Nat.reduceSub, Nat.reduceEqDiff, Nat.reduceLT, Nat.reduceLeDiff, Int.reduceToNat, Int.reduceLE, Int.reduceLT, Int.toNat_natCast, reduceCtorEq, viewA.eq_def, viewL.eq_def, rowS, unI_dI, dI_len, hlf] <;> rfl) rfl (by simp only [avs] <;> rfl) ?_
  refine aops_run 1 (by simp only [erun, eall, estep, avs, tts, Nat.reduceAdd, Nat.reduceMul, Nat.reduceSub, Nat.reduceEqDiff, Nat.reduceLT, Nat.reduceLeDiff, Int.reduceToNat, Int.reduceLE, Int.reduceLT, Int.toNat_natCast, reduceCtorEq] <;> first | with_reducible rfl | rfl) ?_
  refine aops_nil ?_
  exact aw_ret ⟨_, rfl, _, rfl, rfl⟩
end
end Av
end Go.Proofs.YtnkepmfgmfeabaaGreatDoor
set_option linter.unusedVariables false
set_option linter.unusedSimpArgs false
namespace Go.Proofs.YtnkepmfgmfeabaaGreatDoor
open Go Go.RowKit
namespace Av

/-! Freezing: a row of one's own that is written no more becomes pure data. -/
def frzO (o : Option AObj) (l ver m : Nat) : AV := match o with
 | some (.row _ k ver' items) => if ver = ver' ∧ m = items.length then match unI items with
  | some L => .d (.sl k L)
  | none => .ms l ver m
  else .ms l ver m
 | _ => .ms l ver m
mutual
def frzA (o : Option AObj) (l : Nat) : AV → AV
 | .ms l' ver m => if l' = l then frzO o l ver m else .ms l' ver m
 | .agg c => .agg (frzL o l c)
 | .tup c => .tup (frzL o l c)
 | .d p => .d p
 | .undef => .undef
 | .ptr a b => .ptr a b
 | .ep a b c d e => .ep a b c d e
 | .rp c => .rp c
 | .mp a => .mp a
 | .fn f a c => .fn f (frzL o l a) (frzL o l c)
def frzL (o : Option AObj) (l : Nat) : List AV → List AV
 | [] => []
 | a :: r => frzA o l a :: frzL o l r
end
theorem Sim.kill {base : World} {s : St} (hs : Sim base s) (l : Nat) : Sim base ⟨s.μ, s.H.set l .dead, s.w⟩ ∧ ∀ N, Evo N s ⟨s.μ, s.H.set l .dead, s.w⟩ := by
 have hg : ∀ x o, (s.H.set l .dead)[x]? = some o → (x = l ∧ o = .dead) ∨ (x ≠ l ∧ s.H[x]? = some o) := by
  intro x o h
  by_cases e : x = l
  ·subst e
   have hl : x < s.H.length := by have := lt_of_get h; simpa using this
   rw [get_set_same hl] at h
   cases h
   exact .inl ⟨rfl, rfl⟩
  ·rw [get_set_ne e] at h
   exact .inr ⟨e, h⟩
 have hev : ∀ N, Evo N s ⟨s.μ, s.H.set l .dead, s.w⟩ := by
  intro N
  refine ⟨⟨Nat.le_refl _, fun b hb => ⟨hb.1, ?_⟩, fun b hb => rfl⟩, fun x hx => ?_⟩
  ·rintro ⟨x, o, h1, h2, h3⟩
   rcases hg x o h1 with ⟨rfl, rfl⟩ | ⟨_, h⟩
   ·cases h2
   ·exact hb.2 ⟨x, o, h, h2, h3⟩
  ·by_cases e : x = l
   ·subst e
    unfold RefEvo
    simp only
    split
    ·trivial
    ·trivial
    ·rename_i h; rw [get_set_same (lt_of_get h)]
    ·rename_i h; rw [get_set_same (lt_of_get h)]; exact .inl rfl
    ·rename_i h; rw [get_set_same (lt_of_get h)]; exact .inl rfl
    ·rename_i h; rw [get_set_same (lt_of_get h)]; exact .inl rfl
   ·exact .of_eq (get_set_ne e) rfl fun _ _ => rfl
 refine ⟨⟨hs.below, fun x o h => ?_, fun x y o o' b h1 h2 k1 k2 m1 m2 => ?_⟩, hev⟩
 ·rcases hg x o h with ⟨rfl, rfl⟩ | ⟨_, h'⟩
  ·trivial
  ·exact (hs.obj x o h').evo (hev _) (fun _ => rfl) fun _ _ _ => rfl
 ·rcases hg x o h1 with ⟨rfl, rfl⟩ | ⟨_, h1'⟩
  ·cases k1
  rcases hg y o' h2 with ⟨rfl, rfl⟩ | ⟨_, h2'⟩
  ·cases k2
  exact hs.inj x y o o' b h1' h2' k1 k2 m1 m2
theorem PRows_imm {w : World} {imm imm' : Nat → Prop} (hi : ∀ b, imm b → imm' b) : ∀ (L : List (List PD)) (b k o : Nat), PRows w imm L b k o → PRows w imm' L b k o
 | [], _, _, _, _ => by simp only [PRows]
 | it :: r, b, k, o, h => by
  simp only [PRows] at h ⊢
  have cells : ∀ (l : List PD) (o : Nat), PCells w imm l b o → PCells w imm' l b o := by
   intro l
   induction l with
   | nil => intro o _; simp only [PCells]
   | cons p l ih =>
    intro o h
    simp only [PCells] at h ⊢
    obtain ⟨⟨h0, c, h1, h2⟩, h3⟩ := h
    exact ⟨⟨h0, c, h1, PRep.on hi (fun _ _ => rfl) p c h2⟩, ih _ h3⟩
  exact ⟨h.1, cells it o h.2.1, PRows_imm hi r b k (o + k) h.2.2⟩
mutual
theorem Rep.frz {base : World} {s : St} (hs : Sim base s) (l : Nat) : ∀ (a : AV) (v : Value), Rep s a v → Rep ⟨s.μ, s.H.set l .dead, s.w⟩ (frzA s.H[l]? l a) v
 | .ms l' ver m, v, h => by
  have hold : Rep ⟨s.μ, s.H.set l .dead, s.w⟩ (.ms l' ver m) v := Rep.evo ((hs.kill l).2 _) _ _ h
  simp only [frzA]
  by_cases e : l' = l
  case neg => rw [if_neg e]; exact hold
  subst e
  rw [if_pos rfl]
  unfold frzO
  split
  case h_2 => exact hold
  rename_i ty k ver' items ho
  split
  case isFalse => exact hold
  rename_i c
  split
  case h_2 => exact hold
  rename_i L e1
  have hi := unI_eq e1
  simp only [Rep, MsRep, ho] at h
  obtain ⟨_, _, h⟩ := h
  simp only [Rep, PRep]
  have hLl : L.length = items.length := by rw [hi]; simp [dI]
  rcases h c.1 c.2 with ⟨m1, rfl, m3⟩ | ⟨b, cap, m1, rfl, m3, m4, m5⟩
  ·have : L = [] := List.eq_nil_of_length_eq_zero (by omega)
   subst this
   exact ⟨none, 0, rfl, Nat.le_refl _, by unfold maxLen; omega, .inl rfl⟩
  ·obtain ⟨h0, h9, hobj⟩ := hs.obj l' _ ho
   rcases hobj with ⟨q1, _⟩ | ⟨b', arr, f, rs, q1, q2, q3, q4, q5⟩
   ·rw [m1] at q1; cases q1
   ·rw [m1] at q1; cases q1
    refine ⟨some ⟨b, 0, none⟩, cap, by rw [hLl, c.2], by rw [hLl, ← c.2]; exact m3, m4, .inr ⟨b, 0, rfl, ⟨(Array.getElem?_eq_some_iff.1 q3).1, ?_⟩, ?_⟩⟩
    ·rintro ⟨x, o', k1, k2, k3⟩
     by_cases e : x = l'
     ·subst e
      simp only [get_set_same (lt_of_get ho), Option.some.injEq] at k1
      subst k1
      cases k2
     ·simp only [get_set_ne e] at k1
      exact e (hs.inj x l' _ _ b k1 ho k2 rfl k3 m1)
    ·subst hi
     have := seal_rows q3 L 0 f (fun j v hj => by
      have h1 : arr.toList[j]? = some v := by rw [q4, List.getElem?_append_left (List.getElem?_eq_some_iff.1 hj).1]; exact hj
      simpa using h1) h0 h9 q5
     exact PRows_imm ((hs.kill l').2 0).keeps.imm L b k 0 this
 | .d p, v, h => by simp only [frzA]; exact Rep.evo ((hs.kill l).2 _) _ _ h
 | .undef, v, h => by simp only [frzA, Rep]
 | .ptr x y, v, h => by simp only [frzA]; exact Rep.evo ((hs.kill l).2 _) _ _ h
 | .ep x y z u t, v, h => by simp only [frzA]; exact Rep.evo ((hs.kill l).2 _) _ _ h
 | .rp c, v, h => by simp only [frzA]; exact Rep.evo ((hs.kill l).2 _) _ _ h
 | .mp x, v, h => by simp only [frzA]; exact Rep.evo ((hs.kill l).2 _) _ _ h
 | .fn f a b, v, h => by
  simp only [frzA, Rep] at h ⊢
  obtain ⟨p, q, h1, h2, h3⟩ := h
  exact ⟨p, q, h1, RepL.frz hs l a _ h2, RepL.frz hs l b _ h3⟩
 | .agg c, v, h => by
  simp only [frzA, Rep] at h ⊢
  obtain ⟨p, h1, h2⟩ := h
  exact ⟨p, h1, RepL.frz hs l c _ h2⟩
 | .tup c, v, h => by
  simp only [frzA, Rep] at h ⊢
  obtain ⟨p, h1, h2⟩ := h
  exact ⟨p, h1, RepL.frz hs l c _ h2⟩
theorem RepL.frz {base : World} {s : St} (hs : Sim base s) (l : Nat) : ∀ (az : List AV) (vs : List Value), RepL s az vs → RepL ⟨s.μ, s.H.set l .dead, s.w⟩ (frzL s.H[l]? l az) vs
 | [], vs, h => by simp only [frzL, RepL] at h ⊢; exact h
 | a :: r, vs, h => by
  simp only [frzL, RepL] at h ⊢
  obtain ⟨x, t, h1, h2, h3⟩ := h
  exact ⟨x, t, h1, Rep.frz hs l a _ h2, RepL.frz hs l r _ h3⟩
end
theorem calls_frz (l : Nat) {P : Program} {base : World} {f : FuncId} {args args' : List AV} {H H' : AHeap} {R : AV → AHeap → Prop} (ha : frzL H[l]? l args = args') (hH : H.set l .dead = H') (h : CallsA P base f args' H' R) : CallsA P base f args H R := by
 subst ha hH
 refine ⟨h.enter, fun μ w vs hs hr => ?_⟩
 have hk := hs.kill l
 refine (h.run μ w vs hk.1 (RepL.frz hs l _ _ hr)).mono fun e w' ⟨v, r, H', μ', h1, h2, h3, h4, h5, h6⟩ => ⟨v, r, H', μ', h1, h2, by simpa using h3, h4, h5, ?_⟩
 have h6' : Evo H.length ⟨μ, H.set l .dead, w⟩ ⟨μ', H', w'⟩ := by simpa using h6
 exact (hk.2 _).trans h6'
theorem aw_frz (l : Nat) {X : Ctx} {Q : Exit → List AV → AHeap → Prop} {env env' : List AV} {H H' : AHeap} {c : Code} (ha : frzL H[l]? l env = env') (hH : H.set l .dead = H') (h : AW X c Q env' H') : AW X c Q env H := by
 subst ha hH
 intro s0 μ a w hN hs he hev
 exact h s0 μ a w (by simpa using hN) (hs.kill l).1 ⟨he.defers, RepL.frz hs l _ _ he.rep⟩ (hev.trans ((hs.kill l).2 _))
theorem read_enter {P : Program} {tt : TTab} (hT : TabOk P tt) {base : World} {f : FuncId} {fn : Func} {c : Code} {args : List AV} {H : AHeap} {r : AV} (hcall : ∀ (vs : Array Value) (w : World), (callFunc f vs).run P w = .ok (.enter f vs) w) (hf : P.funcs[f]? = some fn) (hb : fn.body = some c)
  (h : HBel H.length H → belL H.length args → fctL args → AW ⟨P, tt, base, H.length⟩ c (retA tt fn.results.toList fun r' H' => ∃ G, H' = H ++ G ∧ sealA H' H.length r' = some r) (args ++ List.replicate (fn.ntmps - args.length) .undef) H) : ReadA P base f args H r :=
 .sealUp (callsA_enter hT hcall hf hb fun hB hb hF => (h hB hb hF).mono fun x env H' hq => by
  cases x with
  | normal => obtain ⟨r0, h1, G, h2, h3⟩ := hq; exact ⟨r0, h1, r, H, ⟨Nat.le_refl _, hB, ⟨G, h2⟩, h3⟩, rfl, rfl⟩
  | ret => obtain ⟨r0, h1, G, h2, h3⟩ := hq; exact ⟨r0, h1, r, H, ⟨Nat.le_refl _, hB, ⟨G, h2⟩, h3⟩, rfl, rfl⟩
  | _ => exact hq)
theorem got {H : AHeap} {l : Nat} {o : AObj} (h : H[l]? = some o) (G : AHeap) : (H ++ G)[l]? = some o := by rw [List.getElem?_append_left (lt_of_get h)]; exact h
theorem RepL.nils {s : St} (k : Nat) : ∀ {l : List AV} {vs : List Value} (i : Nat), RepL s l vs → l[i]? = some (.d (.v (.slice none 0 0))) → RepL s (l.set i (.d (.sl k []))) vs
 | [], vs, i, h, e => by simp at e
 | a :: r, vs, 0, h, e => by
  simp only [List.getElem?_cons_zero, Option.some.injEq] at e
  subst e
  simp only [RepL, List.set_cons_zero, Rep, PRep] at h ⊢
  obtain ⟨x, t, h1, ⟨rfl, _⟩, h3⟩ := h
  exact ⟨_, t, h1, ⟨none, 0, rfl, Nat.le_refl _, by unfold maxLen; omega, .inl trivial⟩, h3⟩
 | a :: r, vs, i + 1, h, e => by
  simp only [RepL, List.set_cons_succ] at h ⊢
  obtain ⟨x, t, h1, h2, h3⟩ := h
  exact ⟨x, t, h1, h2, RepL.nils k i h3 (by simpa using e)⟩
theorem aw_nils (i k : Nat) {X : Ctx} {Q : Exit → List AV → AHeap → Prop} {env env' : List AV} {H : AHeap} {c : Code} (hi : env[i]? = some (.d (.v (.slice none 0 0)))) (he : env.set i (.d (.sl k [])) = env') (h : AW X c Q env' H) : AW X c Q env H := by
 subst he
 intro s0 μ a w hN hs he hev
 exact h s0 μ a w hN hs ⟨he.defers, RepL.nils k i he.rep hi⟩ hev
/-- ways that part come together again -/
theorem aw_mid {X : Ctx} {c y : Code} {Q Q2 : Exit → List AV → AHeap → Prop} {env env0 : List AV} {H H0 : AHeap} (h : AW X c (fun ex env H => ex = .normal ∧ Goes X env H env0 H0) env H) (k : AW X y Q2 env0 H0) : AW X c (thenA (fun env H => AW X y Q2 env H) Q) env H :=
 h.mono fun ex env H ⟨e, g⟩ => by subst e; exact aw_goes g k
theorem aops_nilcmp {P : Program} {tt : TTab} {base : World} {ops : Array Oper} {K : List AV → AHeap → Prop} {o : Oper} {rest : List Oper} {env : List AV} {H : AHeap} {l : List (List PD)} {e : Bool} (hg : o.guard = none) (hc : acall env o.op = none) (hs : astep tt H env o.op = none) (hn : nilCmp tt env o.op = some (l, e)) (k : ∀ b : Bool, (b = true → l = []) → AOps P tt base ops rest (aput env o.dst (.d (.v (.bool (b == e))))) H K) : AOps P tt base ops (o :: rest) env H K := by
 simp only [AOps, AGuard, hg, AStep, hc, hs, hn]
 exact k
theorem aops_pureF (l : Nat) {P : Program} {tt : TTab} {base : World} {ops : Array Oper} {K : List AV → AHeap → Prop} {o : Oper} {rest : List Oper} {env env' : List AV} {H H' : AHeap} {f : FuncId} {args args' : List AV} {r : AV} (hg : o.guard = none) (hc : acall env o.op = some (f, args)) (ha : frzL H[l]? l args = args') (hH : H.set l .dead = H') (h : PureA P base f args' r) (he : aput env o.dst r = env') (k : AOps P tt base ops rest env' H' K) : AOps P tt base ops (o :: rest) env H K :=
 aops_call hg hc ⟨_, calls_frz l ha hH (h H'), fun r' H'' ⟨e1, e2⟩ _ => by rw [e1, e2, he]; exact k⟩
end Av
end Go.Proofs.YtnkepmfgmfeabaaGreatDoor
set_option linter.unusedVariables false
set_option linter.unusedSimpArgs false
namespace Go.Proofs.YtnkepmfgmfeabaaGreatDoor
open Go Go.RowKit
namespace Av

/-! The book: what it holds, and how it lies. -/
structure Ent where
 st : Stm
 left : Int
 sgn : ByteArray
 rev : Bool
 next : List Nat
structure Bk where
 issuer : ByteArray
 ents : List Ent
abbrev OR := Option (Nat × Nat)
structure ELay where
 b : Nat
 row : OR
structure Lay where
 bl : Nat
 ml : Nat
 ul : Nat
 od : OR
 L : List ELay
 n1 : Nat
 n2 : Nat
 n3 : Nat
def nilS : AV := .d (.v (.slice none 0 0))
def nilP : AV := .d (.v (.pointer none))
def slA : OR → Nat → AV
 | none, _ => nilS
 | some (l, v), n => .ms l v n
def RowAt (H : AHeap) (o : OR) (items : List (List AV)) : Prop := match o with
 | none => items = []
 | some (l, v) => H[l]? = some (.row 77 1 v items)
def entC (x : Ent) (nx : AV) : List AV := [.d (.v (.string x.st.id)), .d (.v (.string x.st.prod)), .d (.v (.int .i64 x.st.q)), .d (.v (.string x.st.holder)), .d (strsP x.st.uses), .d (inpsP x.st.inputs), .d (.v (.int .i64 x.st.idx)), .d (strsP x.st.sig), .d (strsP x.st.path), .d (.v (.int .i64 x.left)), .d (.v (.string x.sgn)), .d (.v (.bool x.rev)), nx]
def Lay.eb (Y : Lay) (j : Nat) : Nat := ((Y.L[j]?).map ELay.b).getD 0
def idE (Y : Lay) (B : Bk) : List (Value × AV) := ((Y.L.zip B.ents).take Y.n2).map fun p => (.string p.2.st.id, .ptr p.1.b 0)
def usE (Y : Lay) (B : Bk) : List (Value × AV) := (B.ents.take Y.n3).map fun x => (.agg #[.string x.sgn, .int .i64 x.st.idx], .d (.v (.bool true)))
structure BookAt (H : AHeap) (Y : Lay) (B : Bk) : Prop where
 len : Y.L.length = B.ents.length
 book : H[Y.bl]? = some (.box 76 [.d (.v (.string B.issuer)), slA Y.od Y.n1, .mp Y.ml, .mp Y.ul])
 ord : RowAt H Y.od ((Y.L.take Y.n1).map fun e => [.ptr e.b 0])
 byId : H[Y.ml]? = some (.mp 9 77 (.one .str) (idE Y B))
 used : H[Y.ul]? = some (.mp 92 4 (.flat [.str, .int .i64]) (usE Y B))
 ent : ∀ (i : Nat) e x, Y.L[i]? = some e → B.ents[i]? = some x → H[e.b]? = some (.box 79 (entC x (slA e.row x.next.length))) ∧ RowAt H e.row (x.next.map fun j => [.ptr (Y.eb j) 0]) ∧ ∀ j ∈ x.next, i < j ∧ j < Y.L.length
 dbox : ∀ (i j : Nat) e f, Y.L[i]? = some e → Y.L[j]? = some f → e.b = f.b → i = j
 drow : ∀ (i j : Nat) e f, Y.L[i]? = some e → Y.L[j]? = some f → ∀ a c, e.row = some a → f.row = some c → a.1 = c.1 → i = j
 dord : ∀ (i : Nat) e, Y.L[i]? = some e → ∀ a c, e.row = some a → Y.od = some c → a.1 ≠ c.1
/-- a book at rest -/
structure Book (H : AHeap) (Y : Lay) (B : Bk) : Prop extends BookAt H Y B where
 n1 : Y.n1 = B.ents.length
 n2 : Y.n2 = B.ents.length
 n3 : Y.n3 = B.ents.length
def findB (B : Bk) (id : ByteArray) : Option Nat := B.ents.findIdx? fun x => decide (x.st.id = id)
def findA (Y : Lay) (B : Bk) (id : ByteArray) : AV := match findB B id with
 | some i => .ptr (Y.eb i) 0
 | none => nilP
theorem mget_id (B : List Ent) (L : List ELay) (id : ByteArray) (h : L.length = B.length) : mget ((L.zip B).map fun p => (.string p.2.st.id, .ptr p.1.b 0)) (.string id) = (B.findIdx? fun x => decide (x.st.id = id)).map fun i => .ptr (((L[i]?).map ELay.b).getD 0) 0 := by
 induction B generalizing L with
 | nil => cases L <;> simp at h ⊢ <;> rfl
 | cons x B ih =>
  cases L with
  | nil => cases h
  | cons e L =>
   have ih := ih L (by simpa using h)
   unfold mget at ih ⊢
   simp only [List.zip_cons_cons, List.map_cons, List.find?_cons, List.findIdx?_cons, keyEq, eqV] at ih ⊢
   by_cases hx : x.st.id = id
   ·subst hx; simp
   ·have hx' : ¬ id = x.st.id := fun e => hx e.symm
    simp only [hx, hx', decide_false, Bool.false_eq_true, if_false, ih, Option.map_map]
    congr 1
theorem Book.mget {H : AHeap} {Y : Lay} {B : Bk} (h : Book H Y B) (id : ByteArray) : Av.mget (idE Y B) (.string id) = (findB B id).map fun i => .ptr (Y.eb i) 0 := by
 have := mget_id B.ents Y.L id h.len
 unfold idE
 rw [List.take_of_length_le (by rw [List.length_zip, h.len, h.n2]; omega), this]
 rfl
theorem findB_some {B : Bk} {id : ByteArray} {i : Nat} (h : findB B id = some i) : ∃ x, B.ents[i]? = some x ∧ x.st.id = id := by
 unfold findB at h
 rw [List.findIdx?_eq_some_iff_getElem] at h
 obtain ⟨h1, h2, _⟩ := h
 exact ⟨_, List.getElem?_eq_getElem h1, by simpa using h2⟩
theorem BookAt.lay {H : AHeap} {Y : Lay} {B : Bk} (h : BookAt H Y B) {i : Nat} {x : Ent} (hx : B.ents[i]? = some x) : ∃ e, Y.L[i]? = some e ∧ Y.eb i = e.b := by
 have hi : i < Y.L.length := by rw [h.len]; exact (List.getElem?_eq_some_iff.1 hx).1
 exact ⟨_, List.getElem?_eq_getElem hi, by simp [Lay.eb, List.getElem?_eq_getElem hi]⟩
theorem BookAt.box {H : AHeap} {Y : Lay} {B : Bk} (h : BookAt H Y B) {i : Nat} {x : Ent} (hx : B.ents[i]? = some x) : ∃ nx, H[Y.eb i]? = some (.box 79 (entC x nx)) := by
 obtain ⟨e, he, hb⟩ := h.lay hx
 exact ⟨_, by rw [hb]; exact (h.ent i e x he hx).1⟩
theorem find_a {base : World} {H : AHeap} {Y : Lay} {B : Bk} (h : Book H Y B) (id : ByteArray) : ReadA Tryz.prog base 39 [.ptr Y.bl 0, .d (.v (.string id))] H (findA Y B id) := by
 refine read_enter ttOk Tryz.call39 Tryz.func39 rfl fun hB hb hF => ?_
 rw [Tryz.results39, Tryz.ntmps39]
 simp only [arr_list, List.length_cons, List.length_nil, List.replicate, List.cons_append, List.nil_append, Nat.reduceAdd, Nat.reduceSub]
 repeat refine aw_seq ?_
 refine aw_run ttOk (by kernel_rfl) (by simp only [erun, eall, estep, avs, tts, Nat.reduceAdd, Nat.reduceMul, Nat.reduceSub, Nat.reduceEqDiff, Nat.reduceLT, Nat.reduceLeDiff, Int.reduceToNat, Int.reduceLE, Int.reduceLT, Int.toNat_natCast, reduceCtorEq] <;> first | with_reducible rfl | rfl) ?_
 repeat refine aw_seq ?_
 refine aw_run ttOk (by kernel_rfl) (by simp only [erun, eall, estep, avs, tts, Nat.reduceAdd, Nat.reduceMul, Nat.reduceSub, Nat.reduceEqDiff, Nat.reduceLT, Nat.reduceLeDiff, Int.reduceToNat, Int.reduceLE, Int.reduceLT, Int.toNat_natCast, reduceCtorEq, nilP] <;> first | with_reducible rfl | rfl) ?_
 repeat refine aw_seq ?_
 refine aw_cond rfl rfl (fun hb => ?_) fun hb => ?_
 ·cases hb
 refine aw_skip ?_
 have h1 := h.book
 have h2 := h.byId
 have h3 := h.mget id
 repeat refine aw_seq ?_
 refine aw_run ttOk (by kernel_rfl) (by simp only [erun, eall, estep, avs, tts, Nat.reduceAdd, Nat.reduceMul, Nat.reduceSub, Nat.reduceEqDiff, Nat.reduceLT, Nat.reduceLeDiff, Int.reduceToNat, Int.reduceLE, Int.reduceLT, Int.toNat_natCast, reduceCtorEq, h1, h2, h3] <;> first | with_reducible rfl | rfl) ?_
 refine aw_ret ⟨_, rfl, [], by simp, ?_⟩
 unfold findA
 cases hf : findB B id with
 | none => rfl
 | some i =>
  obtain ⟨x, hx, _⟩ := findB_some hf
  obtain ⟨nx, hn⟩ := h.box hx
  exact if_pos (lt_of_get hn)
end Av
end Go.Proofs.YtnkepmfgmfeabaaGreatDoor
set_option linter.unusedVariables false
set_option linter.unusedSimpArgs false
namespace Go.Proofs.YtnkepmfgmfeabaaGreatDoor
open Go Go.RowKit
namespace Av
def iA (n : Int) : AV := .d (.v (.int .i64 n))
def leftR (B : Bk) (id : ByteArray) : Int × Int := match findB B id with
 | none => (0, 11)
 | some i => match B.ents[i]? with
  | none => (0, 11)
  | some x => if x.rev then (0, 0) else (x.left, 0)
def usesR (B : Bk) (id : ByteArray) : AV × Int := match findB B id with
 | none => (nilS, 11)
 | some i => match B.ents[i]? with
  | none => (nilS, 11)
  | some x => if x.rev then (nilS, 12) else (.d (strsP x.st.uses), 0)
theorem findA_none {Y : Lay} {B : Bk} {id : ByteArray} (h : findB B id = none) : findA Y B id = nilP := by unfold findA; rw [h]
theorem findA_some {Y : Lay} {B : Bk} {id : ByteArray} {i : Nat} (h : findB B id = some i) : findA Y B id = .ptr (Y.eb i) 0 := by unfold findA; rw [h]
theorem left_a {base : World} {H : AHeap} {Y : Lay} {B : Bk} (h : Book H Y B) (id : ByteArray) : ReadA Tryz.prog base 16 [.ptr Y.bl 0, .d (.v (.string id))] H (.tup [iA (leftR B id).1, iA (leftR B id).2]) := by
 refine read_enter ttOk Tryz.call16 Tryz.func16 rfl fun hB hb hF => ?_
 rw [Tryz.results16, Tryz.ntmps16]
 simp only [arr_list, List.length_cons, List.length_nil, List.replicate, List.cons_append, List.nil_append, Nat.reduceAdd, Nat.reduceSub]
 unfold leftR
 repeat refine aw_seq ?_
 refine aw_run ttOk (by kernel_rfl) (by simp only [erun, eall, estep, avs, tts, Nat.reduceAdd, Nat.reduceMul, Nat.reduceSub, Nat.reduceEqDiff, Nat.reduceLT, Nat.reduceLeDiff, Int.reduceToNat, Int.reduceLE, Int.reduceLT, Int.toNat_natCast, reduceCtorEq] <;> first | with_reducible rfl | rfl) ?_
 repeat refine aw_seq ?_
 refine aw_region ttOk (by kernel_rfl) ?_
 refine aops_run 2 (by simp only [erun, eall, estep, avs, tts, Nat.reduceAdd, Nat.reduceMul, Nat.reduceSub, Nat.reduceEqDiff, Nat.reduceLT, Nat.reduceLeDiff, Int.reduceToNat, Int.reduceLE, Int.reduceLT, Int.toNat_natCast, reduceCtorEq] <;> first | with_reducible rfl | rfl) ?_
 refine aops_read rfl (by simp only [avs] <;> rfl) (find_a h id) (by simp only [avs] <;> rfl) ?_
 refine aops_run 1 (by simp only [erun, eall, estep, avs, tts, Nat.reduceAdd, Nat.reduceMul, Nat.reduceSub, Nat.reduceEqDiff, Nat.reduceLT, Nat.reduceLeDiff, Int.reduceToNat, Int.reduceLE, Int.reduceLT, Int.toNat_natCast, reduceCtorEq] <;> first | with_reducible rfl | rfl) ?_
 refine aops_nil ?_
 cases hf : findB B id with
 | none =>
  rw [findA_none hf]
  repeat refine aw_seq ?_
  refine aw_block ?_
  repeat refine aw_seq ?_
  refine aw_run ttOk (by kernel_rfl) (by simp only [erun, eall, estep, avs, tts, Nat.reduceAdd, Nat.reduceMul, Nat.reduceSub, Nat.reduceEqDiff, Nat.reduceLT, Nat.reduceLeDiff, Int.reduceToNat, Int.reduceLE, Int.reduceLT, Int.toNat_natCast, reduceCtorEq, nilP] <;> first | with_reducible rfl | rfl) ?_
  repeat refine aw_seq ?_
  refine aw_cond rfl rfl (fun hb => ?_) fun hb => ?_
  ·repeat refine aw_seq ?_
   refine aw_run ttOk (by kernel_rfl) (by simp only [erun, eall, estep, avs, tts, Nat.reduceAdd, Nat.reduceMul, Nat.reduceSub, Nat.reduceEqDiff, Nat.reduceLT, Nat.reduceLeDiff, Int.reduceToNat, Int.reduceLE, Int.reduceLT, Int.toNat_natCast, reduceCtorEq] <;> first | with_reducible rfl | rfl) ?_
   exact aw_ret ⟨_, rfl, [], by simp, rfl⟩
  ·cases hb
 | some i =>
  obtain ⟨x, hx, _⟩ := findB_some hf
  obtain ⟨nx, hn⟩ := h.box hx
  rw [findA_some hf]
  simp only [hx]
  repeat refine aw_seq ?_
  refine aw_block ?_
  repeat refine aw_seq ?_
  refine aw_run ttOk (by kernel_rfl) (by simp only [erun, eall, estep, avs, tts, Nat.reduceAdd, Nat.reduceMul, Nat.reduceSub, Nat.reduceEqDiff, Nat.reduceLT, Nat.reduceLeDiff, Int.reduceToNat, Int.reduceLE, Int.reduceLT, Int.toNat_natCast, reduceCtorEq, nilP] <;> first | with_reducible rfl | rfl) ?_
  repeat refine aw_seq ?_
  refine aw_cond rfl rfl (fun hb => ?_) fun hb => ?_
  ·cases hb
  repeat refine aw_seq ?_
  refine aw_run ttOk (by kernel_rfl) (by simp only [erun, eall, estep, avs, tts, Nat.reduceAdd, Nat.reduceMul, Nat.reduceSub, Nat.reduceEqDiff, Nat.reduceLT, Nat.reduceLeDiff, Int.reduceToNat, Int.reduceLE, Int.reduceLT, Int.toNat_natCast, reduceCtorEq, hn, entC] <;> first | with_reducible rfl | rfl) ?_
  repeat refine aw_seq ?_
  refine aw_cond rfl rfl (fun hb => ?_) fun hb => ?_
  ·repeat refine aw_seq ?_
   refine aw_run ttOk (by kernel_rfl) (by simp only [erun, eall, estep, avs, tts, Nat.reduceAdd, Nat.reduceMul, Nat.reduceSub, Nat.reduceEqDiff, Nat.reduceLT, Nat.reduceLeDiff, Int.reduceToNat, Int.reduceLE, Int.reduceLT, Int.toNat_natCast, reduceCtorEq] <;> first | with_reducible rfl | rfl) ?_
   exact aw_ret ⟨_, rfl, [], by simp, by rw [if_pos hb]; rfl⟩
  ·repeat refine aw_seq ?_
   refine aw_run ttOk (by kernel_rfl) (by simp only [erun, eall, estep, avs, tts, Nat.reduceAdd, Nat.reduceMul, Nat.reduceSub, Nat.reduceEqDiff, Nat.reduceLT, Nat.reduceLeDiff, Int.reduceToNat, Int.reduceLE, Int.reduceLT, Int.toNat_natCast, reduceCtorEq, hn, entC] <;> first | with_reducible rfl | rfl) ?_
   exact aw_ret ⟨_, rfl, [], by simp, by rw [hb]; rfl⟩
theorem clonei_a (base : World) (l : List (ByteArray × Int)) (hl : l.length ≤ 1000000) : PureA Tryz.prog base 43 [.d (inpsP l)] (.d (inpsP l)) := by
 refine pure_enter ttOk Tryz.call43 Tryz.func43 rfl fun H hB hb hF => ?_
 rw [Tryz.results43, Tryz.ntmps43]
 simp only [arr_list, List.length_cons, List.length_nil, List.replicate, List.cons_append, List.nil_append, Nat.reduceAdd, Nat.reduceSub]
 repeat refine aw_seq ?_
 refine aw_run ttOk (by kernel_rfl) (by simp only [erun, eall, estep, avs, tts, Nat.reduceAdd, Nat.reduceMul, Nat.reduceSub, Nat.reduceEqDiff, Nat.reduceLT, Nat.reduceLeDiff, Int.reduceToNat, Int.reduceLE, Int.reduceLT, Int.toNat_natCast, reduceCtorEq] <;> first | with_reducible rfl | rfl) ?_
 repeat refine aw_seq ?_
 refine aw_region ttOk (by kernel_rfl) ?_
 refine aops_run 1 (by simp only [erun, eall, estep, avs, tts, Nat.reduceAdd, Nat.reduceMul, Nat.reduceSub, Nat.reduceEqDiff, Nat.reduceLT, Nat.reduceLeDiff, Int.reduceToNat, Int.reduceLE, Int.reduceLT, Int.toNat_natCast, reduceCtorEq] <;> first | with_reducible rfl | rfl) ?_
 refine aops_nilcmp rfl rfl rfl rfl fun b hn => aops_nil ?_
 repeat refine aw_seq ?_
 refine aw_cond rfl rfl (fun hb => ?_) fun hb => ?_
 ·have hnl : (l.map fun x => [PD.v (.string x.1), PD.v (.int .i64 x.2)]) = [] := hn (by simpa using hb)
  have hl : inpsP l = .sl 2 [] := by unfold inpsP; rw [hnl]
  repeat refine aw_seq ?_
  refine aw_run ttOk (by kernel_rfl) (by simp only [erun, eall, estep, avs, tts, Nat.reduceAdd, Nat.reduceMul, Nat.reduceSub, Nat.reduceEqDiff, Nat.reduceLT, Nat.reduceLeDiff, Int.reduceToNat, Int.reduceLE, Int.reduceLT, Int.toNat_natCast, reduceCtorEq] <;> first | with_reducible rfl | rfl) ?_
  refine aw_nils 2 2 rfl rfl ?_
  exact aw_ret ⟨_, rfl, [], by simp, by rw [hl]; rfl⟩
 ·refine aw_skip ?_
  have b1 : l.length ≤ 9223372036854775807 := by omega
  have b2 : l.length * 32 ≤ 140737488355328 := by omega
  have b3 : l.length * 24 ≤ 140737488355328 := by omega
  repeat refine aw_seq ?_
  refine aw_run ttOk (by kernel_rfl) (by simp only [erun, eall, estep, avs, tts, Nat.reduceAdd, Nat.reduceMul, Nat.reduceSub, Nat.reduceEqDiff, Nat.reduceLT, Nat.reduceLeDiff, Int.reduceToNat, Int.reduceLE, Int.reduceLT, Int.toNat_natCast, reduceCtorEq, inpsP, b1, b2, b3] <;> first | with_reducible rfl | rfl) ?_
  refine aw_ret ⟨_, rfl, _, rfl, ?_⟩
  simp only [avs, sealA, unI_dI, dI_len]
  rw [if_neg (by omega), show List.map (fun it : List PD => List.map AV.d it) (l.map fun x => [PD.v (.string x.1), PD.v (.int .i64 x.2)]) = dI _ from rfl, unI_dI]
  rfl
theorem clones_a (base : World) (l : List ByteArray) (hl : l.length ≤ 1000000) : PureA Tryz.prog base 40 [.d (strsP l)] (.d (strsP l)) := by
 refine pure_enter ttOk Tryz.call40 Tryz.func40 rfl fun H hB hb hF => ?_
 rw [Tryz.results40, Tryz.ntmps40]
 simp only [arr_list, List.length_cons, List.length_nil, List.replicate, List.cons_append, List.nil_append, Nat.reduceAdd, Nat.reduceSub]
 repeat refine aw_seq ?_
 refine aw_run ttOk (by kernel_rfl) (by simp only [erun, eall, estep, avs, tts, Nat.reduceAdd, Nat.reduceMul, Nat.reduceSub, Nat.reduceEqDiff, Nat.reduceLT, Nat.reduceLeDiff, Int.reduceToNat, Int.reduceLE, Int.reduceLT, Int.toNat_natCast, reduceCtorEq] <;> first | with_reducible rfl | rfl) ?_
 repeat refine aw_seq ?_
 refine aw_region ttOk (by kernel_rfl) ?_
 refine aops_run 1 (by simp only [erun, eall, estep, avs, tts, Nat.reduceAdd, Nat.reduceMul, Nat.reduceSub, Nat.reduceEqDiff, Nat.reduceLT, Nat.reduceLeDiff, Int.reduceToNat, Int.reduceLE, Int.reduceLT, Int.toNat_natCast, reduceCtorEq] <;> first | with_reducible rfl | rfl) ?_
 refine aops_nilcmp rfl rfl rfl rfl fun b hn => aops_nil ?_
 repeat refine aw_seq ?_
 refine aw_cond rfl rfl (fun hb => ?_) fun hb => ?_
 ·have hnl : (l.map fun s => [PD.v (.string s)]) = [] := hn (by simpa using hb)
  have hl : strsP l = .sl 1 [] := by unfold strsP; rw [hnl]
  repeat refine aw_seq ?_
  refine aw_run ttOk (by kernel_rfl) (by simp only [erun, eall, estep, avs, tts, Nat.reduceAdd, Nat.reduceMul, Nat.reduceSub, Nat.reduceEqDiff, Nat.reduceLT, Nat.reduceLeDiff, Int.reduceToNat, Int.reduceLE, Int.reduceLT, Int.toNat_natCast, reduceCtorEq] <;> first | with_reducible rfl | rfl) ?_
  refine aw_nils 2 1 rfl rfl ?_
  exact aw_ret ⟨_, rfl, [], by simp, by rw [hl]; rfl⟩
 ·refine aw_skip ?_
  have b1 : l.length ≤ 9223372036854775807 := by omega
  have b2 : l.length * 32 ≤ 140737488355328 := by omega
  have b3 : l.length * 16 ≤ 140737488355328 := by omega
  repeat refine aw_seq ?_
  refine aw_run ttOk (by kernel_rfl) (by simp only [erun, eall, estep, avs, tts, Nat.reduceAdd, Nat.reduceMul, Nat.reduceSub, Nat.reduceEqDiff, Nat.reduceLT, Nat.reduceLeDiff, Int.reduceToNat, Int.reduceLE, Int.reduceLT, Int.toNat_natCast, reduceCtorEq, strsP, b1, b2, b3] <;> first | with_reducible rfl | rfl) ?_
  refine aw_ret ⟨_, rfl, _, rfl, ?_⟩
  simp only [avs, sealA, unI_dI, dI_len]
  rw [if_neg (by omega), show List.map (fun it : List PD => List.map AV.d it) (l.map fun s => [PD.v (.string s)]) = dI _ from rfl, unI_dI]
  rfl
theorem uses_a {base : World} {H : AHeap} {Y : Lay} {B : Bk} (h : Book H Y B) (hu : ∀ x ∈ B.ents, x.st.uses.length ≤ 1000000) (id : ByteArray) : ReadA Tryz.prog base 19 [.ptr Y.bl 0, .d (.v (.string id))] H (.tup [(usesR B id).1, iA (usesR B id).2]) := by
 refine read_enter ttOk Tryz.call19 Tryz.func19 rfl fun hB hb hF => ?_
 rw [Tryz.results19, Tryz.ntmps19]
 simp only [arr_list, List.length_cons, List.length_nil, List.replicate, List.cons_append, List.nil_append, Nat.reduceAdd, Nat.reduceSub]
 unfold usesR
 repeat refine aw_seq ?_
 refine aw_run ttOk (by kernel_rfl) (by simp only [erun, eall, estep, avs, tts, Nat.reduceAdd, Nat.reduceMul, Nat.reduceSub, Nat.reduceEqDiff, Nat.reduceLT, Nat.reduceLeDiff, Int.reduceToNat, Int.reduceLE, Int.reduceLT, Int.toNat_natCast, reduceCtorEq] <;> first | with_reducible rfl | rfl) ?_
 repeat refine aw_seq ?_
 refine aw_region ttOk (by kernel_rfl) ?_
 refine aops_run 2 (by simp only [erun, eall, estep, avs, tts, Nat.reduceAdd, Nat.reduceMul, Nat.reduceSub, Nat.reduceEqDiff, Nat.reduceLT, Nat.reduceLeDiff, Int.reduceToNat, Int.reduceLE, Int.reduceLT, Int.toNat_natCast, reduceCtorEq] <;> first | with_reducible rfl | rfl) ?_
 refine aops_read rfl (by simp only [avs] <;> rfl) (find_a h id) (by simp only [avs] <;> rfl) ?_
 refine aops_run 1 (by simp only [erun, eall, estep, avs, tts, Nat.reduceAdd, Nat.reduceMul, Nat.reduceSub, Nat.reduceEqDiff, Nat.reduceLT, Nat.reduceLeDiff, Int.reduceToNat, Int.reduceLE, Int.reduceLT, Int.toNat_natCast, reduceCtorEq] <;> first | with_reducible rfl | rfl) ?_
 refine aops_nil ?_
 cases hf : findB B id with
 | none =>
  rw [findA_none hf]
  repeat refine aw_seq ?_
  refine aw_block ?_
  repeat refine aw_seq ?_
  refine aw_run ttOk (by kernel_rfl) (by simp only [erun, eall, estep, avs, tts, Nat.reduceAdd, Nat.reduceMul, Nat.reduceSub, Nat.reduceEqDiff, Nat.reduceLT, Nat.reduceLeDiff, Int.reduceToNat, Int.reduceLE, Int.reduceLT, Int.toNat_natCast, reduceCtorEq, nilP] <;> first | with_reducible rfl | rfl) ?_
  repeat refine aw_seq ?_
  refine aw_cond rfl rfl (fun hb => ?_) fun hb => ?_
  ·repeat refine aw_seq ?_
   refine aw_run ttOk (by kernel_rfl) (by simp only [erun, eall, estep, avs, tts, Nat.reduceAdd, Nat.reduceMul, Nat.reduceSub, Nat.reduceEqDiff, Nat.reduceLT, Nat.reduceLeDiff, Int.reduceToNat, Int.reduceLE, Int.reduceLT, Int.toNat_natCast, reduceCtorEq] <;> first | with_reducible rfl | rfl) ?_
   exact aw_ret ⟨_, rfl, [], by simp, rfl⟩
  ·cases hb
 | some i =>
  obtain ⟨x, hx, _⟩ := findB_some hf
  obtain ⟨nx, hn⟩ := h.box hx
  rw [findA_some hf]
  simp only [hx]
  repeat refine aw_seq ?_
  refine aw_block ?_
  repeat refine aw_seq ?_
  refine aw_run ttOk (by kernel_rfl) (by simp only [erun, eall, estep, avs, tts, Nat.reduceAdd, Nat.reduceMul, Nat.reduceSub, Nat.reduceEqDiff, Nat.reduceLT, Nat.reduceLeDiff, Int.reduceToNat, Int.reduceLE, Int.reduceLT, Int.toNat_natCast, reduceCtorEq, nilP] <;> first | with_reducible rfl | rfl) ?_
  repeat refine aw_seq ?_
  refine aw_cond rfl rfl (fun hb => ?_) fun hb => ?_
  ·cases hb
  repeat refine aw_seq ?_
  refine aw_run ttOk (by kernel_rfl) (by simp only [erun, eall, estep, avs, tts, Nat.reduceAdd, Nat.reduceMul, Nat.reduceSub, Nat.reduceEqDiff, Nat.reduceLT, Nat.reduceLeDiff, Int.reduceToNat, Int.reduceLE, Int.reduceLT, Int.toNat_natCast, reduceCtorEq, hn, entC] <;> first | with_reducible rfl | rfl) ?_
  repeat refine aw_seq ?_
  refine aw_cond rfl rfl (fun hb => ?_) fun hb => ?_
  ·repeat refine aw_seq ?_
   refine aw_run ttOk (by kernel_rfl) (by simp only [erun, eall, estep, avs, tts, Nat.reduceAdd, Nat.reduceMul, Nat.reduceSub, Nat.reduceEqDiff, Nat.reduceLT, Nat.reduceLeDiff, Int.reduceToNat, Int.reduceLE, Int.reduceLT, Int.toNat_natCast, reduceCtorEq] <;> first | with_reducible rfl | rfl) ?_
   exact aw_ret ⟨_, rfl, [], by simp, by rw [if_pos hb]; rfl⟩
  ·repeat refine aw_seq ?_
   refine aw_region ttOk (by kernel_rfl) ?_
   refine aops_run 5 (by simp only [erun, eall, estep, avs, tts, Nat.reduceAdd, Nat.reduceMul, Nat.reduceSub, Nat.reduceEqDiff, Nat.reduceLT, Nat.reduceLeDiff, Int.reduceToNat, Int.reduceLE, Int.reduceLT, Int.toNat_natCast, reduceCtorEq, hn, entC] <;> first | with_reducible rfl | rfl) ?_
   refine aops_pure rfl (by simp only [avs] <;> rfl) (clones_a base x.st.uses (hu x (List.mem_of_getElem? hx))) (by simp only [avs] <;> rfl) ?_
   refine aops_run 2 (by simp only [erun, eall, estep, avs, tts, Nat.reduceAdd, Nat.reduceMul, Nat.reduceSub, Nat.reduceEqDiff, Nat.reduceLT, Nat.reduceLeDiff, Int.reduceToNat, Int.reduceLE, Int.reduceLT, Int.toNat_natCast, reduceCtorEq] <;> first | with_reducible rfl | rfl) ?_
   refine aops_nil ?_
   exact aw_ret ⟨_, rfl, [], by simp, by rw [hb]; rfl⟩
end Av
end Go.Proofs.YtnkepmfgmfeabaaGreatDoor
set_option linter.unusedVariables false
set_option linter.unusedSimpArgs false
namespace Go.Proofs.YtnkepmfgmfeabaaGreatDoor
open Go Go.RowKit
namespace Av
theorem Book.row {H : AHeap} {Y : Lay} {B : Bk} (h : Book H Y B) : (Y.od = none ∧ B.ents = []) ∨ ∃ l v, Y.od = some (l, v) ∧ H[l]? = some (.row 77 1 v (Y.L.map fun e => [.ptr e.b 0])) := by
 have h1 := h.ord
 rw [h.n1, List.take_of_length_le (by rw [h.len]; exact Nat.le_refl _)] at h1
 cases ho : Y.od with
 | none =>
  rw [ho] at h1
  have : Y.L = [] := by simpa [RowAt] using h1
  have h2 := h.len
  rw [this] at h2
  exact .inl ⟨rfl, List.eq_nil_of_length_eq_zero h2.symm⟩
 | some p =>
  rw [ho] at h1
  exact .inr ⟨p.1, p.2, rfl, h1⟩
end Av
end Go.Proofs.YtnkepmfgmfeabaaGreatDoor
set_option linter.unusedVariables false
set_option linter.unusedSimpArgs false
namespace Go.Proofs.YtnkepmfgmfeabaaGreatDoor
open Go Go.RowKit
namespace Av
theorem RowAt.app {H : AHeap} {o : OR} {items : List (List AV)} (h : RowAt H o items) (G : AHeap) : RowAt (H ++ G) o items := by
 cases o with
 | none => exact h
 | some p => exact got h G
theorem BookAt.app {H : AHeap} {Y : Lay} {B : Bk} (h : BookAt H Y B) (G : AHeap) : BookAt (H ++ G) Y B :=
 ⟨h.len, got h.book G, h.ord.app G, got h.byId G, got h.used G, fun i e x he hx => ⟨got (h.ent i e x he hx).1 G, (h.ent i e x he hx).2.1.app G, (h.ent i e x he hx).2.2⟩, h.dbox, h.drow, h.dord⟩
theorem Book.app {H : AHeap} {Y : Lay} {B : Bk} (h : Book H Y B) (G : AHeap) : Book (H ++ G) Y B := ⟨h.toBookAt.app G, h.n1, h.n2, h.n3⟩
/-! searching -/
def bA (b : Bool) : AV := .d (.v (.bool b))
def idxR (p : ByteArray → Bool) (l : List ByteArray) : Int := match l.findIdx? p with
 | some i => (i : Int)
 | none => -1
theorem idx_some {p : ByteArray → Bool} {l : List ByteArray} {k : Nat} (hk : k < l.length) (hj : ∀ j, j < k → ∀ h : j < l.length, p l[j] = false) (h : p l[k] = true) : idxR p l = k := by
 unfold idxR
 rw [show l.findIdx? p = some k from by
  rw [List.findIdx?_eq_some_iff_getElem]
  exact ⟨hk, h, fun j hjk => by simp [hj j hjk (by omega)]⟩]
theorem idx_none {p : ByteArray → Bool} {l : List ByteArray} (hj : ∀ j, j < l.length → ∀ h : j < l.length, p l[j] = false) : idxR p l = -1 := by
 unfold idxR
 rw [show l.findIdx? p = none from by
  rw [List.findIdx?_eq_none_iff]
  intro x hx
  obtain ⟨i, hi, rfl⟩ := List.mem_iff_getElem.1 hx
  exact hj i hi hi]
theorem idx_ge {p : ByteArray → Bool} {l : List ByteArray} : decide (0 ≤ idxR p l) = l.any p := by
 unfold idxR
 cases h : l.findIdx? p with
 | none =>
  rw [List.findIdx?_eq_none_iff] at h
  have : l.any p = false := by rw [List.any_eq_false]; exact fun x hx => by simp [h x hx]
  rw [this]; rfl
 | some i =>
  rw [List.findIdx?_eq_some_iff_getElem] at h
  obtain ⟨h1, h2, _⟩ := h
  have : l.any p = true := List.any_eq_true.2 ⟨_, List.getElem_mem h1, h2⟩
  rw [this]
  simp
theorem index_a (base : World) (l : List ByteArray) (s : ByteArray) : PureA Tryz.prog base 104 [.d (strsP l), .d (.v (.string s))] (iA (idxR (fun x => decide (s = x)) l)) := by
 refine pure_enter ttOk Tryz.call104 Tryz.func104 rfl fun H hB hb hF => ?_
 rw [Tryz.results104, Tryz.ntmps104]
 simp only [arr_list, List.length_cons, List.length_nil, List.replicate, List.cons_append, List.nil_append, Nat.reduceAdd, Nat.reduceSub]
 have hL : l.length ≤ 9223372036854775807 := by simpa [strsP, fctL, fctA, fctP] using hF.1.1
 repeat refine aw_seq ?_
 refine aw_run ttOk (by kernel_rfl) (by simp only [erun, eall, estep, avs, tts, Nat.reduceAdd, Nat.reduceMul, Nat.reduceSub, Nat.reduceEqDiff, Nat.reduceLT, Nat.reduceLeDiff, Int.reduceToNat, Int.reduceLE, Int.reduceLT, Int.toNat_natCast, reduceCtorEq] <;> first | with_reducible rfl | rfl) ?_
 repeat refine aw_seq ?_
 refine aw_run ttOk (by kernel_rfl) (by simp only [erun, eall, estep, avs, tts, Nat.reduceAdd, Nat.reduceMul, Nat.reduceSub, Nat.reduceEqDiff, Nat.reduceLT, Nat.reduceLeDiff, Int.reduceToNat, Int.reduceLE, Int.reduceLT, Int.toNat_natCast, reduceCtorEq, strsP] <;> first | with_reducible rfl | rfl) ?_
 refine aw_block (aw_loop (fun n env H' => ∃ k, n = l.length - k ∧ k ≤ l.length ∧ H' = H ∧ (∀ j, j < k → ∀ h : j < l.length, decide (s = l[j]) = false) ∧ env = [.d (strsP l), .d (.v (.string s)), .undef, .undef, .undef, .undef, .undef, iA l.length, iA k] ++ List.replicate 10 .undef) ?_ ⟨0, rfl, Nat.zero_le _, rfl, fun j hj => by omega, rfl⟩ ?_)
 ·simp [Goes, EnvLe, strsP, iA, List.replicate]
 rintro n env H' ⟨k, rfl, hk, rfl, hj, rfl⟩ hN
 simp only [List.replicate, List.cons_append, List.nil_append, iA]
 repeat refine aw_seq ?_
 refine aw_run ttOk (by kernel_rfl) (by simp only [erun, eall, estep, avs, tts, Nat.reduceAdd, Nat.reduceMul, Nat.reduceSub, Nat.reduceEqDiff, Nat.reduceLT, Nat.reduceLeDiff, Int.reduceToNat, Int.reduceLE, Int.reduceLT, Int.toNat_natCast, reduceCtorEq] <;> first | with_reducible rfl | rfl) ?_
 repeat refine aw_seq ?_
 refine aw_cond rfl rfl (fun hb => ?_) fun hb => ?_
 ·have hlt : k < l.length := by simpa using hb
  have hix : (0 : Int) ≤ (k : Int) := by omega
  have hgd : (l.map fun s => [PD.v (.string s)]).getD k [] = [.v (.string l[k])] := by simp [hlt]
  refine aw_skip ?_
  repeat refine aw_seq ?_
  refine aw_block ?_
  repeat refine aw_seq ?_
  refine aw_run ttOk (by kernel_rfl) (by simp only [erun, eall, estep, avs, tts, Nat.reduceAdd, Nat.reduceMul, Nat.reduceSub, Nat.reduceEqDiff, Nat.reduceLT, Nat.reduceLeDiff, Int.reduceToNat, Int.reduceLE, Int.reduceLT, Int.toNat_natCast, reduceCtorEq] <;> first | with_reducible rfl | rfl) ?_
  repeat refine aw_seq ?_
  refine aw_run ttOk (by kernel_rfl) (by simp only [erun, eall, estep, avs, tts, Nat.reduceAdd, Nat.reduceMul, Nat.reduceSub, Nat.reduceEqDiff, Nat.reduceLT, Nat.reduceLeDiff, Int.reduceToNat, Int.reduceLE, Int.reduceLT, Int.toNat_natCast, reduceCtorEq, strsP, hgd, hix, hlt] <;> first | with_reducible rfl | rfl) ?_
  repeat refine aw_seq ?_
  refine aw_cond rfl rfl (fun hb => ?_) fun hb => ?_
  ·repeat refine aw_seq ?_
   refine aw_run ttOk (by kernel_rfl) (by simp only [erun, eall, estep, avs, tts, Nat.reduceAdd, Nat.reduceMul, Nat.reduceSub, Nat.reduceEqDiff, Nat.reduceLT, Nat.reduceLeDiff, Int.reduceToNat, Int.reduceLE, Int.reduceLT, Int.toNat_natCast, reduceCtorEq] <;> first | with_reducible rfl | rfl) ?_
   exact aw_ret ⟨_, rfl, [], by simp, by rw [idx_some hlt hj hb]; rfl⟩
  ·refine aw_skip ?_
   repeat refine aw_seq ?_
   refine aw_run ttOk (by kernel_rfl) (by simp only [erun, eall, estep, avs, tts, Nat.reduceAdd, Nat.reduceMul, Nat.reduceSub, Nat.reduceEqDiff, Nat.reduceLT, Nat.reduceLeDiff, Int.reduceToNat, Int.reduceLE, Int.reduceLT, Int.toNat_natCast, reduceCtorEq, wrap_succ hlt hL] <;> first | with_reducible rfl | rfl) ?_
   refine ⟨l.length - (k + 1), _, _, by omega, ⟨?_, .inl rfl⟩, k + 1, rfl, hlt, rfl, fun j hjk h => ?_, rfl⟩
   ·simp [EnvLe, strsP, iA, List.replicate]
   ·rcases Nat.lt_succ_iff_lt_or_eq.1 hjk with h1 | rfl
    ·exact hj j h1 h
    ·exact hb
 ·refine aw_exit ?_
  repeat refine aw_seq ?_
  refine aw_run ttOk (by kernel_rfl) (by simp only [erun, eall, estep, avs, tts, Nat.reduceAdd, Nat.reduceMul, Nat.reduceSub, Nat.reduceEqDiff, Nat.reduceLT, Nat.reduceLeDiff, Int.reduceToNat, Int.reduceLE, Int.reduceLT, Int.toNat_natCast, reduceCtorEq] <;> first | with_reducible rfl | rfl) ?_
  have hkL : k = l.length := by simp at hb; omega
  exact aw_ret ⟨_, rfl, [], by simp, by rw [idx_none fun j hjl => hj j (by omega)]; rfl⟩
theorem contains_a (base : World) (l : List ByteArray) (s : ByteArray) : PureA Tryz.prog base 76 [.d (strsP l), .d (.v (.string s))] (bA (l.any fun x => decide (s = x))) := by
 refine pure_enter ttOk Tryz.call76 Tryz.func76 rfl fun H hB hb hF => ?_
 rw [Tryz.results76, Tryz.ntmps76]
 simp only [arr_list, List.length_cons, List.length_nil, List.replicate, List.cons_append, List.nil_append, Nat.reduceAdd, Nat.reduceSub]
 repeat refine aw_seq ?_
 refine aw_run ttOk (by kernel_rfl) (by simp only [erun, eall, estep, avs, tts, Nat.reduceAdd, Nat.reduceMul, Nat.reduceSub, Nat.reduceEqDiff, Nat.reduceLT, Nat.reduceLeDiff, Int.reduceToNat, Int.reduceLE, Int.reduceLT, Int.toNat_natCast, reduceCtorEq] <;> first | with_reducible rfl | rfl) ?_
 repeat refine aw_seq ?_
 refine aw_region ttOk (by kernel_rfl) ?_
 refine aops_run 2 (by simp only [erun, eall, estep, avs, tts, Nat.reduceAdd, Nat.reduceMul, Nat.reduceSub, Nat.reduceEqDiff, Nat.reduceLT, Nat.reduceLeDiff, Int.reduceToNat, Int.reduceLE, Int.reduceLT, Int.toNat_natCast, reduceCtorEq] <;> first | with_reducible rfl | rfl) ?_
 refine aops_pure rfl (by simp only [avs] <;> rfl) (index_a base l s) (by simp only [avs] <;> rfl) ?_
 refine aops_run 2 (by simp only [erun, eall, estep, avs, tts, Nat.reduceAdd, Nat.reduceMul, Nat.reduceSub, Nat.reduceEqDiff, Nat.reduceLT, Nat.reduceLeDiff, Int.reduceToNat, Int.reduceLE, Int.reduceLT, Int.toNat_natCast, reduceCtorEq, iA] <;> first | with_reducible rfl | rfl) ?_
 refine aops_nil ?_
 exact aw_ret ⟨_, rfl, [], by simp, by rw [← idx_ge]; rfl⟩
theorem indexf_a {base : World} {H : AHeap} (l : List ByteArray) (p : ByteArray → Bool) (g : Nat) (first caps : List AV) (hg : ∀ s ∈ l, ReadA Tryz.prog base g (first ++ [.d (.v (.string s))] ++ caps) H (bA (p s))) : ReadA Tryz.prog base 103 [.d (strsP l), .fn (.func g) first caps] H (iA (idxR p l)) := by
 refine read_enter ttOk Tryz.call103 Tryz.func103 rfl fun hB hb hF => ?_
 rw [Tryz.results103, Tryz.ntmps103]
 simp only [arr_list, List.length_cons, List.length_nil, List.replicate, List.cons_append, List.nil_append, Nat.reduceAdd, Nat.reduceSub]
 have hL : l.length ≤ 9223372036854775807 := by simpa [strsP, fctL, fctA, fctP] using hF.1.1
 repeat refine aw_seq ?_
 refine aw_run ttOk (by kernel_rfl) (by simp only [erun, eall, estep, avs, tts, Nat.reduceAdd, Nat.reduceMul, Nat.reduceSub, Nat.reduceEqDiff, Nat.reduceLT, Nat.reduceLeDiff, Int.reduceToNat, Int.reduceLE, Int.reduceLT, Int.toNat_natCast, reduceCtorEq] <;> first | with_reducible rfl | rfl) ?_
 repeat refine aw_seq ?_
 refine aw_run ttOk (by kernel_rfl) (by simp only [erun, eall, estep, avs, tts, Nat.reduceAdd, Nat.reduceMul, Nat.reduceSub, Nat.reduceEqDiff, Nat.reduceLT, Nat.reduceLeDiff, Int.reduceToNat, Int.reduceLE, Int.reduceLT, Int.toNat_natCast, reduceCtorEq, strsP] <;> first | with_reducible rfl | rfl) ?_
 refine aw_block (aw_loop (fun n env H' => ∃ k, n = l.length - k ∧ k ≤ l.length ∧ H' = H ∧ (∀ j, j < k → ∀ h : j < l.length, p l[j] = false) ∧ env = [.d (strsP l), .fn (.func g) first caps, .undef, .undef, .undef, .undef, .undef, iA l.length, iA k] ++ List.replicate 10 .undef) ?_ ⟨0, rfl, Nat.zero_le _, rfl, fun j hj => by omega, rfl⟩ ?_)
 ·simp [Goes, EnvLe, strsP, iA, List.replicate]
 rintro n env H' ⟨k, rfl, hk, rfl, hj, rfl⟩ hN
 simp only [List.replicate, List.cons_append, List.nil_append, iA]
 repeat refine aw_seq ?_
 refine aw_run ttOk (by kernel_rfl) (by simp only [erun, eall, estep, avs, tts, Nat.reduceAdd, Nat.reduceMul, Nat.reduceSub, Nat.reduceEqDiff, Nat.reduceLT, Nat.reduceLeDiff, Int.reduceToNat, Int.reduceLE, Int.reduceLT, Int.toNat_natCast, reduceCtorEq] <;> first | with_reducible rfl | rfl) ?_
 repeat refine aw_seq ?_
 refine aw_cond rfl rfl (fun hb => ?_) fun hb => ?_
 ·have hlt : k < l.length := by simpa using hb
  have hix : (0 : Int) ≤ (k : Int) := by omega
  have hgd : (l.map fun s => [PD.v (.string s)]).getD k [] = [.v (.string l[k])] := by simp [hlt]
  refine aw_skip ?_
  repeat refine aw_seq ?_
  refine aw_block ?_
  repeat refine aw_seq ?_
  refine aw_run ttOk (by kernel_rfl) (by simp only [erun, eall, estep, avs, tts, Nat.reduceAdd, Nat.reduceMul, Nat.reduceSub, Nat.reduceEqDiff, Nat.reduceLT, Nat.reduceLeDiff, Int.reduceToNat, Int.reduceLE, Int.reduceLT, Int.toNat_natCast, reduceCtorEq] <;> first | with_reducible rfl | rfl) ?_
  repeat refine aw_seq ?_
  refine aw_region ttOk (by kernel_rfl) ?_
  refine aops_run 5 (by simp only [erun, eall, estep, avs, tts, Nat.reduceAdd, Nat.reduceMul, Nat.reduceSub, Nat.reduceEqDiff, Nat.reduceLT, Nat.reduceLeDiff, Int.reduceToNat, Int.reduceLE, Int.reduceLT, Int.toNat_natCast, reduceCtorEq, strsP, hgd, hix, hlt] <;> first | with_reducible rfl | rfl) ?_
  refine aops_read rfl (by simp only [avs] <;> rfl) (hg _ (List.getElem_mem hlt)) (by simp only [avs] <;> rfl) ?_
  refine aops_nil ?_
  repeat refine aw_seq ?_
  refine aw_cond rfl rfl (fun hb => ?_) fun hb => ?_
  ·repeat refine aw_seq ?_
   refine aw_run ttOk (by kernel_rfl) (by simp only [erun, eall, estep, avs, tts, Nat.reduceAdd, Nat.reduceMul, Nat.reduceSub, Nat.reduceEqDiff, Nat.reduceLT, Nat.reduceLeDiff, Int.reduceToNat, Int.reduceLE, Int.reduceLT, Int.toNat_natCast, reduceCtorEq] <;> first | with_reducible rfl | rfl) ?_
   exact aw_ret ⟨_, rfl, [], by simp, by rw [idx_some hlt hj hb]; rfl⟩
  ·refine aw_skip ?_
   repeat refine aw_seq ?_
   refine aw_run ttOk (by kernel_rfl) (by simp only [erun, eall, estep, avs, tts, Nat.reduceAdd, Nat.reduceMul, Nat.reduceSub, Nat.reduceEqDiff, Nat.reduceLT, Nat.reduceLeDiff, Int.reduceToNat, Int.reduceLE, Int.reduceLT, Int.toNat_natCast, reduceCtorEq, wrap_succ hlt hL] <;> first | with_reducible rfl | rfl) ?_
   refine ⟨l.length - (k + 1), _, _, by omega, ⟨?_, .inl rfl⟩, k + 1, rfl, hlt, rfl, fun j hjk h => ?_, rfl⟩
   ·simp [EnvLe, strsP, iA, List.replicate]
   ·rcases Nat.lt_succ_iff_lt_or_eq.1 hjk with h1 | rfl
    ·exact hj j h1 h
    ·exact hb
 ·refine aw_exit ?_
  repeat refine aw_seq ?_
  refine aw_run ttOk (by kernel_rfl) (by simp only [erun, eall, estep, avs, tts, Nat.reduceAdd, Nat.reduceMul, Nat.reduceSub, Nat.reduceEqDiff, Nat.reduceLT, Nat.reduceLeDiff, Int.reduceToNat, Int.reduceLE, Int.reduceLT, Int.toNat_natCast, reduceCtorEq] <;> first | with_reducible rfl | rfl) ?_
  have hkL : k = l.length := by simp at hb; omega
  exact aw_ret ⟨_, rfl, [], by simp, by rw [idx_none fun j hjl => hj j (by omega)]; rfl⟩
theorem containsf_a {base : World} {H : AHeap} (l : List ByteArray) (p : ByteArray → Bool) (g : Nat) (first caps : List AV) (hg : ∀ s ∈ l, ReadA Tryz.prog base g (first ++ [.d (.v (.string s))] ++ caps) H (bA (p s))) : ReadA Tryz.prog base 74 [.d (strsP l), .fn (.func g) first caps] H (bA (l.any p)) := by
 refine read_enter ttOk Tryz.call74 Tryz.func74 rfl fun hB hb hF => ?_
 rw [Tryz.results74, Tryz.ntmps74]
 simp only [arr_list, List.length_cons, List.length_nil, List.replicate, List.cons_append, List.nil_append, Nat.reduceAdd, Nat.reduceSub]
 repeat refine aw_seq ?_
 refine aw_run ttOk (by kernel_rfl) (by simp only [erun, eall, estep, avs, tts, Nat.reduceAdd, Nat.reduceMul, Nat.reduceSub, Nat.reduceEqDiff, Nat.reduceLT, Nat.reduceLeDiff, Int.reduceToNat, Int.reduceLE, Int.reduceLT, Int.toNat_natCast, reduceCtorEq] <;> first | with_reducible rfl | rfl) ?_
 repeat refine aw_seq ?_
 refine aw_region ttOk (by kernel_rfl) ?_
 refine aops_run 2 (by simp only [erun, eall, estep, avs, tts, Nat.reduceAdd, Nat.reduceMul, Nat.reduceSub, Nat.reduceEqDiff, Nat.reduceLT, Nat.reduceLeDiff, Int.reduceToNat, Int.reduceLE, Int.reduceLT, Int.toNat_natCast, reduceCtorEq] <;> first | with_reducible rfl | rfl) ?_
 refine aops_read rfl (by simp only [avs] <;> rfl) (indexf_a l p g first caps hg) (by simp only [avs] <;> rfl) ?_
 refine aops_run 2 (by simp only [erun, eall, estep, avs, tts, Nat.reduceAdd, Nat.reduceMul, Nat.reduceSub, Nat.reduceEqDiff, Nat.reduceLT, Nat.reduceLeDiff, Int.reduceToNat, Int.reduceLE, Int.reduceLT, Int.toNat_natCast, reduceCtorEq, iA] <;> first | with_reducible rfl | rfl) ?_
 refine aops_nil ?_
 exact aw_ret ⟨_, rfl, [], by simp, by rw [← idx_ge]; rfl⟩
end Av
end Go.Proofs.YtnkepmfgmfeabaaGreatDoor
